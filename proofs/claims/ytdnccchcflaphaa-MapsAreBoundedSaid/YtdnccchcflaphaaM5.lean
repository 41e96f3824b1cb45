/- M5: contracts of functions of the program: called in any world that meets a contract's premises, the function returns what the contract says and changes no more than it says. -/
import Derived.Test.YtdnccchcflaphaaM4
import Derived.Test.YtdnccchcflaphaaEng8
import Derived.Test.YtdnccchcflaphaaEng9
import Derived.Test.YtdnccchcflaphaaChecked
open Go Go.Eng Go.Proofs
namespace Go.Proofs.Ytdnccchcflaphaa
theorem clone_spec (l : List UInt8) (a : Option Addr) (n c : Nat) (w : World) (hn : l.length = n) (h0 : 0 < n) (hbig : n ≤ 1048576) (hsl : SlAt w a (bs l)) :
    Rtn Try.prog 18 [Value.slice a n c].toArray w (fun v w' => Owns w' w.heap.size 5 1 v n (bs l) ∧ Kept w w') := by
  obtain ⟨bb, bo, rfl, hrd⟩ := SlAt.pos hsl (bs_ne (by omega))
  refine fn_body (l := [Value.slice (some ⟨bb, bo, none⟩) n c]) 8 [.tmp 2] Try.func18 rfl Try.ntmps18 (Nat.le_of_ble_eq_true rfl) (by rw [Try.results18]) ?_
  refine go_seq ?_
  refine go_region 1 rfl rfl ?_
  refine s_val rfl rfl (r_assign) rfl ?_
  refine s_end ?_
  refine go_seq ?_
  refine go_seq ?_
  refine go_region 2 rfl rfl ?_
  refine s_val rfl rfl (r_move) rfl ?_
  refine s_val rfl rfl (r_eqNil Try.underlying22 rfl) rfl ?_
  refine s_end ?_
  refine go_false rfl ?_
  refine go_skip ?_
  refine go_seq ?_
  refine go_region 4 rfl rfl ?_
  refine s_do rfl rfl (w_build0 (E := 5) (sz := 1) Try.underlying22 (i := Try.t5) (by kernel_rfl) rfl rfl) rfl ?_
  rintro v3 w1 ⟨o2, c_w1⟩
  have hs_w1 : w.heap.size ≤ w1.heap.size := Chg.size c_w1
  have C_w1 := Chg.pure (Chg.refl no w) c_w1
  obtain ⟨A4, cap5, rfl, hc_cap5, -, -⟩ := Owns.form o2
  refine s_val rfl rfl (r_move) rfl ?_
  refine s_do rfl rfl (w_append (E := 5) (sz := 1) Try.underlying22 rfl (i := Try.t5) (by kernel_rfl) rfl rfl rfl rfl (by rfl) o2 rfl (hsl.k C_w1) (by first | rfl | (rw [bs_length]; omega) | (simp [bs_length]; done) | (simp [bs_length]; omega)) (flat_bs _) (by omega) (by show _ * 1 ≤ _; omega) (by omega)) rfl ?_
  rintro v10 w6 ⟨o7, c_w6⟩
  have hs_w6 : w1.heap.size ≤ w6.heap.size := Chg.size c_w6
  have C_w6 := Chg.newOb C_w1 c_w6 o2 (by omega)
  obtain ⟨A8, cap9, rfl, hc_cap9, -, -⟩ := Owns.form o7
  replace o7 := Owns.nilB o7
  refine s_val rfl rfl (r_assign) rfl ?_
  refine s_end ?_
  refine go_ret ?_
  refine ⟨_, .cons rfl (.nil), ?_⟩
  show Owns _ _ _ _ (.slice _ (0 + n) _) n _ ∧ _
  have hq := o7
  rw [Nat.zero_add] at hq ⊢
  exact ⟨hq, C_w6⟩

attribute [simp] putAt_length
def longTo (n : Nat) : Nat → List UInt8
  | 0 => List.replicate 8 0
  | k + 1 => (longTo n k).set k (b8 ((n : Int) / 2 ^ (56 - 8 * (k : Int)).toNat))
@[simp] theorem longTo_length (n k : Nat) : (longTo n k).length = 8 := by induction k with | zero => rfl | succ k ih => simp [longTo, ih]
/-- the state of the reference behind k blocks -/
def absorbR (st l : List UInt8) : Nat → List UInt8
  | 0 => st
  | k + 1 => stir (xorTo (absorbR st l k) (l.drop (32 * k)) 32)
theorem absorbR_length (st l : List UInt8) (k : Nat) (h : st.length = 64) : (absorbR st l k).length = 64 := by cases k with | zero => exact h | succ k => simp [absorbR]
def textR (l : List UInt8) : List UInt8 := ((l ++ [128]) ++ List.replicate ((32 - (l.length + 1) % 32) % 32) 0 ++ List.replicate 24 0) ++ longTo l.length 8

theorem long_spec (n : Nat) (w : World) (hn : n < 4611686018427387904) :
    Rtn Try.prog 59 [i64 (n : Nat)].toArray w (fun v w' => ∃ b, v = .slice (some ⟨b, 0, none⟩) 8 8 ∧ w.heap.size ≤ b ∧ b < w'.heap.size ∧ Pc w' b 0 (bs (longTo n 8)) ∧ Kept w w') := by
  refine fn_body (l := [i64 (n : Nat)]) 22 [.tmp 2] Try.func59 rfl Try.ntmps59 (Nat.le_of_ble_eq_true rfl) (by rw [Try.results59]) ?_
  refine go_seq ?_
  refine go_region 1 rfl rfl ?_
  refine s_val rfl rfl (r_assign) rfl ?_
  refine s_end ?_
  refine go_seq ?_
  refine go_region 2 rfl rfl ?_
  refine s_do rfl rfl (w_make (n := 8) (c := 8) (E := 5) Try.underlying22 (i := Try.t5) (by kernel_rfl) rfl rfl rfl rfl rfl (by first | rfl | omega) (by first | rfl | omega) (by omega) (by first | decide | (show _ * 1 ≤ _; omega) | (show _ * 8 ≤ _; omega)) (by omega)) rfl ?_
  rintro _ w1 ⟨b2, rfl, hl_b2, hu_b2, o4, p3, c_w1⟩
  have hs_w1 : w.heap.size ≤ w1.heap.size := Chg.size c_w1
  have C_w1 := Chg.pure (Chg.refl no w) c_w1
  have hn_b2 : w.heap.size ≤ b2 := by have := Chg.size C_w1; omega
  replace p3 : Pc w1 b2 0 (bs (List.replicate 8 0)) := by rw [bs_rep]; exact p3
  refine s_val rfl rfl (r_assign) rfl ?_
  refine s_end ?_
  refine go_seq ?_
  refine go_seq ?_
  refine go_region 3 rfl rfl ?_
  refine s_val rfl rfl (r_move) rfl ?_
  refine s_val rfl rfl (r_len Try.runUnderlying22 rfl) rfl ?_
  refine s_val rfl rfl (r_move) rfl ?_
  refine s_end ?_
  refine go_block ?_
  refine go_loopM (σ := Nat) [(4, 4), (8, 20)] (fun (k : Nat) e' w' => e' 8 = i64 (k : Nat) ∧ k ≤ 8 ∧ Pc w' b2 0 (bs (longTo n k)) ∧ b2 < w'.heap.size ∧ Chg no w w') (fun (k : Nat) => 8 - k) 0 ?_ ?_
  · exact ⟨rfl, by omega, p3, by omega, C_w1⟩
  rintro k f6 w5 ⟨e7, hk, p3, hu_b2, C_w5⟩
  obtain ⟨f8, rfl⟩ : ∃ g_, f6 = upd g_ 8 (i64 (k : Nat)) := ⟨f6, upd_id e7⟩
  have hs_w5 : w.heap.size ≤ w5.heap.size := Chg.size C_w5
  have hw := longTo_length n k
  refine go_seq ?_
  refine go_region 1 rfl rfl ?_
  refine s_val rfl rfl (r_lss rfl rfl) rfl ?_
  refine s_end ?_
  refine go_seq ?_
  refine go_ifb _ rfl (fun h => ?_) (fun h => ?_)
  · first | replace h := of_decide_eq_true h | replace h := of_decide_eq_false (nt h) | skip
    refine go_skip ?_
    refine go_seq ?_
    refine go_block ?_
    refine go_seq ?_
    refine go_region 2 rfl rfl ?_
    refine s_val rfl rfl (r_move) rfl ?_
    refine s_val rfl rfl (r_assign) rfl ?_
    refine s_end ?_
    refine go_region 10 rfl rfl ?_
    refine s_val rfl rfl (r_move) rfl ?_
    refine s_val rfl rfl (r_move) rfl ?_
    refine s_val rfl rfl (r_move) rfl ?_
    refine s_val rfl rfl (r_move) rfl ?_
    refine s_val rfl rfl (r_muli rfl rfl (by omega)) rfl ?_
    refine s_val rfl rfl (r_subi rfl rfl (by omega)) rfl ?_
    refine s_val rfl rfl (r_shri rfl rfl (by omega) (by omega)) rfl ?_
    refine s_val rfl rfl (r_conv_u8 Try.runUnderlying3 Try.runUnderlying5 rfl) rfl ?_
    refine s_val rfl rfl (r_indexSlP (k := k) Try.runUnderlying22 Try.sizeOf5 rfl p3.rd (by exact bs_ne (by first | omega | (simp; done) | (simp; omega))) rfl (by first | rfl | omega) (by omega)) rfl ?_
    refine s_do rfl rfl (w_set_b (o := 0) (k := k) Try.sizeOf5 rfl rfl p3 (by first | omega | (simp; done) | (simp; omega))) rfl ?_
    rintro _ w9 ⟨q_w9, c_w9⟩
    have hs_w9 : w5.heap.size ≤ w9.heap.size := Chg.size c_w9
    have C_w9 := Chg.newRng C_w5 c_w9 (by omega)
    have p3 := q_w9
    refine s_end ?_
    refine go_nil (block_normal ?_)
    refine go_region 2 rfl rfl ?_
    refine s_val rfl rfl (r_addi rfl rfl (by omega)) rfl ?_
    refine s_val rfl rfl (r_move) rfl ?_
    refine s_end ?_
    refine go_nil (loop_normal ⟨⟨(k + 1), by first | omega | (dsimp only; omega), ⟨rfl, by omega, p3, by omega, C_w9⟩⟩, (by repeat (first | exact same_refl | exact same_over | refine same_upd rfl ?_ | refine same_over2 rfl ?_))⟩)
  · first | replace h := of_decide_eq_false h | replace h := of_decide_eq_true (nf h) | skip
    obtain rfl : k = 8 := by omega
    refine go_exit (loop_exit (block_hit ?_))
    refine go_seq ?_
    refine go_region 2 rfl rfl ?_
    refine s_val rfl rfl (r_move) rfl ?_
    refine s_val rfl rfl (r_assign) rfl ?_
    refine s_end ?_
    refine go_ret ?_
    refine ⟨_, .cons rfl (.nil), ?_⟩
    exact ⟨_, rfl, hn_b2, by omega, p3, C_w5⟩


def textRn (l : List UInt8) (n : Nat) : List UInt8 := (((l ++ [128]) ++ List.replicate ((32 - (l.length + 1) % 32) % 32) 0) ++ List.replicate 24 0) ++ longTo n 8
theorem textRn_length (l : List UInt8) (n : Nat) : (textRn l n).length = l.length + 1 + (32 - (l.length + 1) % 32) % 32 + 32 := by simp [textRn]; omega
def stateR (d : Int) (l : List UInt8) (n : Nat) : List UInt8 := absorbR (initS d) (textRn l n) ((textRn l n).length / 32)
@[simp] theorem stateR_length (d : Int) (l : List UInt8) (n : Nat) : (stateR d l n).length = 64 := absorbR_length _ _ _ (initS_length d)

set_option maxHeartbeats 2000000 in
theorem stateR_spec (d : Int) (l : List UInt8) (a : Option Addr) (n c : Nat) (w : World) (hn : l.length = n) (h0 : 0 < n) (hbig : n ≤ 1048576) (hsl : SlAt w a (bs l)) :
    Rtn Try.prog 47 [i64 d, Value.slice a n c].toArray w (fun v w' => v = .agg (bs (stateR d l n)).toArray ∧ Kept w w') := by
  refine fn_body (l := [i64 d, Value.slice a n c]) 50 [.cell 4 90] Try.func47 rfl Try.ntmps47 (Nat.le_of_ble_eq_true rfl) (by rw [Try.results47]) ?_
  refine go_seq ?_
  refine go_region 1 rfl rfl ?_
  refine s_do rfl rfl (w_alloc (bs (List.replicate 64 0)) Try.zeroValue90 (by kernel_rfl)) rfl ?_
  rintro _ w1 ⟨b2, rfl, hl_b2, hu_b2, p3, c_w1⟩
  have hs_w1 : w.heap.size ≤ w1.heap.size := Chg.size c_w1
  have C_w1 := Chg.pure (Chg.refl no w) c_w1
  have hn_b2 : w.heap.size ≤ b2 := by have := Chg.size C_w1; omega
  refine s_end ?_
  refine go_seq ?_
  refine go_region 1 rfl rfl ?_
  refine s_do rfl rfl (w_alloc (bs (List.replicate 64 0)) Try.zeroValue90 (by kernel_rfl)) rfl ?_
  rintro _ w4 ⟨b5, rfl, hl_b5, hu_b5, p6, c_w4⟩
  have hs_w4 : w1.heap.size ≤ w4.heap.size := Chg.size c_w4
  replace p3 := p3.k c_w4
  have C_w4 := Chg.pure C_w1 c_w4
  have hn_b5 : w.heap.size ≤ b5 := by have := Chg.size C_w4; omega
  refine s_end ?_
  refine go_seq ?_
  refine go_region 4 rfl rfl ?_
  refine s_val rfl rfl (r_move) rfl ?_
  refine s_val rfl rfl (r_conv_u8 Try.runUnderlying3 Try.runUnderlying5 rfl) rfl ?_
  refine s_val rfl rfl (r_indexArr (k := 63) Try.runUnderlying90 Try.sizeOf5 rfl rfl (by first | rfl | omega) (by first | decide | omega)) rfl ?_
  refine s_do rfl rfl (w_set_b (o := 0) (k := 63) Try.sizeOf5 rfl rfl p6 (by first | omega | (simp; done) | (simp; omega))) rfl ?_
  rintro _ w7 ⟨q_w7, c_w7⟩
  have hs_w7 : w4.heap.size ≤ w7.heap.size := Chg.size c_w7
  replace p3 := p3.kb c_w7 (by omega)
  have C_w7 := Chg.newRng C_w4 c_w7 (by omega)
  have p6 := q_w7
  refine s_end ?_
  refine go_seq ?_
  refine go_region 5 rfl rfl ?_
  refine s_val rfl rfl (r_move) rfl ?_
  refine s_do rfl rfl (w_call Try.call18 rfl (clone_spec l _ _ _ _ (by first | omega | (simp; done) | (simp; omega)) (by first | omega | (simp; done) | (simp; omega)) (by first | omega | (simp; done) | (simp; omega)) (hsl.k C_w7))) rfl ?_
  rintro v10 w8 ⟨o9, c_w8⟩
  have hs_w8 : w7.heap.size ≤ w8.heap.size := Chg.size c_w8
  replace p3 := p3.k c_w8
  replace p6 := p6.k c_w8
  have C_w8 := Chg.pure C_w7 c_w8
  obtain ⟨A11, cap12, rfl, hc_cap12, -, -⟩ := Owns.form o9
  refine s_do rfl rfl (w_build1 (E := 5) Try.underlying22 (i := Try.t5) (by kernel_rfl) rfl rfl rfl rfl rfl) rfl ?_
  rintro _ w13 ⟨b14, rfl, hl_b14, hu_b14, o16, p15, c_w13⟩
  have ne_b14_o9 := Owns.ne_ge o9 hl_b14
  have hs_w13 : w8.heap.size ≤ w13.heap.size := Chg.size c_w13
  replace p3 := p3.k c_w13
  replace p6 := p6.k c_w13
  replace o9 := o9.k c_w13
  have C_w13 := Chg.pure C_w8 c_w13
  have hn_b14 : w.heap.size ≤ b14 := by have := Chg.size C_w13; omega
  replace p15 : Pc w13 b14 0 (bs [128]) := p15
  refine s_do rfl rfl (w_append (E := 5) (sz := 1) Try.underlying22 rfl (i := Try.t5) (by kernel_rfl) rfl rfl rfl rfl (by rfl) o9 rfl (SlAt.some p15.rd) (by first | rfl | (rw [bs_length]; omega) | (simp [bs_length]; done) | (simp [bs_length]; omega)) (flat_bs _) (by omega) (by show _ * 1 ≤ _; omega) (by omega)) rfl ?_
  rintro v21 w17 ⟨o18, c_w17⟩
  have hs_w17 : w13.heap.size ≤ w17.heap.size := Chg.size c_w17
  replace p3 := p3.kob c_w17 (Owns.ne_lt o9 (by omega))
  replace p6 := p6.kob c_w17 (Owns.ne_lt o9 (by omega))
  replace p15 := p15.kob c_w17 ne_b14_o9
  have C_w17 := Chg.newOb C_w13 c_w17 o9 (by omega)
  obtain ⟨A19, cap20, rfl, hc_cap20, -, -⟩ := Owns.form o18
  replace o18 := Owns.appB o18
  refine s_val rfl rfl (r_assign) rfl ?_
  refine s_end ?_
  refine go_seq ?_
  refine go_block ?_
  refine go_loopM (σ := Nat × Option Addr × Nat × Nat) [(6, 6), (15, 21)] (fun (x_ : Nat × Option Addr × Nat × Nat) e' w' => match x_ with | (k, a1, n1, c1) => e' 6 = Value.slice a1 n1 c1 ∧ n1 = l.length + 1 + k ∧ k ≤ (32 - (l.length + 1) % 32) % 32 ∧ w7.heap.size ≤ w'.heap.size ∧ Owns w' (w7.heap.size) 5 1 (Value.slice a1 n1 c1) n1 (bs ((l ++ [128]) ++ List.replicate k 0)) ∧ n1 ≤ c1 ∧ Pc w' b2 0 (bs (List.replicate 64 0)) ∧ b2 < w'.heap.size ∧ Pc w' b5 0 (bs (initS d)) ∧ b5 < w'.heap.size ∧ Chg no w w') (fun (x_ : Nat × Option Addr × Nat × Nat) => match x_ with | (k, a1, n1, c1) => 31 - k) (0, A19, (n + 1), cap20) ?_ ?_
  · exact ⟨rfl, by omega, by omega, by omega, by simpa using o18, by omega, p3, by omega, p6, by omega, C_w17⟩
  rintro ⟨k, a1, n1, c1⟩ f23 w22 ⟨e24, hn1, hk, hB_ho1, ho1, hc1, p3, hu_b2, p6, hu_b5, C_w22⟩
  obtain ⟨f25, rfl⟩ : ∃ g_, f23 = upd g_ 6 (Value.slice a1 n1 c1) := ⟨f23, upd_id e24⟩
  have hs_w22 : w.heap.size ≤ w22.heap.size := Chg.size C_w22
  refine go_seq ?_
  refine go_seq ?_
  refine go_region 4 rfl rfl ?_
  refine s_val rfl rfl (r_move) rfl ?_
  refine s_val rfl rfl (r_len Try.runUnderlying22 rfl) rfl ?_
  refine s_val rfl rfl (r_remi rfl rfl (by omega) (by omega)) rfl ?_
  refine s_val rfl rfl (r_neq rfl rfl) rfl ?_
  refine s_end ?_
  refine go_ifb _ rfl (fun h1 => ?_) (fun h1 => ?_)
  · first | replace h1 := of_decide_eq_true h1 | replace h1 := of_decide_eq_false (nt h1) | skip
    refine go_skip ?_
    refine go_block ?_
    refine go_region 4 rfl rfl ?_
    refine s_val rfl rfl (r_move) rfl ?_
    refine s_do rfl rfl (w_build1 (E := 5) Try.underlying22 (i := Try.t5) (by kernel_rfl) rfl rfl rfl rfl rfl) rfl ?_
    rintro _ w26 ⟨b27, rfl, hl_b27, hu_b27, o29, p28, c_w26⟩
    have ne_b27_ho1 := Owns.ne_ge ho1 hl_b27
    have hs_w26 : w22.heap.size ≤ w26.heap.size := Chg.size c_w26
    replace ho1 := ho1.k c_w26
    replace p3 := p3.k c_w26
    replace p6 := p6.k c_w26
    have C_w26 := Chg.pure C_w22 c_w26
    have hn_b27 : w.heap.size ≤ b27 := by have := Chg.size C_w26; omega
    replace p28 : Pc w26 b27 0 (bs [0]) := p28
    refine s_do rfl rfl (w_append (E := 5) (sz := 1) Try.underlying22 rfl (i := Try.t5) (by kernel_rfl) rfl rfl rfl rfl (by rfl) ho1 rfl (SlAt.some p28.rd) (by first | rfl | (rw [bs_length]; omega) | (simp [bs_length]; done) | (simp [bs_length]; omega)) (flat_bs _) (by omega) (by show _ * 1 ≤ _; omega) (by omega)) rfl ?_
    rintro v34 w30 ⟨o31, c_w30⟩
    have hs_w30 : w26.heap.size ≤ w30.heap.size := Chg.size c_w30
    replace p3 := p3.kob c_w30 (Owns.ne_lt ho1 (by omega))
    replace p6 := p6.kob c_w30 (Owns.ne_lt ho1 (by omega))
    replace p28 := p28.kob c_w30 ne_b27_ho1
    have C_w30 := Chg.newOb C_w26 c_w30 ho1 (by omega)
    obtain ⟨A32, cap33, rfl, hc_cap33, -, -⟩ := Owns.form o31
    replace o31 := Owns.appB o31
    refine s_val rfl rfl (r_assign) rfl ?_
    refine s_end ?_
    refine go_nil (block_normal ?_)
    refine go_nil (loop_normal ⟨⟨(k + 1, _, n1 + 1, _), by first | omega | (dsimp only; omega), ⟨rfl, by omega, by omega, by omega, by have h_ := o31; rwa [List.append_assoc, ← List.replicate_succ'] at h_, by omega, p3, by omega, p6, by omega, C_w30⟩⟩, (by repeat (first | exact same_refl | exact same_over | refine same_upd rfl ?_ | refine same_over2 rfl ?_))⟩)
  · first | replace h1 := of_decide_eq_false h1 | replace h1 := of_decide_eq_true (nf h1) | skip
    obtain rfl : k = (32 - (l.length + 1) % 32) % 32 := by omega
    have hTl := textRn_length l n
    have hab0 := initS_length d
    refine go_exit (loop_exit (block_hit ?_))
    refine go_seq ?_
    refine go_region 3 rfl rfl ?_
    refine s_val rfl rfl (r_move) rfl ?_
    refine s_do rfl rfl (w_appendZ (E := 5) (m := 24) Try.underlying22 Try.underlying3 (i := Try.t5) (by kernel_rfl) rfl rfl rfl rfl (by rfl) ho1 rfl (by first | rfl | omega) (by omega) (by omega) (by show _ * 1 ≤ _; omega) (by omega)) rfl ?_
    rintro v39 w35 ⟨o36, c_w35⟩
    have hs_w35 : w22.heap.size ≤ w35.heap.size := Chg.size c_w35
    replace p3 := p3.kob c_w35 (Owns.ne_lt ho1 (by omega))
    replace p6 := p6.kob c_w35 (Owns.ne_lt ho1 (by omega))
    have C_w35 := Chg.newOb C_w22 c_w35 ho1 (by omega)
    obtain ⟨A37, cap38, rfl, hc_cap38, -, -⟩ := Owns.form o36
    replace o36 := Owns.appZ o36
    refine s_val rfl rfl (r_assign) rfl ?_
    refine s_end ?_
    refine go_seq ?_
    refine go_region 6 rfl rfl ?_
    refine s_val rfl rfl (r_move) rfl ?_
    refine s_val rfl rfl (r_move) rfl ?_
    refine s_val rfl rfl (r_len Try.runUnderlying22 rfl) rfl ?_
    refine s_do rfl rfl (w_call Try.call59 rfl (long_spec _ _ (by omega))) rfl ?_
    rintro _ w40 ⟨b41, rfl, hl_b41, hu_b41, p42, c_w40⟩
    have ne_b41_o36 := Owns.ne_ge o36 hl_b41
    have hs_w40 : w35.heap.size ≤ w40.heap.size := Chg.size c_w40
    replace p3 := p3.k c_w40
    replace p6 := p6.k c_w40
    replace o36 := o36.k c_w40
    have C_w40 := Chg.pure C_w35 c_w40
    have hn_b41 : w.heap.size ≤ b41 := by have := Chg.size C_w40; omega
    refine s_do rfl rfl (w_append (E := 5) (sz := 1) Try.underlying22 rfl (i := Try.t5) (by kernel_rfl) rfl rfl rfl rfl (by rfl) o36 rfl (SlAt.some p42.rd) (by first | rfl | (rw [bs_length]; omega) | (simp [bs_length]; done) | (simp [bs_length]; omega)) (flat_bs _) (by omega) (by show _ * 1 ≤ _; omega) (by omega)) rfl ?_
    rintro v47 w43 ⟨o44, c_w43⟩
    have hs_w43 : w40.heap.size ≤ w43.heap.size := Chg.size c_w43
    replace p3 := p3.kob c_w43 (Owns.ne_lt o36 (by omega))
    replace p6 := p6.kob c_w43 (Owns.ne_lt o36 (by omega))
    replace p42 := p42.kob c_w43 ne_b41_o36
    have C_w43 := Chg.newOb C_w40 c_w43 o36 (by omega)
    obtain ⟨A45, cap46, rfl, hc_cap46, -, -⟩ := Owns.form o44
    replace o44 := Owns.appB o44
    refine s_val rfl rfl (r_assign) rfl ?_
    refine s_end ?_
    refine go_seq ?_
    refine go_block ?_
    refine go_loopM (σ := Nat × Option Addr × Nat × Nat) [(6, 7), (29, 48)] (fun (x_ : Nat × Option Addr × Nat × Nat) e' w' => match x_ with | (k, a3, n3, c3) => e' 6 = Value.slice a3 n3 c3 ∧ n3 + 32 * k = (textRn l n).length ∧ n3 ≤ c3 ∧ SlAt w' a3 (bs ((textRn l n).drop (32 * k))) ∧ (∀ x, a3 = some x → w7.heap.size ≤ x.block) ∧ Pc w' b2 0 (bs (List.replicate 64 0)) ∧ b2 < w'.heap.size ∧ Pc w' b5 0 (bs (absorbR (initS d) (textRn l n) k)) ∧ b5 < w'.heap.size ∧ Chg no w w') (fun (x_ : Nat × Option Addr × Nat × Nat) => match x_ with | (k, a3, n3, c3) => n3) (0, A45, ((n1 + 24) + 8), cap46) ?_ ?_
    · exact ⟨rfl, by omega, by omega, Owns.sl o44, Owns.lo o44, p3, by omega, p6, by omega, C_w43⟩
    rintro ⟨k, a3, n3, c3⟩ f49 w48 ⟨e50, hk, hc3, hsl3, hlo3, p3, hu_b2, p6, hu_b5, C_w48⟩
    obtain ⟨f51, rfl⟩ : ∃ g_, f49 = upd g_ 6 (Value.slice a3 n3 c3) := ⟨f49, upd_id e50⟩
    have hs_w48 : w.heap.size ≤ w48.heap.size := Chg.size C_w48
    have hab := absorbR_length (initS d) (textRn l n) k (initS_length d)
    have hdl : ((textRn l n).drop (32 * k)).length = n3 := by rw [List.length_drop]; omega
    refine go_seq ?_
    refine go_seq ?_
    refine go_region 3 rfl rfl ?_
    refine s_val rfl rfl (r_move) rfl ?_
    refine s_val rfl rfl (r_len Try.runUnderlying22 rfl) rfl ?_
    refine s_val rfl rfl (r_gtr rfl rfl) rfl ?_
    refine s_end ?_
    refine go_ifb _ rfl (fun h2 => ?_) (fun h2 => ?_)
    · first | replace h2 := of_decide_eq_true h2 | replace h2 := of_decide_eq_false (nt h2) | skip
      refine go_skip ?_
      refine go_block ?_
      refine go_seq ?_
      refine go_seq ?_
      refine go_region 1 rfl rfl ?_
      refine s_val rfl rfl (r_move) rfl ?_
      refine s_end ?_
      refine go_block ?_
      refine go_loopM (σ := Nat) [(7, 7), (32, 44)] (fun (i : Nat) e' w' => e' 32 = i64 (i : Nat) ∧ i ≤ 32 ∧ SlAt w' a3 (bs ((textRn l n).drop (32 * k))) ∧ Pc w' b2 0 (bs (List.replicate 64 0)) ∧ b2 < w'.heap.size ∧ Pc w' b5 0 (bs (xorTo (absorbR (initS d) (textRn l n) k) ((textRn l n).drop (32 * k)) i)) ∧ b5 < w'.heap.size ∧ Chg no w w') (fun (i : Nat) => 32 - i) 0 ?_ ?_
      · exact ⟨rfl, by omega, hsl3, p3, by omega, p6, by omega, C_w48⟩
      rintro i f53 w52 ⟨e54, hi, hsl3, p3, hu_b2, p6, hu_b5, C_w52⟩
      obtain ⟨f55, rfl⟩ : ∃ g_, f53 = upd g_ 32 (i64 (i : Nat)) := ⟨f53, upd_id e54⟩
      have hs_w52 : w.heap.size ≤ w52.heap.size := Chg.size C_w52
      have hx := xorTo_length (absorbR (initS d) (textRn l n) k) ((textRn l n).drop (32 * k)) i
      refine go_seq ?_
      refine go_region 1 rfl rfl ?_
      refine s_val rfl rfl (r_lss rfl rfl) rfl ?_
      refine s_end ?_
      refine go_seq ?_
      refine go_ifb _ rfl (fun h3 => ?_) (fun h3 => ?_)
      · first | replace h3 := of_decide_eq_true h3 | replace h3 := of_decide_eq_false (nt h3) | skip
        refine go_skip ?_
        refine go_seq ?_
        refine go_block ?_
        refine go_seq ?_
        refine go_region 2 rfl rfl ?_
        refine s_val rfl rfl (r_move) rfl ?_
        refine s_val rfl rfl (r_assign) rfl ?_
        refine s_end ?_
        refine go_drawsE 7 (.take 0 (.take 1 (.take 2 (.take 3 (.take 4 (.take 5 (.take 6 (.eff 7 (.eff 8 (.eff 9 .done)))))))))) (by kernel_rfl) (by kernel_rfl) fun w56 c_w56 => ?_
        have hs_w56 : w52.heap.size ≤ w56.heap.size := Chg.size c_w56
        replace hsl3 := hsl3.k c_w56
        replace p3 := p3.k c_w56
        replace p6 := p6.k c_w56
        have C_w56 := Chg.pure C_w52 c_w56
        refine s_takeE rfl rfl (r_move) ?_
        refine s_takeE rfl rfl (r_indexArr (k := i) Try.runUnderlying90 Try.sizeOf5 rfl rfl (by first | rfl | omega) (by first | decide | omega)) ?_
        refine s_takeE rfl rfl (r_load1 Try.isAgg5 rfl (Rd.at1 p6.rd (bs_get (by first | omega | (simp; done) | (simp; omega))))) ?_
        refine s_takeE rfl rfl (r_move) ?_
        refine s_takeE rfl rfl (r_move) ?_
        refine s_takeE rfl rfl (r_indexSl (k := i) Try.runUnderlying22 Try.sizeOf5 rfl hsl3 (by exact bs_ne (by rw [List.length_drop]; omega)) rfl (by first | rfl | omega) (by omega)) ?_
        refine s_takeE rfl rfl (r_loadSl1 Try.isAgg5 rfl hsl3 (bs_get (by first | omega | (simp; done) | (simp; omega)))) ?_
        refine s_val rfl rfl (r_xor8 rfl rfl) rfl ?_
        refine s_val rfl rfl (r_indexArr (k := i) Try.runUnderlying90 Try.sizeOf5 rfl rfl (by first | rfl | omega) (by first | decide | omega)) rfl ?_
        refine s_do rfl rfl (w_set_b (o := 0) (k := i) Try.sizeOf5 rfl rfl p6 (by first | omega | (simp; done) | (simp; omega))) rfl ?_
        rintro _ w57 ⟨q_w57, c_w57⟩
        have hs_w57 : w56.heap.size ≤ w57.heap.size := Chg.size c_w57
        replace hsl3 := SlAt.kb hsl3 c_w57 (fun b_ o_ ha_ => by have := hlo3 _ ha_; simp only at this; omega)
        replace p3 := p3.kb c_w57 (by omega)
        have C_w57 := Chg.newRng C_w56 c_w57 (by omega)
        have p6 := q_w57
        refine s_end ?_
        refine go_nil (block_normal ?_)
        refine go_region 2 rfl rfl ?_
        refine s_val rfl rfl (r_addi rfl rfl (by omega)) rfl ?_
        refine s_val rfl rfl (r_move) rfl ?_
        refine s_end ?_
        refine go_nil (loop_normal ⟨⟨(i + 1), by first | omega | (dsimp only; omega), ⟨rfl, by omega, hsl3, p3, by omega, p6, by omega, C_w57⟩⟩, (by repeat (first | exact same_refl | exact same_over | refine same_upd rfl ?_ | refine same_over2 rfl ?_))⟩)
      · first | replace h3 := of_decide_eq_false h3 | replace h3 := of_decide_eq_true (nf h3) | skip
        obtain rfl : i = 32 := by omega
        refine go_exit (loop_exit (block_hit ?_))
        refine go_seq ?_
        refine go_region 3 rfl rfl ?_
        refine s_val rfl rfl (r_loadN Try.isAgg90 Try.sizeOf90 rfl p6.rd (by first | exact bs_len (by omega) | exact bs_len (by simp; done) | exact bs_len (by simp; omega))) rfl ?_
        refine s_do rfl rfl (w_call Try.call60 rfl (stirR_spec _ _ (by first | omega | (simp; done) | (simp; omega)))) rfl ?_
        rintro _ w58 ⟨rfl, c_w58⟩
        have hs_w58 : w52.heap.size ≤ w58.heap.size := Chg.size c_w58
        replace hsl3 := hsl3.k c_w58
        replace p3 := p3.k c_w58
        replace p6 := p6.k c_w58
        have C_w58 := Chg.pure C_w52 c_w58
        refine s_do rfl rfl (w_storeA (o := 0) Try.sizeOf90 rfl rfl (by first | exact bs_len (by omega) | exact bs_len (by simp; done) | exact bs_len (by simp; omega)) (flat_bs _) p6 (by first | exact bs_len (by omega) | exact bs_len (by simp; done) | exact bs_len (by simp; omega))) rfl ?_
        rintro _ w59 ⟨q_w59, c_w59⟩
        have hs_w59 : w58.heap.size ≤ w59.heap.size := Chg.size c_w59
        replace hsl3 := SlAt.kb hsl3 c_w59 (fun b_ o_ ha_ => by have := hlo3 _ ha_; simp only at this; omega)
        replace p3 := p3.kb c_w59 (by omega)
        have C_w59 := Chg.newRng C_w58 c_w59 (by omega)
        have p6 := q_w59
        refine s_end ?_
        refine go_region 3 rfl rfl ?_
        refine s_val rfl rfl (r_move) rfl ?_
        have s60 := SlAt.cutB_drop hsl3 32 c3 (by first | omega | (simp; omega))
        have lo_s60 := cutA_lo (l := 32) (m := c3) (sz := 1) hlo3
        refine s_val rfl rfl (r_sliceSl (l := 32) (h := n3) (m := c3) Try.runUnderlying22 Try.sizeOf5 rfl ⟨_, _, rfl, by first | rfl | omega⟩ rfl rfl (by first | decide | (intro h_; cases h_)) (by first | decide | omega) (by first | decide | omega | (intro _; omega)) (by first | exact Nat.le_refl _ | omega)) rfl ?_
        refine s_val rfl rfl (r_assign) rfl ?_
        refine s_end ?_
        refine go_nil (block_normal ?_)
        refine go_nil (loop_normal ⟨⟨(k + 1, _, n3 - 32, c3 - 32), by first | omega | (dsimp only; omega), ⟨rfl, by omega, by omega, by have h_ := s60; rwa [List.drop_drop] at h_, lo_s60, p3, by omega, p6, by omega, C_w59⟩⟩, (by repeat (first | exact same_refl | exact same_over | refine same_upd rfl ?_ | refine same_over2 rfl ?_))⟩)
    · first | replace h2 := of_decide_eq_false h2 | replace h2 := of_decide_eq_true (nf h2) | skip
      obtain rfl : k = (textRn l n).length / 32 := by omega
      refine go_exit (loop_exit (block_hit ?_))
      refine go_seq ?_
      refine go_region 2 rfl rfl ?_
      refine s_val rfl rfl (r_loadN Try.isAgg90 Try.sizeOf90 rfl p6.rd (by first | exact bs_len (by omega) | exact bs_len (by simp; done) | exact bs_len (by simp; omega))) rfl ?_
      refine s_do rfl rfl (w_storeA (o := 0) Try.sizeOf90 rfl rfl (by first | exact bs_len (by omega) | exact bs_len (by simp; done) | exact bs_len (by simp; omega)) (flat_bs _) p3 (by first | exact bs_len (by omega) | exact bs_len (by simp; done) | exact bs_len (by simp; omega))) rfl ?_
      rintro _ w61 ⟨q_w61, c_w61⟩
      have hs_w61 : w48.heap.size ≤ w61.heap.size := Chg.size c_w61
      replace hsl3 := SlAt.kb hsl3 c_w61 (fun b_ o_ ha_ => by have := hlo3 _ ha_; simp only at this; omega)
      replace p6 := p6.kb c_w61 (by omega)
      have C_w61 := Chg.newRng C_w48 c_w61 (by omega)
      have p3 := q_w61
      refine s_end ?_
      refine go_ret ?_
      refine ⟨_, .cons ⟨_, rfl, run_load_agg Try.isAgg90 Try.sizeOf90 (by first | exact bs_len (by omega) | exact bs_len (by simp; done) | exact bs_len (by simp; omega)) p3.rd⟩ (.nil), ?_⟩
      exact ⟨rfl, C_w61⟩

theorem sumR_spec (d : Int) (l : List UInt8) (a : Option Addr) (n c : Nat) (w : World) (hn : l.length = n) (h0 : 0 < n) (hbig : n ≤ 1048576) (hsl : SlAt w a (bs l)) :
    Rtn Try.prog 31 [i64 d, Value.slice a n c].toArray w (fun v w' => v = .agg (bs ((stateR d l n).take 32)).toArray ∧ Kept w w') := by
  refine fn_body (l := [i64 d, Value.slice a n c]) 13 [.cell 4 25] Try.func31 rfl Try.ntmps31 (Nat.le_of_ble_eq_true rfl) (by rw [Try.results31]) ?_
  refine go_seq ?_
  refine go_region 1 rfl rfl ?_
  refine s_do rfl rfl (w_alloc (bs (List.replicate 32 0)) Try.zeroValue25 (by kernel_rfl)) rfl ?_
  rintro _ w1 ⟨b2, rfl, hl_b2, hu_b2, p3, c_w1⟩
  have hs_w1 : w.heap.size ≤ w1.heap.size := Chg.size c_w1
  have C_w1 := Chg.pure (Chg.refl no w) c_w1
  have hn_b2 : w.heap.size ≤ b2 := by have := Chg.size C_w1; omega
  refine s_end ?_
  refine go_seq ?_
  refine go_region 5 rfl rfl ?_
  refine s_val rfl rfl (r_move) rfl ?_
  refine s_val rfl rfl (r_move) rfl ?_
  refine s_do rfl rfl (w_call Try.call47 rfl (stateR_spec _ _ _ _ _ _ (by omega) (by omega) (by omega) (hsl.k C_w1))) rfl ?_
  rintro _ w4 ⟨rfl, c_w4⟩
  have hs_w4 : w1.heap.size ≤ w4.heap.size := Chg.size c_w4
  replace p3 := p3.k c_w4
  have C_w4 := Chg.pure C_w1 c_w4
  refine s_do rfl rfl (w_alloc (bs (List.replicate 64 0)) Try.zeroValue90 (by kernel_rfl)) rfl ?_
  rintro _ w5 ⟨b6, rfl, hl_b6, hu_b6, p7, c_w5⟩
  have hs_w5 : w4.heap.size ≤ w5.heap.size := Chg.size c_w5
  replace p3 := p3.k c_w5
  have C_w5 := Chg.pure C_w4 c_w5
  have hn_b6 : w.heap.size ≤ b6 := by have := Chg.size C_w5; omega
  refine s_do rfl rfl (w_storeA (o := 0) Try.sizeOf90 rfl rfl (by first | exact bs_len (by omega) | exact bs_len (by simp; done) | exact bs_len (by simp; omega)) (flat_bs _) p7 (by first | exact bs_len (by omega) | exact bs_len (by simp; done) | exact bs_len (by simp; omega))) rfl ?_
  rintro _ w8 ⟨q_w8, c_w8⟩
  have hs_w8 : w5.heap.size ≤ w8.heap.size := Chg.size c_w8
  replace p3 := p3.kb c_w8 (by omega)
  have C_w8 := Chg.newRng C_w5 c_w8 (by omega)
  have p7 := q_w8
  refine s_end ?_
  refine go_seq ?_
  refine go_drawsE 2 (.take 0 (.take 1 (.eff 2 .done))) (by kernel_rfl) (by kernel_rfl) fun w9 c_w9 => ?_
  have hs_w9 : w8.heap.size ≤ w9.heap.size := Chg.size c_w9
  replace p3 := p3.k c_w9
  replace p7 := p7.k c_w9
  have C_w9 := Chg.pure C_w8 c_w9
  refine s_takeE rfl rfl (r_sliceA (l := 0) (h := 32) (m := 32) Try.runUnderlying25 Try.sizeOf5 rfl rfl rfl rfl (by first | decide | (intro h_; cases h_)) (by first | decide | omega) (by first | decide | omega | (intro _; omega)) (by first | decide | omega) (by first | decide | omega)) ?_
  refine s_takeE rfl rfl (r_sliceA (l := 0) (h := 32) (m := 64) Try.runUnderlying90 Try.sizeOf5 rfl rfl ⟨_, _, rfl, by first | rfl | omega⟩ rfl (by first | decide | (intro h_; cases h_)) (by first | decide | omega) (by first | decide | omega | (intro _; omega)) (by first | decide | omega) (by first | decide | omega)) ?_
  refine s_do rfl rfl (w_copy_b (o := 0) (lo := 0) Try.underlying22 (by kernel_rfl) rfl rfl p3 (by first | omega | (simp; done) | (simp; omega)) (SlAt.some (Rd.subB p7.rd 0 (32))) (by first | rfl | omega | (simp; done) | (simp; omega))) rfl ?_
  rintro _ w10 ⟨rfl, q_w10, c_w10⟩
  have hs_w10 : w9.heap.size ≤ w10.heap.size := Chg.size c_w10
  replace p7 := p7.kb c_w10 (by omega)
  have C_w10 := Chg.newRng C_w9 c_w10 (by omega)
  have p3 := q_w10
  refine s_end ?_
  refine go_seq ?_
  refine go_region 2 rfl rfl ?_
  refine s_val rfl rfl (r_loadN Try.isAgg25 Try.sizeOf25 rfl p3.rd (by first | exact bs_len (by omega) | exact bs_len (by simp; done) | exact bs_len (by simp; omega))) rfl ?_
  refine s_do rfl rfl (w_storeA (o := 0) Try.sizeOf25 rfl rfl (by first | exact bs_len (by omega) | exact bs_len (by simp; done) | exact bs_len (by simp; omega)) (flat_bs _) p3 (by first | exact bs_len (by omega) | exact bs_len (by simp; done) | exact bs_len (by simp; omega))) rfl ?_
  rintro _ w11 ⟨q_w11, c_w11⟩
  have hs_w11 : w10.heap.size ≤ w11.heap.size := Chg.size c_w11
  replace p7 := p7.kb c_w11 (by omega)
  have C_w11 := Chg.newRng C_w10 c_w11 (by omega)
  have p3 := q_w11
  refine s_end ?_
  refine go_ret ?_
  refine ⟨_, .cons ⟨_, rfl, run_load_agg Try.isAgg25 Try.sizeOf25 (by first | exact bs_len (by omega) | exact bs_len (by simp; done) | exact bs_len (by simp; omega)) p3.rd⟩ (.nil), ?_⟩
  have e_ : putAt (List.replicate 32 0) 0 (List.take (32 - 0) (List.take 32 (stateR d l n))) = (stateR d l n).take 32 := by
    rw [putAt0, List.take_take]; simp
  exact ⟨congrArg (fun l => Value.agg (bs l).toArray) e_, C_w11⟩

end Go.Proofs.Ytdnccchcflaphaa
