/- YtippcmedgfmgbaaGreatP06: a calculus of walks, plain facts of the numbers that are shared, and contracts of functions of the program: called in any world that meets a contract's premises, a function returns what the contract says and changes no more than it says. -/
import Derived.Test.YtippcmedgfmgbaaGreatP02
import Derived.Test.YtippcmedgfmgbaaGreatP03
import Derived.Test.YtippcmedgfmgbaaGreatP04
import Derived.Test.YtippcmedgfmgbaaGreatP05
import Derived.Test.YtippcmedgfmgbaaGreatChecked
section
open Go Go.Eng Go.Proofs
namespace Go.Proofs.YtippcmedgfmgbaaGreat
theorem clone_spec (l : List UInt8) (a : Option Addr) (n c : Nat) (w : World) (hn : l.length = n) (h0 : 0 < n) (hbig : n ≤ 1048576) (hsl : SlAt w a (bs l)) :
  Rtn Tryz.prog 73 [Value.slice a n c].toArray w (fun v w' => Owns w' w.heap.size 5 1 v n (bs l) ∧ Kept w w') := by
 obtain ⟨bb, bo, rfl, hrd⟩ := SlAt.pos hsl (bs_ne (by omega))
 refine fn_body (l := [Value.slice (some ⟨bb, bo, none⟩) n c]) 8 [.tmp 2] Tryz.func73 rfl Tryz.ntmps73 (Nat.le_of_ble_eq_true rfl) (by rw [Tryz.results73]) ?_
 refine go_seq ?_
 refine go_region 1 rfl rfl ?_
 refine s_val rfl rfl (r_assign) rfl ?_
 refine s_end ?_
 refine go_seq ?_
 refine go_seq ?_
 refine go_region 2 rfl rfl ?_
 refine s_val rfl rfl (r_move) rfl ?_
 refine s_val rfl rfl (r_eqNil Tryz.underlying55 rfl) rfl ?_
 refine s_end ?_
 refine go_false rfl ?_
 refine go_skip ?_
 refine go_seq ?_
 refine go_region 4 rfl rfl ?_
 refine s_do rfl rfl (w_build0 (E := 5) (sz := 1) Tryz.underlying55 (i := Tryz.t5) (by kernel_rfl) rfl rfl) rfl ?_
 rintro v3 w1 ⟨o2, c_w1⟩
 have hs_w1 : w.heap.size ≤ w1.heap.size := Chg.size c_w1
 have C_w1 := Chg.pure (Chg.refl no w) c_w1
 have hfo_o2 := Owns.form2 o2
 obtain ⟨A4, cap5, e_o2, hc_cap5⟩ := hfo_o2
 subst e_o2
 refine s_val rfl rfl (r_move) rfl ?_
 refine s_do rfl rfl (w_append (E := 5) (sz := 1) Tryz.underlying55 rfl (i := Tryz.t5) (by kernel_rfl) rfl rfl rfl rfl (by rfl) o2 rfl (hsl.k C_w1) (by first | (rw [bs_length]; omega) | (simp [bs_length]; done) | (simp [bs_length]; omega) | rfl) (flat_bs _) (by omega) (by show _ * 1 ≤ _; omega) (by omega)) rfl ?_
 rintro v10 w6 ⟨o7, c_w6⟩
 have hs_w6 : w1.heap.size ≤ w6.heap.size := Chg.size c_w6
 have C_w6 := Chg.newOb C_w1 c_w6 o2 (by omega)
 have hfo_o7 := Owns.form2 o7
 obtain ⟨A8, cap9, e_o7, hc_cap9⟩ := hfo_o7
 subst e_o7
 replace o7 := Owns.nilB o7
 refine s_val rfl rfl (r_assign) rfl ?_
 refine s_end ?_
 refine go_ret ?_
 refine ⟨_, .cons rfl (.nil), ?_⟩
 show Owns _ _ _ _ (.slice _ (0 + n) _) n _ ∧ _
 have hq := o7
 rw [Nat.zero_add] at hq ⊢
 exact ⟨hq, C_w6⟩
attribute [simp] putAt_length
def longTo (n : Nat) : Nat → List UInt8
  | 0 => List.replicate 8 0
  | k + 1 => (longTo n k).set k (b8 ((n : Int) / 2 ^ (56 - 8 * (k : Int)).toNat))
@[simp] theorem longTo_length (n k : Nat) : (longTo n k).length = 8 := by induction k with | zero => rfl | succ k ih => simp [longTo, ih]
/-- the state of the reference behind k blocks -/
def absorbR (st l : List UInt8) : Nat → List UInt8
  | 0 => st
  | k + 1 => stir (xorTo (absorbR st l k) (l.drop (32 * k)) 32)
theorem absorbR_length (st l : List UInt8) (k : Nat) (h : st.length = 64) : (absorbR st l k).length = 64 := by cases k with | zero => exact h | succ k => simp [absorbR]
theorem long_spec (n : Nat) (w : World) (hn : n < 4611686018427387904) :
  Rtn Tryz.prog 74 [i64 (n : Nat)].toArray w (fun v w' => ∃ b, v = .slice (some ⟨b, 0, none⟩) 8 8 ∧ w.heap.size ≤ b ∧ b < w'.heap.size ∧ Pc w' b 0 (bs (longTo n 8)) ∧ Kept w w') := by
 refine fn_body (l := [i64 (n : Nat)]) 22 [.tmp 2] Tryz.func74 rfl Tryz.ntmps74 (Nat.le_of_ble_eq_true rfl) (by rw [Tryz.results74]) ?_
 refine go_seq ?_
 refine go_region 1 rfl rfl ?_
 refine s_val rfl rfl (r_assign) rfl ?_
 refine s_end ?_
 refine go_seq ?_
 refine go_region 2 rfl rfl ?_
 refine s_do rfl rfl (w_make (n := 8) (c := 8) (E := 5) Tryz.underlying55 (i := Tryz.t5) (by kernel_rfl) rfl rfl rfl rfl rfl (by first | rfl | omega) (by first | rfl | omega) (by omega) (by first | decide | (show _ * 1 ≤ _; omega) | (show _ * 8 ≤ _; omega)) (by omega)) rfl ?_
 rintro _ w1 ⟨b2, rfl, hl_b2, hu_b2, o4, p3, c_w1⟩
 have hs_w1 : w.heap.size ≤ w1.heap.size := Chg.size c_w1
 have C_w1 := Chg.pure (Chg.refl no w) c_w1
 have hn_b2 : w.heap.size ≤ b2 := by have := Chg.size C_w1; omega
 replace p3 : Pc w1 b2 0 (bs (List.replicate 8 0)) := by rw [bs_rep]; exact p3
 refine s_val rfl rfl (r_assign) rfl ?_
 refine s_end ?_
 refine go_seq ?_
 refine go_seq ?_
 refine go_region 3 rfl rfl ?_
 refine s_val rfl rfl (r_move) rfl ?_
 refine s_val rfl rfl (r_len Tryz.runUnderlying55 rfl) rfl ?_
 refine s_val rfl rfl (r_move) rfl ?_
 refine s_end ?_
 refine go_block ?_
 refine go_loopM (σ := Nat) [(4, 4), (8, 20)] (fun (k : Nat) e' w' => e' 8 = i64 (k : Nat) ∧ k ≤ 8 ∧ Pc w' b2 0 (bs (longTo n k)) ∧ b2 < w'.heap.size ∧ Chg no w w') (fun (k : Nat) => 8 - k) 0 ?_ ?_
 ·exact ⟨rfl, by omega, p3, by omega, C_w1⟩
 rintro k f6 w5 ⟨e7, hk, p3, hu_b2, C_w5⟩
 have ob_9 : ∃ g_, f6 = upd g_ 8 (i64 (k : Nat)) := ⟨f6, upd_id e7⟩
 obtain ⟨f8, rfl⟩ := ob_9
 clear e7
 have hs_w5 : w.heap.size ≤ w5.heap.size := Chg.size C_w5
 have hw := longTo_length n k
 refine go_seq ?_
 refine go_region 1 rfl rfl ?_
 refine s_val rfl rfl (r_lss rfl rfl) rfl ?_
 refine s_end ?_
 refine go_seq ?_
 refine go_ifb _ rfl (fun h => ?_) (fun h => ?_)
 ·first | replace h := dcT h | replace h := dcF (nt h) | skip
  refine go_skip ?_
  refine go_seq ?_
  refine go_block ?_
  refine go_seq ?_
  refine go_region 2 rfl rfl ?_
  refine s_val rfl rfl (r_move) rfl ?_
  refine s_val rfl rfl (r_assign) rfl ?_
  refine s_end ?_
  refine go_region 10 rfl rfl ?_
  refine s_val rfl rfl (r_move) rfl ?_
  refine s_val rfl rfl (r_move) rfl ?_
  refine s_val rfl rfl (r_move) rfl ?_
  refine s_val rfl rfl (r_move) rfl ?_
  refine s_val rfl rfl (r_muli rfl rfl (by omega)) rfl ?_
  refine s_val rfl rfl (r_subi rfl rfl (by omega)) rfl ?_
  refine s_val rfl rfl (r_shri rfl rfl (by omega) (by omega)) rfl ?_
  refine s_val rfl rfl (r_conv_u8 Tryz.runUnderlying3 Tryz.runUnderlying5 rfl) rfl ?_
  refine s_val rfl rfl (r_indexSlP (k := k) Tryz.runUnderlying55 Tryz.sizeOf5 rfl p3.rd (by exact bs_ne (by first | omega | (simp; try omega))) rfl (by first | rfl | omega) (by omega)) rfl ?_
  refine s_do rfl rfl (w_set_b (o := 0) (k := k) Tryz.sizeOf5 rfl rfl p3 (by first | omega | (simp; try omega))) rfl ?_
  rintro _ w10 ⟨q_w10, c_w10⟩
  have hs_w10 : w5.heap.size ≤ w10.heap.size := Chg.size c_w10
  have C_w10 := Chg.newRng C_w5 c_w10 (by omega)
  have p3 := q_w10
  refine s_end ?_
  refine go_nil (block_normal ?_)
  refine go_region 2 rfl rfl ?_
  refine s_val rfl rfl (r_addi rfl rfl (by omega)) rfl ?_
  refine s_val rfl rfl (r_move) rfl ?_
  refine s_end ?_
  refine go_nil (loop_normal ⟨⟨(k + 1), by first | omega | (dsimp only; omega), ⟨rfl, by omega, p3, by omega, C_w10⟩⟩, (by repeat (first | exact same_refl | exact same_over | refine same_upd rfl ?_ | refine same_over2 rfl ?_))⟩)
 ·first | replace h := dcF h | replace h := dcT (nf h) | skip
  have ob_11 : k = 8 := by omega
  obtain rfl := ob_11
  refine go_exit (loop_exit (block_hit ?_))
  refine go_seq ?_
  refine go_region 2 rfl rfl ?_
  refine s_val rfl rfl (r_move) rfl ?_
  refine s_val rfl rfl (r_assign) rfl ?_
  refine s_end ?_
  refine go_ret ?_
  refine ⟨_, .cons rfl (.nil), ?_⟩
  exact ⟨_, rfl, hn_b2, by omega, p3, C_w5⟩
def textRn (l : List UInt8) (n : Nat) : List UInt8 := (((l ++ [128]) ++ List.replicate ((32 - (l.length + 1) % 32) % 32) 0) ++ List.replicate 24 0) ++ longTo n 8
theorem textRn_length (l : List UInt8) (n : Nat) : (textRn l n).length = l.length + 1 + (32 - (l.length + 1) % 32) % 32 + 32 := by simp [textRn]; omega
def stateR (d : Int) (l : List UInt8) (n : Nat) : List UInt8 := absorbR (initS d) (textRn l n) ((textRn l n).length / 32)
@[simp] theorem stateR_length (d : Int) (l : List UInt8) (n : Nat) : (stateR d l n).length = 64 := absorbR_length _ _ _ (initS_length d)
set_option maxHeartbeats 2000000 in
theorem stateR_spec (d : Int) (l : List UInt8) (a : Option Addr) (n c : Nat) (w : World) (hn : l.length = n) (h0 : 0 < n) (hbig : n ≤ 1048576) (hsl : SlAt w a (bs l)) :
  Rtn Tryz.prog 46 [i64 d, Value.slice a n c].toArray w (fun v w' => v = .agg (bs (stateR d l n)).toArray ∧ Kept w w') := by
 refine fn_body (l := [i64 d, Value.slice a n c]) 50 [.cell 4 86] Tryz.func46 rfl Tryz.ntmps46 (Nat.le_of_ble_eq_true rfl) (by rw [Tryz.results46]) ?_
 refine go_seq ?_
 refine go_region 1 rfl rfl ?_
 refine s_do rfl rfl (w_alloc (bs (List.replicate 64 0)) Tryz.zeroValue86 (by kernel_rfl)) rfl ?_
 rintro _ w1 ⟨b2, rfl, hl_b2, hu_b2, p3, c_w1⟩
 have hs_w1 : w.heap.size ≤ w1.heap.size := Chg.size c_w1
 have C_w1 := Chg.pure (Chg.refl no w) c_w1
 have hn_b2 : w.heap.size ≤ b2 := by have := Chg.size C_w1; omega
 refine s_end ?_
 refine go_seq ?_
 refine go_region 1 rfl rfl ?_
 refine s_do rfl rfl (w_alloc (bs (List.replicate 64 0)) Tryz.zeroValue86 (by kernel_rfl)) rfl ?_
 rintro _ w4 ⟨b5, rfl, hl_b5, hu_b5, p6, c_w4⟩
 have hs_w4 : w1.heap.size ≤ w4.heap.size := Chg.size c_w4
 replace p3 := p3.k c_w4
 have C_w4 := Chg.pure C_w1 c_w4
 have hn_b5 : w.heap.size ≤ b5 := by have := Chg.size C_w4; omega
 refine s_end ?_
 refine go_seq ?_
 refine go_region 4 rfl rfl ?_
 refine s_val rfl rfl (r_move) rfl ?_
 refine s_val rfl rfl (r_conv_u8 Tryz.runUnderlying3 Tryz.runUnderlying5 rfl) rfl ?_
 refine s_val rfl rfl (r_indexArr (k := 63) Tryz.runUnderlying86 Tryz.sizeOf5 rfl rfl (by first | rfl | omega) (by first | decide | omega)) rfl ?_
 refine s_do rfl rfl (w_set_b (o := 0) (k := 63) Tryz.sizeOf5 rfl rfl p6 (by first | omega | (simp; try omega))) rfl ?_
 rintro _ w7 ⟨q_w7, c_w7⟩
 have hs_w7 : w4.heap.size ≤ w7.heap.size := Chg.size c_w7
 replace p3 := p3.kb c_w7 (by omega)
 have C_w7 := Chg.newRng C_w4 c_w7 (by omega)
 have p6 := q_w7
 refine s_end ?_
 refine go_seq ?_
 refine go_region 5 rfl rfl ?_
 refine s_val rfl rfl (r_move) rfl ?_
 refine s_do rfl rfl (w_call Tryz.call73 rfl (clone_spec l _ _ _ _ (by first | omega | (simp; try omega)) (by first | omega | (simp; try omega)) (by first | omega | (simp; try omega)) (hsl.k C_w7))) rfl ?_
 rintro v10 w8 ⟨o9, c_w8⟩
 have hs_w8 : w7.heap.size ≤ w8.heap.size := Chg.size c_w8
 replace p3 := p3.k c_w8
 replace p6 := p6.k c_w8
 have C_w8 := Chg.pure C_w7 c_w8
 have hfo_o9 := Owns.form2 o9
 obtain ⟨A11, cap12, e_o9, hc_cap12⟩ := hfo_o9
 subst e_o9
 refine s_do rfl rfl (w_build1 (E := 5) Tryz.underlying55 (i := Tryz.t5) (by kernel_rfl) rfl rfl rfl rfl rfl) rfl ?_
 rintro _ w13 ⟨b14, rfl, hl_b14, hu_b14, o16, p15, c_w13⟩
 have ne_b14_o9 := Owns.ne_ge o9 hl_b14
 have hs_w13 : w8.heap.size ≤ w13.heap.size := Chg.size c_w13
 replace p3 := p3.k c_w13
 replace p6 := p6.k c_w13
 replace o9 := o9.k c_w13
 have C_w13 := Chg.pure C_w8 c_w13
 have hn_b14 : w.heap.size ≤ b14 := by have := Chg.size C_w13; omega
 replace p15 : Pc w13 b14 0 (bs [128]) := p15
 refine s_do rfl rfl (w_append (E := 5) (sz := 1) Tryz.underlying55 rfl (i := Tryz.t5) (by kernel_rfl) rfl rfl rfl rfl (by rfl) o9 rfl (SlAt.some p15.rd) (by first | (rw [bs_length]; omega) | (simp [bs_length]; done) | (simp [bs_length]; omega) | rfl) (flat_bs _) (by omega) (by show _ * 1 ≤ _; omega) (by omega)) rfl ?_
 rintro v21 w17 ⟨o18, c_w17⟩
 have hs_w17 : w13.heap.size ≤ w17.heap.size := Chg.size c_w17
 replace p3 := p3.kob c_w17 (Owns.ne_lt o9 (by omega))
 replace p6 := p6.kob c_w17 (Owns.ne_lt o9 (by omega))
 replace p15 := p15.kob c_w17 ne_b14_o9
 have C_w17 := Chg.newOb C_w13 c_w17 o9 (by omega)
 have hfo_o18 := Owns.form2 o18
 obtain ⟨A19, cap20, e_o18, hc_cap20⟩ := hfo_o18
 subst e_o18
 replace o18 := Owns.appB o18
 refine s_val rfl rfl (r_assign) rfl ?_
 refine s_end ?_
 refine go_seq ?_
 refine go_block ?_
 refine go_loopM (σ := Nat × Option Addr × Nat × Nat) [(6, 6), (15, 21)] (fun (x_ : Nat × Option Addr × Nat × Nat) e' w' => match x_ with | (k, a1, n1, c1) => e' 6 = Value.slice a1 n1 c1 ∧ n1 = l.length + 1 + k ∧ k ≤ (32 - (l.length + 1) % 32) % 32 ∧ w7.heap.size ≤ w'.heap.size ∧ Owns w' (w7.heap.size) 5 1 (Value.slice a1 n1 c1) n1 (bs ((l ++ [128]) ++ List.replicate k 0)) ∧ n1 ≤ c1 ∧ Pc w' b2 0 (bs (List.replicate 64 0)) ∧ b2 < w'.heap.size ∧ Pc w' b5 0 (bs (initS d)) ∧ b5 < w'.heap.size ∧ Chg no w w') (fun (x_ : Nat × Option Addr × Nat × Nat) => match x_ with | (k, a1, n1, c1) => 31 - k) (0, A19, (n + 1), cap20) ?_ ?_
 ·exact ⟨rfl, by omega, by omega, by omega, by simpa using o18, by omega, p3, by omega, p6, by omega, C_w17⟩
 rintro ⟨k, a1, n1, c1⟩ f23 w22 ⟨e24, hn1, hk, hB_ho1, ho1, hc1, p3, hu_b2, p6, hu_b5, C_w22⟩
 have ob_26 : ∃ g_, f23 = upd g_ 6 (Value.slice a1 n1 c1) := ⟨f23, upd_id e24⟩
 obtain ⟨f25, rfl⟩ := ob_26
 clear e24
 have hs_w22 : w.heap.size ≤ w22.heap.size := Chg.size C_w22
 refine go_seq ?_
 refine go_seq ?_
 refine go_region 4 rfl rfl ?_
 refine s_val rfl rfl (r_move) rfl ?_
 refine s_val rfl rfl (r_len Tryz.runUnderlying55 rfl) rfl ?_
 refine s_val rfl rfl (r_remi rfl rfl (by omega) (by omega)) rfl ?_
 refine s_val rfl rfl (r_neq rfl rfl) rfl ?_
 refine s_end ?_
 refine go_ifb _ rfl (fun h1 => ?_) (fun h1 => ?_)
 ·first | replace h1 := dcT h1 | replace h1 := dcF (nt h1) | skip
  refine go_skip ?_
  refine go_block ?_
  refine go_region 4 rfl rfl ?_
  refine s_val rfl rfl (r_move) rfl ?_
  refine s_do rfl rfl (w_build1 (E := 5) Tryz.underlying55 (i := Tryz.t5) (by kernel_rfl) rfl rfl rfl rfl rfl) rfl ?_
  rintro _ w27 ⟨b28, rfl, hl_b28, hu_b28, o30, p29, c_w27⟩
  have ne_b28_ho1 := Owns.ne_ge ho1 hl_b28
  have hs_w27 : w22.heap.size ≤ w27.heap.size := Chg.size c_w27
  replace ho1 := ho1.k c_w27
  replace p3 := p3.k c_w27
  replace p6 := p6.k c_w27
  have C_w27 := Chg.pure C_w22 c_w27
  have hn_b28 : w.heap.size ≤ b28 := by have := Chg.size C_w27; omega
  replace p29 : Pc w27 b28 0 (bs [0]) := p29
  refine s_do rfl rfl (w_append (E := 5) (sz := 1) Tryz.underlying55 rfl (i := Tryz.t5) (by kernel_rfl) rfl rfl rfl rfl (by rfl) ho1 rfl (SlAt.some p29.rd) (by first | (rw [bs_length]; omega) | (simp [bs_length]; done) | (simp [bs_length]; omega) | rfl) (flat_bs _) (by omega) (by show _ * 1 ≤ _; omega) (by omega)) rfl ?_
  rintro v35 w31 ⟨o32, c_w31⟩
  have hs_w31 : w27.heap.size ≤ w31.heap.size := Chg.size c_w31
  replace p3 := p3.kob c_w31 (Owns.ne_lt ho1 (by omega))
  replace p6 := p6.kob c_w31 (Owns.ne_lt ho1 (by omega))
  replace p29 := p29.kob c_w31 ne_b28_ho1
  have C_w31 := Chg.newOb C_w27 c_w31 ho1 (by omega)
  have hfo_o32 := Owns.form2 o32
  obtain ⟨A33, cap34, e_o32, hc_cap34⟩ := hfo_o32
  subst e_o32
  replace o32 := Owns.appB o32
  refine s_val rfl rfl (r_assign) rfl ?_
  refine s_end ?_
  refine go_nil (block_normal ?_)
  refine go_nil (loop_normal ⟨⟨(k + 1, _, n1 + 1, _), by first | omega | (dsimp only; omega), ⟨rfl, by omega, by omega, by omega, by have h_ := o32; rwa [List.append_assoc, ← List.replicate_succ'] at h_, by omega, p3, by omega, p6, by omega, C_w31⟩⟩, (by repeat (first | exact same_refl | exact same_over | refine same_upd rfl ?_ | refine same_over2 rfl ?_))⟩)
 ·first | replace h1 := dcF h1 | replace h1 := dcT (nf h1) | skip
  have ob_36 : k = (32 - (l.length + 1) % 32) % 32 := by omega
  obtain rfl := ob_36
  have hTl := textRn_length l n
  have hab0 := initS_length d
  refine go_exit (loop_exit (block_hit ?_))
  refine go_seq ?_
  refine go_region 3 rfl rfl ?_
  refine s_val rfl rfl (r_move) rfl ?_
  refine s_do rfl rfl (w_appendZ (E := 5) (m := 24) Tryz.underlying55 Tryz.underlying3 (i := Tryz.t5) (by kernel_rfl) rfl rfl rfl rfl (by rfl) ho1 rfl (by first | rfl | omega) (by omega) (by omega) (by show _ * 1 ≤ _; omega) (by omega)) rfl ?_
  rintro v41 w37 ⟨o38, c_w37⟩
  have hs_w37 : w22.heap.size ≤ w37.heap.size := Chg.size c_w37
  replace p3 := p3.kob c_w37 (Owns.ne_lt ho1 (by omega))
  replace p6 := p6.kob c_w37 (Owns.ne_lt ho1 (by omega))
  have C_w37 := Chg.newOb C_w22 c_w37 ho1 (by omega)
  have hfo_o38 := Owns.form2 o38
  obtain ⟨A39, cap40, e_o38, hc_cap40⟩ := hfo_o38
  subst e_o38
  replace o38 := Owns.appZ o38
  refine s_val rfl rfl (r_assign) rfl ?_
  refine s_end ?_
  refine go_seq ?_
  refine go_region 6 rfl rfl ?_
  refine s_val rfl rfl (r_move) rfl ?_
  refine s_val rfl rfl (r_move) rfl ?_
  refine s_val rfl rfl (r_len Tryz.runUnderlying55 rfl) rfl ?_
  refine s_do rfl rfl (w_call Tryz.call74 rfl (long_spec _ _ (by omega))) rfl ?_
  rintro _ w42 ⟨b43, rfl, hl_b43, hu_b43, p44, c_w42⟩
  have ne_b43_o38 := Owns.ne_ge o38 hl_b43
  have hs_w42 : w37.heap.size ≤ w42.heap.size := Chg.size c_w42
  replace p3 := p3.k c_w42
  replace p6 := p6.k c_w42
  replace o38 := o38.k c_w42
  have C_w42 := Chg.pure C_w37 c_w42
  have hn_b43 : w.heap.size ≤ b43 := by have := Chg.size C_w42; omega
  refine s_do rfl rfl (w_append (E := 5) (sz := 1) Tryz.underlying55 rfl (i := Tryz.t5) (by kernel_rfl) rfl rfl rfl rfl (by rfl) o38 rfl (SlAt.some p44.rd) (by first | (rw [bs_length]; omega) | (simp [bs_length]; done) | (simp [bs_length]; omega) | rfl) (flat_bs _) (by omega) (by show _ * 1 ≤ _; omega) (by omega)) rfl ?_
  rintro v49 w45 ⟨o46, c_w45⟩
  have hs_w45 : w42.heap.size ≤ w45.heap.size := Chg.size c_w45
  replace p3 := p3.kob c_w45 (Owns.ne_lt o38 (by omega))
  replace p6 := p6.kob c_w45 (Owns.ne_lt o38 (by omega))
  replace p44 := p44.kob c_w45 ne_b43_o38
  have C_w45 := Chg.newOb C_w42 c_w45 o38 (by omega)
  have hfo_o46 := Owns.form2 o46
  obtain ⟨A47, cap48, e_o46, hc_cap48⟩ := hfo_o46
  subst e_o46
  replace o46 := Owns.appB o46
  refine s_val rfl rfl (r_assign) rfl ?_
  refine s_end ?_
  refine go_seq ?_
  refine go_block ?_
  refine go_loopM (σ := Nat × Option Addr × Nat × Nat) [(6, 7), (29, 48)] (fun (x_ : Nat × Option Addr × Nat × Nat) e' w' => match x_ with | (k, a3, n3, c3) => e' 6 = Value.slice a3 n3 c3 ∧ n3 + 32 * k = (textRn l n).length ∧ n3 ≤ c3 ∧ SlAt w' a3 (bs ((textRn l n).drop (32 * k))) ∧ (∀ x, a3 = some x → w7.heap.size ≤ x.block) ∧ Pc w' b2 0 (bs (List.replicate 64 0)) ∧ b2 < w'.heap.size ∧ Pc w' b5 0 (bs (absorbR (initS d) (textRn l n) k)) ∧ b5 < w'.heap.size ∧ Chg no w w') (fun (x_ : Nat × Option Addr × Nat × Nat) => match x_ with | (k, a3, n3, c3) => n3) (0, A47, ((n1 + 24) + 8), cap48) ?_ ?_
  ·exact ⟨rfl, by omega, by omega, Owns.sl o46, Owns.lo o46, p3, by omega, p6, by omega, C_w45⟩
  rintro ⟨k, a3, n3, c3⟩ f51 w50 ⟨e52, hk, hc3, hsl3, hlo3, p3, hu_b2, p6, hu_b5, C_w50⟩
  have ob_54 : ∃ g_, f51 = upd g_ 6 (Value.slice a3 n3 c3) := ⟨f51, upd_id e52⟩
  obtain ⟨f53, rfl⟩ := ob_54
  clear e52
  have hs_w50 : w.heap.size ≤ w50.heap.size := Chg.size C_w50
  have hab := absorbR_length (initS d) (textRn l n) k (initS_length d)
  have hdl : ((textRn l n).drop (32 * k)).length = n3 := by rw [List.length_drop]; omega
  refine go_seq ?_
  refine go_seq ?_
  refine go_region 3 rfl rfl ?_
  refine s_val rfl rfl (r_move) rfl ?_
  refine s_val rfl rfl (r_len Tryz.runUnderlying55 rfl) rfl ?_
  refine s_val rfl rfl (r_gtr rfl rfl) rfl ?_
  refine s_end ?_
  refine go_ifb _ rfl (fun h2 => ?_) (fun h2 => ?_)
  ·first | replace h2 := dcT h2 | replace h2 := dcF (nt h2) | skip
   refine go_skip ?_
   refine go_block ?_
   refine go_seq ?_
   refine go_seq ?_
   refine go_region 1 rfl rfl ?_
   refine s_val rfl rfl (r_move) rfl ?_
   refine s_end ?_
   refine go_block ?_
   refine go_loopM (σ := Nat) [(7, 7), (32, 44)] (fun (i : Nat) e' w' => e' 32 = i64 (i : Nat) ∧ i ≤ 32 ∧ SlAt w' a3 (bs ((textRn l n).drop (32 * k))) ∧ Pc w' b2 0 (bs (List.replicate 64 0)) ∧ b2 < w'.heap.size ∧ Pc w' b5 0 (bs (xorTo (absorbR (initS d) (textRn l n) k) ((textRn l n).drop (32 * k)) i)) ∧ b5 < w'.heap.size ∧ Chg no w w') (fun (i : Nat) => 32 - i) 0 ?_ ?_
   ·exact ⟨rfl, by omega, hsl3, p3, by omega, p6, by omega, C_w50⟩
   rintro i f56 w55 ⟨e57, hi, hsl3, p3, hu_b2, p6, hu_b5, C_w55⟩
   have ob_59 : ∃ g_, f56 = upd g_ 32 (i64 (i : Nat)) := ⟨f56, upd_id e57⟩
   obtain ⟨f58, rfl⟩ := ob_59
   clear e57
   have hs_w55 : w.heap.size ≤ w55.heap.size := Chg.size C_w55
   have hx := xorTo_length (absorbR (initS d) (textRn l n) k) ((textRn l n).drop (32 * k)) i
   refine go_seq ?_
   refine go_region 1 rfl rfl ?_
   refine s_val rfl rfl (r_lss rfl rfl) rfl ?_
   refine s_end ?_
   refine go_seq ?_
   refine go_ifb _ rfl (fun h3 => ?_) (fun h3 => ?_)
   ·first | replace h3 := dcT h3 | replace h3 := dcF (nt h3) | skip
    refine go_skip ?_
    refine go_seq ?_
    refine go_block ?_
    refine go_seq ?_
    refine go_region 2 rfl rfl ?_
    refine s_val rfl rfl (r_move) rfl ?_
    refine s_val rfl rfl (r_assign) rfl ?_
    refine s_end ?_
    refine go_drawsE 7 (.take 0 (.take 1 (.take 2 (.take 3 (.take 4 (.take 5 (.take 6 (.eff 7 (.eff 8 (.eff 9 .done)))))))))) (by kernel_rfl) (by kernel_rfl) fun w60 c_w60 => ?_
    have hs_w60 : w55.heap.size ≤ w60.heap.size := Chg.size c_w60
    replace hsl3 := hsl3.k c_w60
    replace p3 := p3.k c_w60
    replace p6 := p6.k c_w60
    have C_w60 := Chg.pure C_w55 c_w60
    refine s_takeE rfl rfl (r_move) ?_
    refine s_takeE rfl rfl (r_indexArr (k := i) Tryz.runUnderlying86 Tryz.sizeOf5 rfl rfl (by first | rfl | omega) (by first | decide | omega)) ?_
    refine s_takeE rfl rfl (r_load1 Tryz.isAgg5 rfl (Rd.at1 p6.rd (bs_get (by first | omega | (simp; try omega))))) ?_
    refine s_takeE rfl rfl (r_move) ?_
    refine s_takeE rfl rfl (r_move) ?_
    refine s_takeE rfl rfl (r_indexSl (k := i) Tryz.runUnderlying55 Tryz.sizeOf5 rfl hsl3 (by exact bs_ne (by rw [List.length_drop]; omega)) rfl (by first | rfl | omega) (by omega)) ?_
    refine s_takeE rfl rfl (r_loadSl1 Tryz.isAgg5 rfl hsl3 (bs_get (by first | omega | (simp; try omega)))) ?_
    refine s_val rfl rfl (r_xor8 rfl rfl) rfl ?_
    refine s_val rfl rfl (r_indexArr (k := i) Tryz.runUnderlying86 Tryz.sizeOf5 rfl rfl (by first | rfl | omega) (by first | decide | omega)) rfl ?_
    refine s_do rfl rfl (w_set_b (o := 0) (k := i) Tryz.sizeOf5 rfl rfl p6 (by first | omega | (simp; try omega))) rfl ?_
    rintro _ w61 ⟨q_w61, c_w61⟩
    have hs_w61 : w60.heap.size ≤ w61.heap.size := Chg.size c_w61
    replace hsl3 := SlAt.kb hsl3 c_w61 (fun b_ o_ ha_ => by have := hlo3 _ ha_; simp only at this; omega)
    replace p3 := p3.kb c_w61 (by omega)
    have C_w61 := Chg.newRng C_w60 c_w61 (by omega)
    have p6 := q_w61
    refine s_end ?_
    refine go_nil (block_normal ?_)
    refine go_region 2 rfl rfl ?_
    refine s_val rfl rfl (r_addi rfl rfl (by omega)) rfl ?_
    refine s_val rfl rfl (r_move) rfl ?_
    refine s_end ?_
    refine go_nil (loop_normal ⟨⟨(i + 1), by first | omega | (dsimp only; omega), ⟨rfl, by omega, hsl3, p3, by omega, p6, by omega, C_w61⟩⟩, (by repeat (first | exact same_refl | exact same_over | refine same_upd rfl ?_ | refine same_over2 rfl ?_))⟩)
   ·first | replace h3 := dcF h3 | replace h3 := dcT (nf h3) | skip
    have ob_62 : i = 32 := by omega
    obtain rfl := ob_62
    refine go_exit (loop_exit (block_hit ?_))
    refine go_seq ?_
    refine go_region 3 rfl rfl ?_
    refine s_val rfl rfl (r_loadN Tryz.isAgg86 Tryz.sizeOf86 rfl p6.rd (bs_len (by first | omega | (simp; try omega)))) rfl ?_
    refine s_do rfl rfl (w_call Tryz.call75 rfl (stirR_spec _ _ (by first | omega | (simp; try omega)))) rfl ?_
    rintro _ w63 ⟨rfl, c_w63⟩
    have hs_w63 : w55.heap.size ≤ w63.heap.size := Chg.size c_w63
    replace hsl3 := hsl3.k c_w63
    replace p3 := p3.k c_w63
    replace p6 := p6.k c_w63
    have C_w63 := Chg.pure C_w55 c_w63
    refine s_do rfl rfl (w_storeA (o := 0) Tryz.sizeOf86 rfl rfl (bs_len (by first | omega | (simp; try omega))) (flat_bs _) p6 (bs_len (by first | omega | (simp; try omega)))) rfl ?_
    rintro _ w64 ⟨q_w64, c_w64⟩
    have hs_w64 : w63.heap.size ≤ w64.heap.size := Chg.size c_w64
    replace hsl3 := SlAt.kb hsl3 c_w64 (fun b_ o_ ha_ => by have := hlo3 _ ha_; simp only at this; omega)
    replace p3 := p3.kb c_w64 (by omega)
    have C_w64 := Chg.newRng C_w63 c_w64 (by omega)
    have p6 := q_w64
    refine s_end ?_
    refine go_region 3 rfl rfl ?_
    refine s_val rfl rfl (r_move) rfl ?_
    have s65 := SlAt.cutB_drop hsl3 32 c3 (by first | omega | (simp; omega))
    have lo_s65 := cutA_lo (l := 32) (m := c3) (sz := 1) hlo3
    refine s_val rfl rfl (r_sliceSl (l := 32) (h := n3) (m := c3) Tryz.runUnderlying55 Tryz.sizeOf5 rfl ⟨_, _, rfl, by first | rfl | omega⟩ rfl rfl (by first | decide | (intro h_; cases h_)) (by first | decide | omega) (by first | decide | omega | (intro _; omega)) (by first | exact Nat.le_refl _ | omega)) rfl ?_
    refine s_val rfl rfl (r_assign) rfl ?_
    refine s_end ?_
    refine go_nil (block_normal ?_)
    refine go_nil (loop_normal ⟨⟨(k + 1, _, n3 - 32, c3 - 32), by first | omega | (dsimp only; omega), ⟨rfl, by omega, by omega, by have h_ := s65; rwa [List.drop_drop] at h_, lo_s65, p3, by omega, p6, by omega, C_w64⟩⟩, (by repeat (first | exact same_refl | exact same_over | refine same_upd rfl ?_ | refine same_over2 rfl ?_))⟩)
  ·first | replace h2 := dcF h2 | replace h2 := dcT (nf h2) | skip
   have ob_66 : k = (textRn l n).length / 32 := by omega
   obtain rfl := ob_66
   refine go_exit (loop_exit (block_hit ?_))
   refine go_seq ?_
   refine go_region 2 rfl rfl ?_
   refine s_val rfl rfl (r_loadN Tryz.isAgg86 Tryz.sizeOf86 rfl p6.rd (bs_len (by first | omega | (simp; try omega)))) rfl ?_
   refine s_do rfl rfl (w_storeA (o := 0) Tryz.sizeOf86 rfl rfl (bs_len (by first | omega | (simp; try omega))) (flat_bs _) p3 (bs_len (by first | omega | (simp; try omega)))) rfl ?_
   rintro _ w67 ⟨q_w67, c_w67⟩
   have hs_w67 : w50.heap.size ≤ w67.heap.size := Chg.size c_w67
   replace hsl3 := SlAt.kb hsl3 c_w67 (fun b_ o_ ha_ => by have := hlo3 _ ha_; simp only at this; omega)
   replace p6 := p6.kb c_w67 (by omega)
   have C_w67 := Chg.newRng C_w50 c_w67 (by omega)
   have p3 := q_w67
   refine s_end ?_
   refine go_ret ?_
   refine ⟨_, .cons ⟨_, rfl, run_load_agg Tryz.isAgg86 Tryz.sizeOf86 (bs_len (by first | omega | (simp; try omega))) p3.rd⟩ (.nil), ?_⟩
   exact ⟨rfl, C_w67⟩
theorem sumR_spec (d : Int) (l : List UInt8) (a : Option Addr) (n c : Nat) (w : World) (hn : l.length = n) (h0 : 0 < n) (hbig : n ≤ 1048576) (hsl : SlAt w a (bs l)) :
  Rtn Tryz.prog 21 [i64 d, Value.slice a n c].toArray w (fun v w' => v = .agg (bs ((stateR d l n).take 32)).toArray ∧ Kept w w') := by
 refine fn_body (l := [i64 d, Value.slice a n c]) 13 [.cell 4 27] Tryz.func21 rfl Tryz.ntmps21 (Nat.le_of_ble_eq_true rfl) (by rw [Tryz.results21]) ?_
 refine go_seq ?_
 refine go_region 1 rfl rfl ?_
 refine s_do rfl rfl (w_alloc (bs (List.replicate 32 0)) Tryz.zeroValue27 (by kernel_rfl)) rfl ?_
 rintro _ w1 ⟨b2, rfl, hl_b2, hu_b2, p3, c_w1⟩
 have hs_w1 : w.heap.size ≤ w1.heap.size := Chg.size c_w1
 have C_w1 := Chg.pure (Chg.refl no w) c_w1
 have hn_b2 : w.heap.size ≤ b2 := by have := Chg.size C_w1; omega
 refine s_end ?_
 refine go_seq ?_
 refine go_region 5 rfl rfl ?_
 refine s_val rfl rfl (r_move) rfl ?_
 refine s_val rfl rfl (r_move) rfl ?_
 refine s_do rfl rfl (w_call Tryz.call46 rfl (stateR_spec _ _ _ _ _ _ (by omega) (by omega) (by omega) (hsl.k C_w1))) rfl ?_
 rintro _ w4 ⟨rfl, c_w4⟩
 have hs_w4 : w1.heap.size ≤ w4.heap.size := Chg.size c_w4
 replace p3 := p3.k c_w4
 have C_w4 := Chg.pure C_w1 c_w4
 refine s_do rfl rfl (w_alloc (bs (List.replicate 64 0)) Tryz.zeroValue86 (by kernel_rfl)) rfl ?_
 rintro _ w5 ⟨b6, rfl, hl_b6, hu_b6, p7, c_w5⟩
 have hs_w5 : w4.heap.size ≤ w5.heap.size := Chg.size c_w5
 replace p3 := p3.k c_w5
 have C_w5 := Chg.pure C_w4 c_w5
 have hn_b6 : w.heap.size ≤ b6 := by have := Chg.size C_w5; omega
 refine s_do rfl rfl (w_storeA (o := 0) Tryz.sizeOf86 rfl rfl (bs_len (by first | omega | (simp; try omega))) (flat_bs _) p7 (bs_len (by first | omega | (simp; try omega)))) rfl ?_
 rintro _ w8 ⟨q_w8, c_w8⟩
 have hs_w8 : w5.heap.size ≤ w8.heap.size := Chg.size c_w8
 replace p3 := p3.kb c_w8 (by omega)
 have C_w8 := Chg.newRng C_w5 c_w8 (by omega)
 have p7 := q_w8
 refine s_end ?_
 refine go_seq ?_
 refine go_drawsE 2 (.take 0 (.take 1 (.eff 2 .done))) (by kernel_rfl) (by kernel_rfl) fun w9 c_w9 => ?_
 have hs_w9 : w8.heap.size ≤ w9.heap.size := Chg.size c_w9
 replace p3 := p3.k c_w9
 replace p7 := p7.k c_w9
 have C_w9 := Chg.pure C_w8 c_w9
 refine s_takeE rfl rfl (r_sliceA (l := 0) (h := 32) (m := 32) Tryz.runUnderlying27 Tryz.sizeOf5 rfl rfl rfl rfl (by first | decide | (intro h_; cases h_)) (by first | decide | omega) (by first | decide | omega | (intro _; omega)) (by first | decide | omega) (by first | decide | omega)) ?_
 refine s_takeE rfl rfl (r_sliceA (l := 0) (h := 32) (m := 64) Tryz.runUnderlying86 Tryz.sizeOf5 rfl rfl ⟨_, _, rfl, by first | rfl | omega⟩ rfl (by first | decide | (intro h_; cases h_)) (by first | decide | omega) (by first | decide | omega | (intro _; omega)) (by first | decide | omega) (by first | decide | omega)) ?_
 refine s_do rfl rfl (w_copy_b (o := 0) (lo := 0) Tryz.underlying55 (by kernel_rfl) rfl rfl p3 (by first | omega | (simp; try omega)) (SlAt.some (Rd.subB p7.rd 0 (32))) (by first | rfl | omega | (simp; done) | (simp; omega))) rfl ?_
 rintro _ w10 ⟨rfl, q_w10, c_w10⟩
 have hs_w10 : w9.heap.size ≤ w10.heap.size := Chg.size c_w10
 replace p7 := p7.kb c_w10 (by omega)
 have C_w10 := Chg.newRng C_w9 c_w10 (by omega)
 have p3 := q_w10
 refine s_end ?_
 refine go_seq ?_
 refine go_region 2 rfl rfl ?_
 refine s_val rfl rfl (r_loadN Tryz.isAgg27 Tryz.sizeOf27 rfl p3.rd (bs_len (by first | omega | (simp; try omega)))) rfl ?_
 refine s_do rfl rfl (w_storeA (o := 0) Tryz.sizeOf27 rfl rfl (bs_len (by first | omega | (simp; try omega))) (flat_bs _) p3 (bs_len (by first | omega | (simp; try omega)))) rfl ?_
 rintro _ w11 ⟨q_w11, c_w11⟩
 have hs_w11 : w10.heap.size ≤ w11.heap.size := Chg.size c_w11
 replace p7 := p7.kb c_w11 (by omega)
 have C_w11 := Chg.newRng C_w10 c_w11 (by omega)
 have p3 := q_w11
 refine s_end ?_
 refine go_ret ?_
 refine ⟨_, .cons ⟨_, rfl, run_load_agg Tryz.isAgg27 Tryz.sizeOf27 (bs_len (by first | omega | (simp; try omega))) p3.rd⟩ (.nil), ?_⟩
 have e_ : putAt (List.replicate 32 0) 0 (List.take (32 - 0) (List.take 32 (stateR d l n))) = (stateR d l n).take 32 := by
  rw [putAt0, List.take_take]; simp
 exact ⟨congrArg (fun l => Value.agg (bs l).toArray) e_, C_w11⟩
end Go.Proofs.YtippcmedgfmgbaaGreat
end
section
open Go Go.Eng Go.Proofs
namespace Go.Proofs.YtippcmedgfmgbaaGreat
def hashR (d : Int) (l : List UInt8) : List UInt8 := (stateR d l l.length).take 32
@[simp] theorem hashR_length (d : Int) (l : List UInt8) : (hashR d l).length = 32 := by simp [hashR]
def hashB (d : Int) (l : List UInt8) : List UInt8 := (endF (initS d) l l.length).take 32
@[simp] theorem hashB_length (d : Int) (l : List UInt8) : (hashB d l).length = 32 := by simp [hashB]
theorem flat_le (ls : List (List UInt8)) (k : Nat) : (ls.take k).flatten.length ≤ ls.flatten.length := by
  conv => rhs; rw [← List.take_append_drop k ls]
  rw [List.flatten_append, List.length_append]
  exact Nat.le_add_right _ _
theorem summed_spec (d : Int) (ls : List (List UInt8)) (vs : List Value) (a : Option Addr) (n c : Nat) (w : World) (h0 : 0 ≤ d) (h1 : d ≤ 255) (hn : vs.length = n) (hc : n ≤ c) (hbig : n < 4611686018427387904) (hb : ls.flatten.length ≤ 1048576) (hsl : SlAt w a vs) (hls : SlsOk w vs ls) :
  Rtn Tryz.prog 109 [i64 d, Value.slice a n c].toArray w (fun v w' => ∃ b, v = tup [.pointer (some ⟨b, 0, none⟩), i64 0] ∧ w.heap.size ≤ b ∧ b < w'.heap.size ∧ Smr w' b (initS d) ls.flatten ∧ Pc w' b 97 [i64 ((ls.flatten.length : Nat) : Int)] ∧ Kept w w') := by
 have hlv := hls.1
 refine fn_body (l := [i64 d, Value.slice a n c]) 33 [.tmp 4, .tmp 5] Tryz.func109 rfl Tryz.ntmps109 (Nat.le_of_ble_eq_true rfl) (by rw [Tryz.results109]) ?_
 refine go_seq ?_
 refine go_region 2 rfl rfl ?_
 refine s_val rfl rfl (r_assign) rfl ?_
 refine s_val rfl rfl (r_assign) rfl ?_
 refine s_end ?_
 refine go_seq ?_
 refine go_region 7 rfl rfl ?_
 refine s_val rfl rfl (r_move) rfl ?_
 refine s_do rfl rfl (w_call Tryz.call59 rfl (newSum_spec _ _ (by omega) (by omega))) rfl ?_
 rintro _ w1 ⟨b2, rfl, hl_b2, hu_b2, sm3, p4, c_w1⟩
 have hs_w1 : w.heap.size ≤ w1.heap.size := Chg.size c_w1
 have C_w1 := Chg.pure (Chg.refl no w) c_w1
 have hn_b2 : w.heap.size ≤ b2 := by have := Chg.size C_w1; omega
 refine s_val rfl rfl (r_move) rfl ?_
 refine s_val rfl rfl (r_extract rfl rfl) rfl ?_
 refine s_val rfl rfl (r_extract rfl rfl) rfl ?_
 refine s_val rfl rfl (r_assign) rfl ?_
 refine s_val rfl rfl (r_assign) rfl ?_
 refine s_end ?_
 refine go_seq ?_
 refine go_seq ?_
 refine go_region 2 rfl rfl ?_
 refine s_val rfl rfl (r_move) rfl ?_
 refine s_val rfl rfl (r_neq rfl rfl) rfl ?_
 refine s_end ?_
 refine go_ifb _ rfl (fun h5 => ?_) (fun h5 => ?_)
 ·first | replace h5 := dcT h5 | replace h5 := dcF (nt h5) | skip
  exfalso
  omega
 ·first | replace h5 := dcF h5 | replace h5 := dcT (nf h5) | skip
  refine go_skip ?_
  refine go_seq ?_
  refine go_seq ?_
  refine go_region 3 rfl rfl ?_
  refine s_val rfl rfl (r_move) rfl ?_
  refine s_val rfl rfl (r_len Tryz.runUnderlying62 rfl) rfl ?_
  refine s_val rfl rfl (r_move) rfl ?_
  refine s_end ?_
  refine go_block ?_
  refine go_loopM (σ := Nat × Nat) [(4, 5), (9, 10), (21, 31)] (fun (x_ : Nat × Nat) e' w' => match x_ with | (k, tk) => e' 21 = i64 (k : Nat) ∧ k ≤ n ∧ tk = (ls.take k).flatten.length ∧ Smr w' b2 (initS d) (ls.take k).flatten ∧ Pc w' b2 97 [i64 (tk : Nat)] ∧ b2 < w'.heap.size ∧ Chg no w w') (fun (x_ : Nat × Nat) => match x_ with | (k, tk) => n - k) (0, 0) ?_ ?_
  ·exact ⟨rfl, by omega, rfl, sm3, p4, by omega, C_w1⟩
  rintro ⟨k, tk⟩ f7 w6 ⟨e8, hk, htk, hsm, htot, hub, C_w6⟩
  have ob_10 : ∃ g_, f7 = upd g_ 21 (i64 (k : Nat)) := ⟨f7, upd_id e8⟩
  obtain ⟨f9, rfl⟩ := ob_10
  clear e8
  have hs_w6 : w.heap.size ≤ w6.heap.size := Chg.size C_w6
  refine go_seq ?_
  refine go_region 1 rfl rfl ?_
  refine s_val rfl rfl (r_lss rfl rfl) rfl ?_
  refine s_end ?_
  refine go_seq ?_
  refine go_ifb _ rfl (fun h2 => ?_) (fun h2 => ?_)
  ·first | replace h2 := dcT h2 | replace h2 := dcF (nt h2) | skip
   have ob_11 := hls.2 k (by omega)
   obtain ⟨ak, nk, ck, hvk, hlk, h0k, hck, hak⟩ := ob_11
   have hak_lt := SlAt.blk hak (bs_ne (by omega))
   have hfl := flat_succ ls k (by omega)
   have hfl2 : (ls.take (k + 1)).flatten.length = (ls.take k).flatten.length + nk := by rw [hfl, List.length_append, hlk]
   have hfl3 := flat_le ls (k + 1)
   refine go_skip ?_
   refine go_seq ?_
   refine go_block ?_
   refine go_seq ?_
   refine go_region 3 rfl rfl ?_
   refine s_val rfl rfl (r_indexSl (k := k) Tryz.runUnderlying62 Tryz.sizeOf55 rfl (hsl.k C_w6) (by intro h_; rw [h_] at hn; simp at hn; omega) rfl (by first | rfl | omega) (by omega)) rfl ?_
   refine s_val rfl rfl (r_loadSl1 Tryz.isAgg55 rfl (hsl.k C_w6) hvk) rfl ?_
   refine s_val rfl rfl (r_assign) rfl ?_
   refine s_end ?_
   refine go_seq ?_
   refine go_region 4 rfl rfl ?_
   refine s_val rfl rfl (r_move) rfl ?_
   refine s_val rfl rfl (r_move) rfl ?_
   refine s_do rfl rfl (w_call Tryz.call61 rfl (write_spec _ _ _ b2 _ _ _ _ _ (by first | omega | (simp; try omega)) (by first | omega | (simp; try omega)) (by omega) hsm htot (hak.k C_w6) (fun x_ hx_ => by have := hak_lt x_ hx_; omega))) rfl ?_
   rintro _ w12 ⟨rfl, q_w12, t_w12, c_w12⟩
   have hs_w12 : w6.heap.size ≤ w12.heap.size := Chg.size c_w12
   have C_w12 := Chg.newRng C_w6 c_w12 (by omega)
   have hsm := q_w12
   have htot := t_w12
   refine s_val rfl rfl (r_assign) rfl ?_
   refine s_end ?_
   refine go_seq ?_
   refine go_region 2 rfl rfl ?_
   refine s_val rfl rfl (r_move) rfl ?_
   refine s_val rfl rfl (r_neq rfl rfl) rfl ?_
   refine s_end ?_
   refine go_ifb _ rfl (fun h13 => ?_) (fun h13 => ?_)
   ·first | replace h13 := dcT h13 | replace h13 := dcF (nt h13) | skip
    exfalso
    omega
   ·first | replace h13 := dcF h13 | replace h13 := dcT (nf h13) | skip
    refine go_skip ?_
    refine go_nil (block_normal ?_)
    refine go_region 2 rfl rfl ?_
    refine s_val rfl rfl (r_addi rfl rfl (by omega)) rfl ?_
    refine s_val rfl rfl (r_move) rfl ?_
    refine s_end ?_
    refine go_nil (loop_normal ⟨⟨(k + 1, tk + nk), by first | omega | (dsimp only; omega), ⟨rfl, by omega, by omega, by rw [hfl]; exact hsm, htot, by omega, C_w12⟩⟩, (by repeat (first | exact same_refl | exact same_over | refine same_upd rfl ?_ | refine same_over2 rfl ?_))⟩)
  ·first | replace h2 := dcF h2 | replace h2 := dcT (nf h2) | skip
   have hkn : k = n := by omega
   have htl : ls.take k = ls := List.take_of_length_le (by omega)
   refine go_exit (loop_exit (block_hit ?_))
   refine go_seq ?_
   refine go_region 3 rfl rfl ?_
   refine s_val rfl rfl (r_move) rfl ?_
   refine s_val rfl rfl (r_assign) rfl ?_
   refine s_val rfl rfl (r_assign) rfl ?_
   refine s_end ?_
   refine go_ret ?_
   refine ⟨_, .cons rfl (.cons rfl (.nil)), ?_⟩
   rw [htl] at hsm htk
   subst htk
   exact ⟨_, rfl, hn_b2, by omega, hsm, htot, C_w6⟩
end Go.Proofs.YtippcmedgfmgbaaGreat
end
section
open Go Go.Eng Go.Proofs
namespace Go.Proofs.YtippcmedgfmgbaaGreat
theorem SlsOk.one {w : World} {a : Option Addr} {n c : Nat} {l : List UInt8} (hl : l.length = n) (h0 : 0 < n) (hc : n ≤ c) (h : SlAt w a (bs l)) : SlsOk w [.slice a n c] [l] :=
  ⟨rfl, fun k hk => by
    obtain rfl : k = 0 := by simp at hk; omega
    exact ⟨a, n, c, rfl, hl, h0, hc, h⟩⟩
theorem SlsOk.two {w : World} {a a2 : Option Addr} {n c n2 c2 : Nat} {l l2 : List UInt8} (hl : l.length = n) (h0 : 0 < n) (hc : n ≤ c) (h : SlAt w a (bs l)) (hl2 : l2.length = n2) (h02 : 0 < n2) (hc2 : n2 ≤ c2) (h2 : SlAt w a2 (bs l2)) :
    SlsOk w [.slice a n c, .slice a2 n2 c2] [l, l2] :=
  ⟨rfl, fun k hk => by
    rcases k with _ | _ | k
    · exact ⟨a, n, c, rfl, hl, h0, hc, h⟩
    · exact ⟨a2, n2, c2, rfl, hl2, h02, hc2, h2⟩
    · simp at hk; omega⟩
theorem sumOf_spec (d : Int) (l : List UInt8) (a : Option Addr) (n c : Nat) (w : World) (h0 : 0 ≤ d) (h1 : d ≤ 255) (hn : l.length = n) (hn0 : 0 < n) (hc : n ≤ c) (hbig : n ≤ 1048576) (hsl : SlAt w a (bs l)) :
  Rtn Tryz.prog 91 [i64 d, Value.slice a n c].toArray w (fun v w' => v = tup [.agg (bs (hashB d l)).toArray, i64 0] ∧ Kept w w') := by
 refine fn_body (l := [i64 d, Value.slice a n c]) 21 [.cell 4 27, .tmp 5] Tryz.func91 rfl Tryz.ntmps91 (Nat.le_of_ble_eq_true rfl) (by rw [Tryz.results91]) ?_
 refine go_seq ?_
 refine go_region 2 rfl rfl ?_
 refine s_do rfl rfl (w_alloc (bs (List.replicate 32 0)) Tryz.zeroValue27 (by kernel_rfl)) rfl ?_
 rintro _ w1 ⟨b2, rfl, hl_b2, hu_b2, p3, c_w1⟩
 have hs_w1 : w.heap.size ≤ w1.heap.size := Chg.size c_w1
 have C_w1 := Chg.pure (Chg.refl no w) c_w1
 have hn_b2 : w.heap.size ≤ b2 := by have := Chg.size C_w1; omega
 refine s_val rfl rfl (r_assign) rfl ?_
 refine s_end ?_
 refine go_seq ?_
 refine go_region 9 rfl rfl ?_
 refine s_val rfl rfl (r_move) rfl ?_
 refine s_val rfl rfl (r_move) rfl ?_
 refine s_do rfl rfl (w_build1 (E := 55) Tryz.underlying62 (i := Tryz.t55) (by kernel_rfl) rfl rfl rfl rfl rfl) rfl ?_
 rintro _ w4 ⟨b5, rfl, hl_b5, hu_b5, o7, p6, c_w4⟩
 have hs_w4 : w1.heap.size ≤ w4.heap.size := Chg.size c_w4
 replace p3 := p3.k c_w4
 have C_w4 := Chg.pure C_w1 c_w4
 have hn_b5 : w.heap.size ≤ b5 := by have := Chg.size C_w4; omega
 refine s_do rfl rfl (w_call Tryz.call109 rfl (summed_spec (_) [l] [_] _ _ _ _ (by omega) (by omega) rfl (by decide) (by decide) (by simp; omega) (SlAt.some p6.rd) (SlsOk.one (by first | omega | (simp; try omega)) (by first | omega | (simp; try omega)) (by first | omega | (simp; try omega)) (hsl.k C_w4)))) rfl ?_
 rintro _ w8 ⟨b9, rfl, hl_b9, hu_b9, sm10, p11, c_w8⟩
 have hs_w8 : w4.heap.size ≤ w8.heap.size := Chg.size c_w8
 replace p3 := p3.k c_w8
 replace p6 := p6.k c_w8
 have C_w8 := Chg.pure C_w4 c_w8
 have hn_b9 : w.heap.size ≤ b9 := by have := Chg.size C_w8; omega
 have hfl_b9 : [l].flatten.length ≤ 1048576 := by simp; omega
 refine s_val rfl rfl (r_move) rfl ?_
 refine s_val rfl rfl (r_extract rfl rfl) rfl ?_
 refine s_val rfl rfl (r_extract rfl rfl) rfl ?_
 refine s_val rfl rfl (r_assign) rfl ?_
 refine s_val rfl rfl (r_assign) rfl ?_
 refine s_end ?_
 refine go_seq ?_
 refine go_seq ?_
 refine go_region 2 rfl rfl ?_
 refine s_val rfl rfl (r_move) rfl ?_
 refine s_val rfl rfl (r_neq rfl rfl) rfl ?_
 refine s_end ?_
 refine go_ifb _ rfl (fun h12 => ?_) (fun h12 => ?_)
 ·first | replace h12 := dcT h12 | replace h12 := dcF (nt h12) | skip
  exfalso
  omega
 ·first | replace h12 := dcF h12 | replace h12 := dcT (nf h12) | skip
  refine go_skip ?_
  refine go_seq ?_
  refine go_region 4 rfl rfl ?_
  refine s_val rfl rfl (r_move) rfl ?_
  refine s_do rfl rfl (w_call Tryz.call62 rfl (sum_spec _ _ _ _ _ (by omega) sm10 p11.rd)) rfl ?_
  rintro _ w13 ⟨rfl, c_w13⟩
  have hs_w13 : w8.heap.size ≤ w13.heap.size := Chg.size c_w13
  replace p3 := p3.k c_w13
  replace p6 := p6.k c_w13
  replace sm10 := sm10.k c_w13
  replace p11 := p11.k c_w13
  have C_w13 := Chg.pure C_w8 c_w13
  refine s_do rfl rfl (w_storeA (o := 0) Tryz.sizeOf27 rfl rfl (bs_len (by first | omega | (simp; try omega))) (flat_bs _) p3 (bs_len (by first | omega | (simp; try omega)))) rfl ?_
  rintro _ w14 ⟨q_w14, c_w14⟩
  have hs_w14 : w13.heap.size ≤ w14.heap.size := Chg.size c_w14
  replace p6 := p6.kb c_w14 (by omega)
  replace sm10 := sm10.kb c_w14 (by omega)
  replace p11 := p11.kb c_w14 (by omega)
  have C_w14 := Chg.newRng C_w13 c_w14 (by omega)
  have p3 := q_w14
  refine s_val rfl rfl (r_assign) rfl ?_
  refine s_end ?_
  refine go_ret ?_
  refine ⟨_, .cons ⟨_, rfl, run_load_agg Tryz.isAgg27 Tryz.sizeOf27 (bs_len (by first | omega | (simp; try omega))) p3.rd⟩ (.cons rfl (.nil)), ?_⟩
  have e_ : [l].flatten = l := by simp
  have e2 : (endF (initS d) [l].flatten [l].flatten.length).take 32 = hashB d l := by rw [e_]; rfl
  exact ⟨congrArg (fun x => tup [Value.agg (bs x).toArray, i64 0]) e2, C_w14⟩
theorem grow_spec (n : Nat) (w : World) (hn : 0 < n) (hbig : n ≤ 1048576) :
  Rtn Tryz.prog 86 [.slice none 0 0, i64 (n : Nat)].toArray w (fun v w' => ∃ a c, v = .slice a 0 c ∧ Owns w' w.heap.size 5 1 (.slice a 0 c) 0 (bs []) ∧ Kept w w') := by
 refine fn_body (l := [.slice none 0 0, i64 (n : Nat)]) 27 [.tmp 4] Tryz.func86 rfl Tryz.ntmps86 (Nat.le_of_ble_eq_true rfl) (by rw [Tryz.results86]) ?_
 refine go_seq ?_
 refine go_region 1 rfl rfl ?_
 refine s_val rfl rfl (r_assign) rfl ?_
 refine s_end ?_
 refine go_seq ?_
 refine go_seq ?_
 refine go_region 2 rfl rfl ?_
 refine s_val rfl rfl (r_move) rfl ?_
 refine s_val rfl rfl (r_lss rfl rfl) rfl ?_
 refine s_end ?_
 refine go_ifb _ rfl (fun h1 => ?_) (fun h1 => ?_)
 ·first | replace h1 := dcT h1 | replace h1 := dcF (nt h1) | skip
  exfalso
  omega
 ·first | replace h1 := dcF h1 | replace h1 := dcT (nf h1) | skip
  refine go_skip ?_
  refine go_seq ?_
  refine go_seq ?_
  refine go_region 8 rfl rfl ?_
  refine s_val rfl rfl (r_move) rfl ?_
  refine s_val rfl rfl (r_move) rfl ?_
  refine s_val rfl rfl (r_cap Tryz.runUnderlying55 rfl) rfl ?_
  refine s_val rfl rfl (r_move) rfl ?_
  refine s_val rfl rfl (r_len Tryz.runUnderlying55 rfl) rfl ?_
  refine s_val rfl rfl (r_subi rfl rfl (by omega)) rfl ?_
  refine s_val rfl rfl (r_subi rfl rfl (by omega)) rfl ?_
  refine s_val rfl rfl (r_assign) rfl ?_
  refine s_end ?_
  refine go_seq ?_
  refine go_region 2 rfl rfl ?_
  refine s_val rfl rfl (r_move) rfl ?_
  refine s_val rfl rfl (r_gtr rfl rfl) rfl ?_
  refine s_end ?_
  refine go_ifb _ rfl (fun h2 => ?_) (fun h2 => ?_)
  ·first | replace h2 := dcT h2 | replace h2 := dcF (nt h2) | skip
   refine go_region 10 rfl rfl ?_
   refine s_val rfl rfl (r_move) rfl ?_
   refine s_val rfl rfl (r_move) rfl ?_
   refine s_val rfl rfl (r_cap Tryz.runUnderlying55 rfl) rfl ?_
   refine s_val rfl rfl (r_sliceSl (l := 0) (h := 0) (m := 0) Tryz.runUnderlying55 Tryz.sizeOf5 rfl rfl ⟨_, _, rfl, by first | rfl | omega⟩ rfl (by decide) (by decide) (by decide) (by decide)) rfl ?_
   refine s_val rfl rfl (r_move) rfl ?_
   refine s_do rfl rfl (w_appendZ (B := w.heap.size) (E := 5) (m := (n - (0 - 0))) Tryz.underlying55 Tryz.underlying3 (i := Tryz.t5) (by kernel_rfl) rfl rfl rfl rfl (by rfl) (Owns.nil _ _ _ _) rfl (by first | rfl | omega) (by omega) (by omega) (by show _ * 1 ≤ _; omega) (Nat.le_refl _)) rfl ?_
   rintro v7 w3 ⟨o4, c_w3⟩
   replace c_w3 := Chg.kept_of_nil c_w3
   have hs_w3 : w.heap.size ≤ w3.heap.size := Chg.size c_w3
   have C_w3 := Chg.pure (Chg.refl no w) c_w3
   have hfo_o4 := Owns.form2 o4
   obtain ⟨A5, cap6, e_o4, hc_cap6⟩ := hfo_o4
   subst e_o4
   replace o4 := Owns.nilZ o4
   refine s_val rfl rfl (r_move) rfl ?_
   refine s_val rfl rfl (r_len Tryz.runUnderlying55 rfl) rfl ?_
   have o8 : Owns w3 (w.heap.size) 5 1 (.slice (cutA A5 0 cap6 1) (0 - 0) (cap6 - 0)) 0 (bs []) := by rw [cutA_zero]; exact Owns.takeN o4 (n2 := 0) (by omega)
   refine s_val rfl rfl (r_sliceSl (l := 0) (h := 0) (m := cap6) Tryz.runUnderlying55 Tryz.sizeOf5 rfl rfl ⟨_, _, rfl, by first | rfl | omega⟩ rfl (by decide) (by omega) (by first | omega | (intro _; omega)) (by exact Nat.le_refl _)) rfl ?_
   refine s_val rfl rfl (r_assign) rfl ?_
   refine s_end ?_
   refine go_seq ?_
   refine go_region 2 rfl rfl ?_
   refine s_val rfl rfl (r_move) rfl ?_
   refine s_val rfl rfl (r_assign) rfl ?_
   refine s_end ?_
   refine go_ret ?_
   refine ⟨_, .cons rfl (.nil), ?_⟩
   exact ⟨_, _, rfl, Owns.mono o8 (by omega), C_w3⟩
  ·first | replace h2 := dcF h2 | replace h2 := dcT (nf h2) | skip
   exfalso
   omega
set_option maxHeartbeats 800000 in
theorem concat_spec (ls : List (List UInt8)) (vs : List Value) (a : Option Addr) (n c : Nat) (w : World) (hn : vs.length = n) (hc : n ≤ c) (hbig : n < 4611686018427387904) (hn0 : 0 < ls.flatten.length) (hb : ls.flatten.length ≤ 1048576) (hsl : SlAt w a vs) (hls : SlsOk w vs ls) :
  Rtn Tryz.prog 64 [Value.slice a n c].toArray w (fun v w' => ∃ a c, v = .slice a ls.flatten.length c ∧ ls.flatten.length ≤ c ∧ Owns w' w.heap.size 5 1 (.slice a ls.flatten.length c) ls.flatten.length (bs ls.flatten) ∧ Kept w w') := by
 have hlv := hls.1
 refine fn_body (l := [Value.slice a n c]) 36 [.tmp 2] Tryz.func64 rfl Tryz.ntmps64 (Nat.le_of_ble_eq_true rfl) (by rw [Tryz.results64]) ?_
 refine go_seq ?_
 refine go_region 1 rfl rfl ?_
 refine s_val rfl rfl (r_assign) rfl ?_
 refine s_end ?_
 refine go_seq ?_
 refine go_region 1 rfl rfl ?_
 refine s_val rfl rfl (r_assign) rfl ?_
 refine s_end ?_
 refine go_seq ?_
 refine go_seq ?_
 refine go_region 3 rfl rfl ?_
 refine s_val rfl rfl (r_move) rfl ?_
 refine s_val rfl rfl (r_len Tryz.runUnderlying62 rfl) rfl ?_
 refine s_val rfl rfl (r_move) rfl ?_
 refine s_end ?_
 refine go_block ?_
 refine go_loopM (σ := Nat × Nat) [(3, 3), (5, 5), (11, 22)] (fun (x_ : Nat × Nat) e' w' => match x_ with | (k, tk) => e' 11 = i64 (k : Nat) ∧ e' 3 = i64 (tk : Nat) ∧ k ≤ n ∧ tk = (ls.take k).flatten.length ∧ Chg no w w') (fun (x_ : Nat × Nat) => match x_ with | (k, tk) => n - k) (0, 0) ?_ ?_
 ·exact ⟨rfl, rfl, by omega, rfl, (Chg.refl no w)⟩
 rintro ⟨k, tk⟩ f2 w1 ⟨e3, e4, hk, htk, C_w1⟩
 have ob_6 : ∃ g_, f2 = upd g_ 11 (i64 (k : Nat)) := ⟨f2, upd_id e3⟩
 obtain ⟨f5, rfl⟩ := ob_6
 have ob_8 : ∃ g_, f5 = upd g_ 3 (i64 (tk : Nat)) := ⟨f5, upd_id e4⟩
 obtain ⟨f7, rfl⟩ := ob_8
 clear e3 e4
 have hs_w1 : w.heap.size ≤ w1.heap.size := Chg.size C_w1
 refine go_seq ?_
 refine go_region 1 rfl rfl ?_
 refine s_val rfl rfl (r_lss rfl rfl) rfl ?_
 refine s_end ?_
 refine go_seq ?_
 refine go_ifb _ rfl (fun h2 => ?_) (fun h2 => ?_)
 ·first | replace h2 := dcT h2 | replace h2 := dcF (nt h2) | skip
  have ob_9 := hls.2 k (by omega)
  obtain ⟨ak, nk, ck, hvk, hlk, h0k, hck, hak⟩ := ob_9
  have hak_lt := SlAt.blk hak (bs_ne (by omega))
  have hfl := flat_succ ls k (by omega)
  have hfl2 : (ls.take (k + 1)).flatten.length = (ls.take k).flatten.length + nk := by rw [hfl, List.length_append, hlk]
  have hfl3 := flat_le ls (k + 1)
  refine go_skip ?_
  refine go_seq ?_
  refine go_block ?_
  refine go_seq ?_
  refine go_region 3 rfl rfl ?_
  refine s_val rfl rfl (r_indexSl (k := k) Tryz.runUnderlying62 Tryz.sizeOf55 rfl (hsl.k C_w1) (by intro h_; rw [h_] at hn; simp at hn; omega) rfl (by first | rfl | omega) (by omega)) rfl ?_
  refine s_val rfl rfl (r_loadSl1 Tryz.isAgg55 rfl (hsl.k C_w1) hvk) rfl ?_
  refine s_val rfl rfl (r_assign) rfl ?_
  refine s_end ?_
  refine go_seq ?_
  refine go_region 5 rfl rfl ?_
  refine s_val rfl rfl (r_move) rfl ?_
  refine s_val rfl rfl (r_move) rfl ?_
  refine s_val rfl rfl (r_len Tryz.runUnderlying55 rfl) rfl ?_
  refine s_val rfl rfl (r_addi rfl rfl (by omega)) rfl ?_
  refine s_val rfl rfl (r_assign) rfl ?_
  refine s_end ?_
  refine go_seq ?_
  refine go_region 2 rfl rfl ?_
  refine s_val rfl rfl (r_move) rfl ?_
  refine s_val rfl rfl (r_lss rfl rfl) rfl ?_
  refine s_end ?_
  refine go_ifb _ rfl (fun h10 => ?_) (fun h10 => ?_)
  ·first | replace h10 := dcT h10 | replace h10 := dcF (nt h10) | skip
   exfalso
   omega
  ·first | replace h10 := dcF h10 | replace h10 := dcT (nf h10) | skip
   refine go_skip ?_
   refine go_nil (block_normal ?_)
   refine go_region 2 rfl rfl ?_
   refine s_val rfl rfl (r_addi rfl rfl (by omega)) rfl ?_
   refine s_val rfl rfl (r_move) rfl ?_
   refine s_end ?_
   refine go_nil (loop_normal ⟨⟨(k + 1, tk + nk), by first | omega | (dsimp only; omega), ⟨rfl, rfl, by omega, by omega, C_w1⟩⟩, (by repeat (first | exact same_refl | exact same_over | refine same_upd rfl ?_ | refine same_over2 rfl ?_))⟩)
 ·first | replace h2 := dcF h2 | replace h2 := dcT (nf h2) | skip
  have hkn : k = n := by omega
  have htl : ls.take k = ls := List.take_of_length_le (by omega)
  rw [htl] at htk
  subst htk
  refine go_exit (loop_exit (block_hit ?_))
  refine go_seq ?_
  refine go_region 3 rfl rfl ?_
  refine s_val rfl rfl (r_move) rfl ?_
  refine s_do rfl rfl (w_call Tryz.call86 rfl (grow_spec _ _ (by omega) (by omega))) rfl ?_
  rintro _ w11 ⟨A13, cap14, rfl, o12, c_w11⟩
  have hs_w11 : w1.heap.size ≤ w11.heap.size := Chg.size c_w11
  have C_w11 := Chg.pure C_w1 c_w11
  refine s_val rfl rfl (r_assign) rfl ?_
  refine s_end ?_
  refine go_seq ?_
  refine go_seq ?_
  refine go_region 3 rfl rfl ?_
  refine s_val rfl rfl (r_move) rfl ?_
  refine s_val rfl rfl (r_len Tryz.runUnderlying62 rfl) rfl ?_
  refine s_val rfl rfl (r_move) rfl ?_
  refine s_end ?_
  refine go_block ?_
  refine go_loopM (σ := Nat × Option Addr × Nat × Nat) [(6, 6), (8, 8), (27, 34)] (fun (x_ : Nat × Option Addr × Nat × Nat) e' w' => match x_ with | (k, a1, n1, c1) => e' 27 = i64 (k : Nat) ∧ e' 6 = Value.slice a1 n1 c1 ∧ k ≤ n ∧ n1 = (ls.take k).flatten.length ∧ w1.heap.size ≤ w'.heap.size ∧ Owns w' (w1.heap.size) 5 1 (Value.slice a1 n1 c1) n1 (bs (ls.take k).flatten) ∧ n1 ≤ c1 ∧ Chg no w w') (fun (x_ : Nat × Option Addr × Nat × Nat) => match x_ with | (k, a1, n1, c1) => n - k) (0, A13, 0, cap14) ?_ ?_
  ·exact ⟨rfl, rfl, by omega, rfl, by omega, o12, by omega, C_w11⟩
  rintro ⟨k, a1, n1, c1⟩ f16 w15 ⟨e17, e18, hk, hn1, hB_ho1, ho1, hc1, C_w15⟩
  have ob_20 : ∃ g_, f16 = upd g_ 27 (i64 (k : Nat)) := ⟨f16, upd_id e17⟩
  obtain ⟨f19, rfl⟩ := ob_20
  have ob_22 : ∃ g_, f19 = upd g_ 6 (Value.slice a1 n1 c1) := ⟨f19, upd_id e18⟩
  obtain ⟨f21, rfl⟩ := ob_22
  clear e17 e18
  have hs_w15 : w.heap.size ≤ w15.heap.size := Chg.size C_w15
  refine go_seq ?_
  refine go_region 1 rfl rfl ?_
  refine s_val rfl rfl (r_lss rfl rfl) rfl ?_
  refine s_end ?_
  refine go_seq ?_
  refine go_ifb _ rfl (fun h3 => ?_) (fun h3 => ?_)
  ·first | replace h3 := dcT h3 | replace h3 := dcF (nt h3) | skip
   have ob_23 := hls.2 k (by omega)
   obtain ⟨ak, nk, ck, hvk, hlk, h0k, hck, hak⟩ := ob_23
   have hak_lt := SlAt.blk hak (bs_ne (by omega))
   have hfl := flat_succ ls k (by omega)
   have hfl2 : (ls.take (k + 1)).flatten.length = (ls.take k).flatten.length + nk := by rw [hfl, List.length_append, hlk]
   have hfl3 := flat_le ls (k + 1)
   refine go_skip ?_
   refine go_seq ?_
   refine go_block ?_
   refine go_seq ?_
   refine go_region 3 rfl rfl ?_
   refine s_val rfl rfl (r_indexSl (k := k) Tryz.runUnderlying62 Tryz.sizeOf55 rfl (hsl.k C_w15) (by intro h_; rw [h_] at hn; simp at hn; omega) rfl (by first | rfl | omega) (by omega)) rfl ?_
   refine s_val rfl rfl (r_loadSl1 Tryz.isAgg55 rfl (hsl.k C_w15) hvk) rfl ?_
   refine s_val rfl rfl (r_assign) rfl ?_
   refine s_end ?_
   refine go_region 4 rfl rfl ?_
   refine s_val rfl rfl (r_move) rfl ?_
   refine s_val rfl rfl (r_move) rfl ?_
   refine s_do rfl rfl (w_append (E := 5) (sz := 1) Tryz.underlying55 rfl (i := Tryz.t5) (by kernel_rfl) rfl rfl rfl rfl (by rfl) ho1 rfl (hak.k C_w15) (by first | (rw [bs_length]; omega) | (simp [bs_length]; done) | (simp [bs_length]; omega) | rfl) (flat_bs _) (by omega) (by show _ * 1 ≤ _; omega) (by omega)) rfl ?_
   rintro v28 w24 ⟨o25, c_w24⟩
   have hs_w24 : w15.heap.size ≤ w24.heap.size := Chg.size c_w24
   have C_w24 := Chg.newOb C_w15 c_w24 ho1 (by omega)
   have hfo_o25 := Owns.form2 o25
   obtain ⟨A26, cap27, e_o25, hc_cap27⟩ := hfo_o25
   subst e_o25
   replace o25 := Owns.appB o25
   refine s_val rfl rfl (r_assign) rfl ?_
   refine s_end ?_
   refine go_nil (block_normal ?_)
   refine go_region 2 rfl rfl ?_
   refine s_val rfl rfl (r_addi rfl rfl (by omega)) rfl ?_
   refine s_val rfl rfl (r_move) rfl ?_
   refine s_end ?_
   refine go_nil (loop_normal ⟨⟨(k + 1, _, n1 + nk, _), by first | omega | (dsimp only; omega), ⟨rfl, rfl, by omega, by omega, by omega, by rw [hfl]; exact o25, by omega, C_w24⟩⟩, (by repeat (first | exact same_refl | exact same_over | refine same_upd rfl ?_ | refine same_over2 rfl ?_))⟩)
  ·first | replace h3 := dcF h3 | replace h3 := dcT (nf h3) | skip
   have hkn : k = n := by omega
   have htl : ls.take k = ls := List.take_of_length_le (by omega)
   rw [htl] at hn1 ho1
   subst hn1
   refine go_exit (loop_exit (block_hit ?_))
   refine go_seq ?_
   refine go_region 2 rfl rfl ?_
   refine s_val rfl rfl (r_move) rfl ?_
   refine s_val rfl rfl (r_assign) rfl ?_
   refine s_end ?_
   refine go_ret ?_
   refine ⟨_, .cons rfl (.nil), ?_⟩
   exact ⟨_, _, rfl, hc1, Owns.mono ho1 (by omega), C_w15⟩
end Go.Proofs.YtippcmedgfmgbaaGreat
end
section
open Go Go.Eng Go.Proofs
namespace Go.Proofs.YtippcmedgfmgbaaGreat
theorem shl32_bv (p : UInt32) (n : Nat) : (shl32 p n).toBitVec = p.toBitVec <<< n := by
  apply BitVec.eq_of_toNat_eq
  rw [BitVec.toNat_shiftLeft, Nat.shiftLeft_eq]
  show (UInt32.ofNat (p.toNat * 2 ^ (min n 32))).toNat = p.toNat * 2 ^ n % 2 ^ 32
  rw [UInt32.toNat_ofNat']
  rcases Nat.le_total n 32 with h | h
  · rw [Nat.min_eq_left h]
  · rw [Nat.min_eq_right h, Nat.mul_mod_left]
    obtain ⟨k, rfl⟩ := Nat.exists_eq_add_of_le h
    rw [Nat.pow_add, show p.toNat * (2 ^ 32 * 2 ^ k) = p.toNat * 2 ^ k * 2 ^ 32 by rw [Nat.mul_comm (2 ^ 32), Nat.mul_assoc], Nat.mul_mod_left]
theorem shr32_zero (p : UInt32) : shr32 p 0 = p := by
  apply UInt32.toNat_inj.1
  rw [shr32, UInt32.toNat_ofNat']
  have := p.toNat_lt
  simp
theorem shl32_or (p q : UInt32) (n : Nat) : shl32 (p ||| q) n = shl32 p n ||| shl32 q n := by
  apply UInt32.toBitVec_inj.1
  rw [shl32_bv, UInt32.toBitVec_or, UInt32.toBitVec_or, shl32_bv, shl32_bv, BitVec.shiftLeft_or_distrib]
theorem shl32_shl (p : UInt32) (m n : Nat) : shl32 (shl32 p m) n = shl32 p (m + n) := by
  apply UInt32.toBitVec_inj.1
  rw [shl32_bv, shl32_bv, shl32_bv, BitVec.shiftLeft_add]
theorem shl32_0 (n : Nat) : shl32 0 n = 0 := by
  apply UInt32.toNat_inj.1
  rw [shl32, UInt32.toNat_ofNat']
  simp
theorem four_words (a b c d : UInt32) : shl32 (shl32 (shl32 (shl32 0 8 ||| a) 8 ||| b) 8 ||| c) 8 ||| d = shl32 a 24 ||| shl32 b 16 ||| shl32 c 8 ||| d := by
  simp only [shl32_or, shl32_shl, shl32_0, UInt32.zero_or]
theorem wordsBTo_zero (s : List UInt8) : ∀ (j i : Nat), j ≤ i → (wordsBTo s j).getD i 0 = 0 := by
  intro j
  induction j with
  | zero =>
    intro i _
    simp only [wordsBTo, List.getD_eq_getElem?_getD, List.getElem?_replicate]
    split <;> rfl
  | succ j ih =>
    intro i hi
    have := ih i (by omega)
    rw [wordsBTo, List.getD_eq_getElem?_getD, List.getElem?_set_ne (by omega), ← List.getD_eq_getElem?_getD, this]
theorem getD_set_eqH {α : Type} {l : List α} {i : Nat} {v d : α} (h : i < l.length) : (l.set i v).getD i d = v := by
  rw [List.getD_eq_getElem?_getD, List.getElem?_set_self h]; rfl
theorem dropTake_getD (s : List UInt8) (a n k : Nat) (h : k < n) : ((s.drop a).take n).getD k 0 = s.getD (a + k) 0 := by
  rw [List.getD_eq_getElem?_getD, List.getElem?_take_of_lt h, List.getElem?_drop, ← List.getD_eq_getElem?_getD]
theorem words_eq (s : List UInt8) : ∀ j, j ≤ 16 → wordsTo s (4 * j) = wordsBTo s j := by
  intro j
  induction j with
  | zero => intro _; rfl
  | succ j ih =>
    intro hj
    have ih := ih (by omega)
    have hl := wordsBTo_length s j
    have hz := wordsBTo_zero s j j (Nat.le_refl _)
    have e0 : 4 * (j + 1) = 4 * j + 3 + 1 := by omega
    have d0 : (4 * j) / 4 = j := by omega
    have d1 : (4 * j + 1) / 4 = j := by omega
    have d2 : (4 * j + 2) / 4 = j := by omega
    have d3 : (4 * j + 3) / 4 = j := by omega
    rw [e0]
    simp only [wordsTo, d0, d1, d2, d3, ih]
    rw [getD_set_eqH (by simp [hl]; omega), getD_set_eqH (by simp [hl]; omega), getD_set_eqH (by simp [hl]; omega), hz]
    simp only [List.set_set]
    rw [four_words]
    simp only [wordsBTo, wordL, dropTake_getD s (4 * j) 4 _ (by decide : 0 < 4), dropTake_getD s (4 * j) 4 _ (by decide : 1 < 4), dropTake_getD s (4 * j) 4 _ (by decide : 2 < 4), dropTake_getD s (4 * j) 4 _ (by decide : 3 < 4), Nat.add_zero]
theorem putAt_four (l : List UInt8) (k : Nat) (a b c d : UInt8) (h : k + 4 ≤ l.length) : putAt l k [a, b, c, d] = (((l.set k a).set (k + 1) b).set (k + 2) c).set (k + 3) d := by
  apply List.ext_getElem?
  intro i
  simp only [putAt, List.append_assoc, List.getElem?_append, List.length_take, List.getElem?_take, List.getElem?_set, List.length_set, List.length_cons, List.length_nil, List.getElem?_drop]
  rcases Nat.lt_or_ge i k with h1 | h1
  · rw [if_pos (by omega), if_pos (by omega), if_neg (by omega), if_neg (by omega), if_neg (by omega), if_neg (by omega)]
  · rw [if_neg (by omega)]
    have hm : min k l.length = k := by omega
    rw [hm]
    obtain ⟨j, rfl⟩ := Nat.exists_eq_add_of_le h1
    rw [show k + j - k = j by omega]
    rcases j with _ | _ | _ | _ | j
    · simp; omega
    · simp; omega
    · simp; omega
    · simp; omega
    · rw [if_neg (by omega), if_neg (by omega), if_neg (by omega), if_neg (by omega), if_neg (by omega)]
      congr 1; omega
theorem octs_eq (W : List UInt32) : ∀ j, j ≤ 16 → octsTo W (4 * j) = stateBTo W j := by
  intro j
  induction j with
  | zero => intro _; rfl
  | succ j ih =>
    intro hj
    have ih := ih (by omega)
    have hl := stateBTo_length W j (by omega)
    have e0 : 4 * (j + 1) = 4 * j + 3 + 1 := by omega
    have d0 : (4 * j) / 4 = j := by omega
    have d1 : (4 * j + 1) / 4 = j := by omega
    have d2 : (4 * j + 2) / 4 = j := by omega
    have d3 : (4 * j + 3) / 4 = j := by omega
    have m0 : 24 - 8 * ((4 * j) % 4) = 24 := by omega
    have m1 : 24 - 8 * ((4 * j + 1) % 4) = 16 := by omega
    have m2 : 24 - 8 * ((4 * j + 2) % 4) = 8 := by omega
    have m3 : 24 - 8 * ((4 * j + 3) % 4) = 0 := by omega
    rw [e0]
    simp only [octsTo, d0, d1, d2, d3, m0, m1, m2, m3, ih, shr32_zero]
    rw [stateBTo, List.take_of_length_le (by rw [oct4_length]; omega), oct4, putAt_four _ _ _ _ _ _ (by omega)]
theorem rotB_eq (x : UInt32) (i : Nat) (hi : i < 16) : rotB x (5 + (i : Int)) = rotl x (5 + (i : Int)) := by
  have h : ∀ i : Fin 16, ((w64 (5 + (i.val : Int)) &&& 31).toNat : Int).toNat = (5 + (i.val : Int)).toNat ∧ ((32 - (w64 (5 + (i.val : Int)) &&& 31)).toNat : Int).toNat = (32 - (5 + (i.val : Int))).toNat := by decide +kernel
  have := h ⟨i, hi⟩
  rw [rotB, rotl, this.1, this.2]
theorem rotB_eq11 (x : UInt32) : rotB x 11 = rotl x 11 := rotB_eq x 6 (by decide)
theorem golden_eq (q : Nat) (hq : q < 200) : w32 ((2654435769 * w64 (q : Int)).toNat : Int) = 2654435769 * w32 (q : Int) := by
  have h : ∀ q : Fin 200, w32 ((2654435769 * w64 (q.val : Int)).toNat : Int) = 2654435769 * w32 (q.val : Int) := by decide +kernel
  exact h ⟨q, hq⟩
theorem step_eq (r i : Nat) (W : List UInt32) (hr : r < 8) (hi : i < 16) : stepB r i W = stepW r i W := by
  have hg := golden_eq (16 * r + i + 1) (by omega)
  have e : ((16 * r + i + 1 : Nat) : Int) = 16 * (r : Int) + (i : Int) + 1 := by omega
  rw [e] at hg
  simp only [stepB, stepW, turnB, rotB_eq _ _ hi, rotB_eq11, hg]
theorem round_eq (r : Nat) (W : List UInt32) (hr : r < 8) : ∀ i, i ≤ 16 → roundBTo r W i = roundTo r W i := by
  intro i
  induction i with
  | zero => intro _; rfl
  | succ i ih => intro h; rw [roundBTo, roundTo, ih (by omega), step_eq r i _ hr (by omega)]
theorem stirTo_eq (W : List UInt32) : ∀ r, r ≤ 8 → stirBTo W r = stirTo W r := by
  intro r
  induction r with
  | zero => intro _; rfl
  | succ r ih => intro h; rw [stirBTo, stirTo, ih (by omega), round_eq r _ (by omega) 16 (Nat.le_refl _)]
theorem stir_eq (s : List UInt8) : stirB s = stir s := by
  rw [stirB, stir, stirTo_eq _ 8 (Nat.le_refl _), ← octs_eq _ 16 (Nat.le_refl _), ← words_eq s 16 (Nat.le_refl _)]
theorem xorTo_congr (st l m : List UInt8) : ∀ k, (∀ j, j < k → l.getD j 0 = m.getD j 0) → xorTo st l k = xorTo st m k := by
  intro k
  induction k with
  | zero => intro _; rfl
  | succ k ih =>
    intro h
    rw [xorTo, xorTo, ih (fun j hj => h j (by omega)), h k (by omega)]
theorem absorbR_app (st m x : List UInt8) : ∀ k, 32 * k ≤ m.length → absorbR st (m ++ x) k = absorb st m k := by
  intro k
  induction k with
  | zero => intro _; rfl
  | succ k ih =>
    intro h
    rw [absorbR, absorb, blockB, stir_eq, ih (by omega)]
    refine congrArg stir (xorTo_congr _ _ _ _ fun j hj => ?_)
    rw [dropTake_getD _ _ _ _ hj, List.getD_eq_getElem?_getD, List.getElem?_drop, List.getElem?_append_left (by omega), ← List.getD_eq_getElem?_getD]
theorem long_eq (n : Nat) : oct8 (w64 (n : Int)) = longTo n 8 := by
  have hw : (w64 (n : Int)).toNat = n % 18446744073709551616 := by rw [w64, UInt64.toNat_ofNat']; omega
  have b8_eq : ∀ (a b : Int), a % 256 = b % 256 → b8 a = b8 b := fun a b h => by rw [b8, b8, h]
  have hs : ∀ (p : UInt32) (k : Nat), k ≤ 32 → (shr32 p k).toNat = p.toNat / 2 ^ k := fun p k hk => by
    rw [shr32, UInt32.toNat_ofNat', Nat.min_eq_left hk]
    have := p.toNat_lt
    exact Nat.mod_eq_of_lt (Nat.lt_of_le_of_lt (Nat.div_le_self _ _) this)
  have h32 : ∀ q : Nat, (w32 (q : Int)).toNat = q % 4294967296 := fun q => by rw [w32, UInt32.toNat_ofNat']; omega
  have hh : (shr64 (w64 (n : Int)) 32).toNat = n % 18446744073709551616 / 4294967296 := by rw [shr64_toNat _ _ (by decide), hw]
  simp only [oct8, oct4, hh, hw, longTo, List.getD_cons_zero, List.getD_cons_succ]
  simp only [List.replicate, List.set_cons_zero, List.set_cons_succ]
  simp only [hs _ _ (by decide : 24 ≤ 32), hs _ _ (by decide : 16 ≤ 32), hs _ _ (by decide : 8 ≤ 32), h32]
  congr 1
  · apply b8_eq
    show _ = (n : Int) / 72057594037927936 % 256
    simp only [show (2 : Nat) ^ 24 = 16777216 from rfl]
    omega
  congr 1
  · apply b8_eq
    show _ = (n : Int) / 281474976710656 % 256
    simp only [show (2 : Nat) ^ 16 = 65536 from rfl]
    omega
  congr 1
  · apply b8_eq
    show _ = (n : Int) / 1099511627776 % 256
    simp only [show (2 : Nat) ^ 8 = 256 from rfl]
    omega
  congr 1
  · apply b8_eq
    show _ = (n : Int) / 4294967296 % 256
    omega
  congr 1
  · apply b8_eq
    show _ = (n : Int) / 16777216 % 256
    simp only [show (2 : Nat) ^ 24 = 16777216 from rfl]
    omega
  congr 1
  · apply b8_eq
    show _ = (n : Int) / 65536 % 256
    simp only [show (2 : Nat) ^ 16 = 65536 from rfl]
    omega
  congr 1
  · apply b8_eq
    show _ = (n : Int) / 256 % 256
    simp only [show (2 : Nat) ^ 8 = 256 from rfl]
    omega
  congr 1
  · apply b8_eq
    show _ = (n : Int) / 1 % 256
    omega
theorem padM_eq (l : List UInt8) : padM l = (l ++ [128]) ++ List.replicate ((32 - (l.length + 1) % 32) % 32) 0 := by
  have hl : (l ++ [128]).length = l.length + 1 := by simp
  unfold padM
  rw [hl]
  split
  · rename_i h
    have : (32 - (l.length + 1) % 32) % 32 = 32 - (l.length + 1) % 32 := by omega
    rw [this]
  · rename_i h
    have : (32 - (l.length + 1) % 32) % 32 = 0 := by omega
    rw [this]; simp
theorem lastB_eq (n : Nat) : lastB n = List.replicate 24 0 ++ longTo n 8 := by
  rw [lastB, long_eq n, putAt, List.take_of_length_le (l := longTo n 8) (by rw [longTo_length]; decide), longTo_length, List.take_replicate, List.drop_replicate]
  exact List.append_nil _
theorem hash_eq (d : Int) (l : List UInt8) : hashB d l = hashR d l := by
  have hp : (padM l).length = 32 * ((padM l).length / 32) := by
    rw [padM_eq]; simp; omega
  have ht : textRn l l.length = padM l ++ lastB l.length := by
    rw [textRn, padM_eq, lastB_eq _]; simp
  have hb : (textRn l l.length).length / 32 = (padM l).length / 32 + 1 := by
    rw [ht, List.length_append, lastB_length]; omega
  rw [hashB, hashR, endF, stateR, hb, absorbR, blockB, stir_eq, ht, absorbR_app _ _ _ _ (by omega)]
  refine congrArg (List.take 32) (congrArg stir (xorTo_congr _ _ _ _ fun j hj => ?_))
  rw [List.getD_eq_getElem?_getD, List.getD_eq_getElem?_getD, List.getElem?_drop, List.getElem?_append_right (by omega), show 32 * ((padM l).length / 32) + j - (padM l).length = j by omega]
theorem hash_fn : hashB = hashR := funext fun d => funext fun l => hash_eq d l
end Go.Proofs.YtippcmedgfmgbaaGreat
end
section
open Go Go.Eng
namespace Go.Proofs.YtippcmedgfmgbaaGreat
theorem pairs_pre (b : List UInt8) {j : Nat} : ∀ m, j ≤ m → ∃ X, pairsTo b m = pairsTo b j ++ X
  | 0, h => ⟨[], by obtain rfl : j = 0 := by omega
                    simp⟩
  | m + 1, h => by
    rcases Nat.lt_or_ge m j with h1 | h1
    · obtain rfl : j = m + 1 := by omega
      exact ⟨[], by simp⟩
    · obtain ⟨X, hX⟩ := pairs_pre b m h1
      rw [pairsTo]
      split
      · exact ⟨X ++ [fI (pairV b m : Nat)], by rw [hX, List.append_assoc]⟩
      · exact ⟨X, hX⟩
theorem nums_t {B : Nat → List UInt8} {k j many n : Nat} (hn : n = ((numsTo B k ++ pairsTo (B k) j).take many).length) (h : n < many) (hv : pairV (B k) j < 65535) :
    (numsTo B k ++ pairsTo (B k) (j + 1)).take many = (numsTo B k ++ pairsTo (B k) j).take many ++ [fI (pairV (B k) j : Nat)] := by
  rw [pairsTo, if_pos hv, ← List.append_assoc, take_grow hn.symm h]
theorem nums_f {B : Nat → List UInt8} {k j many : Nat} (hv : ¬ pairV (B k) j < 65535) : (numsTo B k ++ pairsTo (B k) (j + 1)).take many = (numsTo B k ++ pairsTo (B k) j).take many := by
  rw [pairsTo, if_neg hv]
theorem nums_cut {B : Nat → List UInt8} {k j many n : Nat} (hn : n = ((numsTo B k ++ pairsTo (B k) j).take many).length) (h : many ≤ n) (hj : j ≤ 32) : (numsTo B (k + 1)).take many = (numsTo B k ++ pairsTo (B k) j).take many := by
  obtain ⟨X, hX⟩ := pairs_pre (B k) 32 hj
  rw [numsTo, hX, ← List.append_assoc, take_full hn.symm h]
theorem nums_lt {B : Nat → List UInt8} (hB : ∀ k, (B k).length = 64) (hi : ∀ i j, i < 256 → j < 256 → B i = B j → i = j) {k many n : Nat} (hm : many ≤ 200) (hk : k ≤ many + 1) (hn : n = ((numsTo B k).take many).length) (h : n < many) : k ≤ many := by
  have := nums_grow hB hi (k := k) (by omega)
  rw [List.length_take] at hn
  omega
theorem u8_rng (x : UInt8) : -9223372036854775808 ≤ ((x.toNat : Nat) : Int) ∧ ((x.toNat : Nat) : Int) ≤ 9223372036854775807 := by have := x.toNat_lt; omega
end Go.Proofs.YtippcmedgfmgbaaGreat
namespace Go.Eng
theorem r_addN {P : Program} {w : World} {e : Env} {d : Option Nat} {ty : TypeId} {pos : String} {aft : Array Edge} {g : Option (Nat × Bool)} {t t' : TypeId} {x y : Operand} {a b : Int} {m : Nat} (hx : ev e x = i64 a) (hy : ev e y = i64 b) (h : a + b = (m : Int)) (hm : m ≤ 4611686018427387904) :
    (execOp (ev e) ⟨d, .binOp .add t x y t', ty, pos, aft, g⟩).run P w = .ok (.value (i64 (m : Int))) w := by
  rw [r_addi hx hy (by omega), h]
end Go.Eng
namespace Go.Eng
open Go.Proofs.YtippcmedgfmgbaaGreat
variable {w w' : World}
theorem own_lt2 {B : Nat} {E : TypeId} {sz n : Nat} {v : Value} {cs : List Value} (h : Owns w B E sz v n cs) {b : Nat} (hb : some b = v.ownBlock) : b < w.heap.size := by
  rcases h.2 with ⟨rfl, _⟩ | ⟨g', cap, cur, rfl, _, hg, _⟩
  · cases hb
  · have : b = g' := Option.some.inj hb
    subst this
    exact (Array.getElem?_eq_some_iff.1 hg).1
/-- a slice of one's own beside octets that are read -/
structure OS (w : World) (B : Nat) (v : Value) (n : Nat) (X : List F) (a : Option Addr) (l : List UInt8) : Prop where
  o1 : Owns w B 3 1 v n (fs X)
  s : SlAt w a (bs l)
  hi : ∀ x, a = some x → x.block < w.heap.size
  d : ∀ b, some b = v.ownBlock → ∀ x, a = some x → x.block ≠ b
theorem OS.kept {M : Nat → Nat → Prop} {B n : Nat} {v : Value} {X : List F} {a : Option Addr} {l : List UInt8} (h : OS w B v n X a l) (k : Chg M w w') (h1 : ∀ b o, some b = v.ownBlock → ¬ M b o) (h2 : ∀ b o, b < w.heap.size → (∀ x, a = some x → x.block = b → ¬ M b o)) : OS w' B v n X a l :=
  ⟨Owns.kept h.o1 k fun b o _ hb => h1 b o hb, h.s.kept k fun b o ha _ _ => h2 b _ (h.hi _ ha) _ ha rfl, fun x hx => Nat.lt_of_lt_of_le (h.hi x hx) k.size, h.d⟩
theorem OS.k {B n : Nat} {v : Value} {X : List F} {a : Option Addr} {l : List UInt8} (h : OS w B v n X a l) (k : Kept w w') : OS w' B v n X a l := h.kept k (fun _ _ _ => id) (fun _ _ _ _ _ _ => id)
theorem OS.add {B n m : Nat} {v v' : Value} {X Z : List F} {a : Option Addr} {l : List UInt8} (h : OS w B v n X a l) (ho : Owns w' B 3 1 v' (n + m) (fs X ++ fs Z)) (hv : v'.ownBlock = v.ownBlock ∨ v'.ownBlock = some w.heap.size) (k : Chg (ob v) w w') : OS w' B v' (n + m) (X ++ Z) a l :=
  ⟨Owns.appF ho, h.s.kept k fun b _ ha _ _ m => h.d b m _ ha rfl, fun x hx => Nat.lt_of_lt_of_le (h.hi x hx) k.size, fun b hb x hx e => by
    rcases hv with hv | hv
    · exact h.d b (by rw [← hv]; exact hb) x hx e
    · rw [hv] at hb
      have := h.hi x hx
      have := Option.some.inj hb
      omega⟩
theorem OS.start {B n : Nat} {v : Value} {X : List F} {a : Option Addr} {l : List UInt8} {H : Nat} (h : Owns w B 3 1 v n (fs X)) (hs : SlAt w a (bs l)) (hl : l ≠ []) (hH : ∀ b, some b = v.ownBlock → b < H) (hlo : ∀ x, a = some x → H ≤ x.block) : OS w B v n X a l :=
  ⟨h, hs, fun x hx => hs.blk (fun e => hl (by have := congrArg List.length e; rw [bs_length, List.length_nil] at this; exact List.eq_nil_of_length_eq_zero this)) x hx, fun b hb x hx e => by
    have := hH b hb
    have := hlo x hx
    omega⟩
end Go.Eng
end
section
open Go Go.Eng
namespace Go.Eng
theorem r_quoN {P : Program} {w : World} {e : Env} {d : Option Nat} {ty : TypeId} {pos : String} {aft : Array Edge} {g : Option (Nat × Bool)} {t t' : TypeId} {x y : Operand} {a b : Int} {m : Nat} (hx : ev e x = i64 a) (hy : ev e y = i64 b) (h0 : 0 ≤ a ∧ 1 ≤ b ∧ a ≤ 9223372036854775807 := by omega) (h : a / b = (m : Int)) :
    (execOp (ev e) ⟨d, .binOp .quo t x y t', ty, pos, aft, g⟩).run P w = .ok (.value (i64 (m : Int))) w := by
  rw [r_quoi hx hy h0.1 h0.2.1 h0.2.2, h]
end Go.Eng
namespace Go.Eng
variable {P : Program} {w : World} {e : Env} {d : Option Nat} {ty : TypeId} {pos : String} {aft : Array Edge} {g : Option (Nat × Bool)} {t t' : TypeId} {x y : Operand} {a b : Int} {m : Nat}
theorem r_remN (hx : ev e x = i64 a) (hy : ev e y = i64 b) (h0 : 0 ≤ a ∧ 1 ≤ b) (h : a % b = (m : Int)) : (execOp (ev e) ⟨d, .binOp .rem t x y t', ty, pos, aft, g⟩).run P w = .ok (.value (i64 (m : Int))) w := by
  rw [r_remi hx hy h0.1 h0.2, h]
theorem r_subN (hx : ev e x = i64 a) (hy : ev e y = i64 b) (h : a - b = (m : Int)) (hm : m ≤ 4611686018427387904) : (execOp (ev e) ⟨d, .binOp .sub t x y t', ty, pos, aft, g⟩).run P w = .ok (.value (i64 (m : Int))) w := by
  rw [r_subi hx hy (by omega), h]
theorem r_minN {t2 : TypeId} (hx : ev e x = i64 a) (hy : ev e y = i64 b) (h : min a b = (m : Int)) :
    (execOp (ev e) ⟨d, .call ⟨.builtin .min, #[x, y], #[t, t2]⟩, ty, pos, aft, g⟩).run P w = .ok (.value (i64 (m : Int))) w := by
  rw [r_min hx hy, h]
end Go.Eng
end
section
open Go Go.Eng
namespace Go.Proofs.YtippcmedgfmgbaaGreat
def numTo (l : List UInt8) : Nat → Nat
  | 0 => 0
  | k + 1 => numTo l k * 256 + (l.getD k 0).toNat
theorem numTo_le (l : List UInt8) : ∀ k, k ≤ 2 → numTo l k ≤ 65535 ∧ (k ≤ 1 → numTo l k ≤ 255)
  | 0, _ => ⟨by simp [numTo], fun _ => by simp [numTo]⟩
  | 1, _ => by
    have := (l.getD 0 0).toNat_lt
    simp only [numTo]
    omega
  | 2, _ => by
    have := (l.getD 0 0).toNat_lt
    have := (l.getD 1 0).toNat_lt
    simp only [numTo]
    omega
  | k + 3, h => by omega
theorem numTo_pair (b : List UInt8) (j : Nat) : numTo ((b.drop (2 * j)).take (2 * j + 2 - 2 * j)) (2 * j + 2 - 2 * j) = pairV b j := by
  rw [show 2 * j + 2 - 2 * j = 2 by omega]
  simp only [numTo, pairV, dt_get b (2 * j) 2 0 (by decide), dt_get b (2 * j) 2 1 (by decide), Nat.add_zero]
  omega
end Go.Proofs.YtippcmedgfmgbaaGreat
namespace Go.Eng
variable {P : Program} {w : World} {e : Env} {d : Option Nat} {ty : TypeId} {pos : String} {aft : Array Edge} {g : Option (Nat × Bool)} {t t' : TypeId} {x y : Operand} {a b : Int} {m : Nat}
theorem r_shl8N (hx : ev e x = i64 a) (hy : ev e y = .int .u64 8) (h : a * 256 = (m : Int)) (hm : m ≤ 4611686018427387904) : (execOp (ev e) ⟨d, .binOp .shl t x y t', ty, pos, aft, g⟩).run P w = .ok (.value (i64 (m : Int))) w := by
  rw [r_shl hx hy (by decide)]
  have e1 : a * 2 ^ (min (8 : Int).toNat IntKind.i64.bits) = (m : Int) := by
    rw [show (2 : Int) ^ (min (8 : Int).toNat IntKind.i64.bits) = 256 by decide, h]
  rw [e1, wrap_i64_of _ (by omega)]
end Go.Eng
end
section
open Go Go.Eng
namespace Go.Eng
open Go.Proofs.YtippcmedgfmgbaaGreat
theorem r_conv_u8F {P : Program} {w : World} {e : Env} {d : Option Nat} {ty : TypeId} {pos : String} {aft : Array Edge} {g : Option (Nat × Bool)} {x : Operand} {src dst : TypeId} {sd : TypeDesc} {c : UInt8} (hs : ∀ w, (underlying src).run P w = .ok sd w) (hd : ∀ w, (underlying dst).run P w = .ok (.int .i64) w) (hx : ev e x = u8 c) :
    (execOp (ev e) ⟨d, .convert src dst x, ty, pos, aft, g⟩).run P w = .ok (.value (fi (fI ((c.toNat : Nat) : Int)))) w := by
  rw [r_conv_i64 hs hd hx (u8_rng _)]
  have h := fI_small (n := c.toNat) (by have := c.toNat_lt; omega)
  rw [show fi (fI ((c.toNat : Nat) : Int)) = i64 ((c.toNat : Nat) : Int) by show i64 (((fI ((c.toNat : Nat) : Int)).val : Nat) : Int) = _; rw [h]]
end Go.Eng
namespace Go.Eng
open Go.Proofs.YtippcmedgfmgbaaGreat
theorem polFlat {Q : Nat → Prop} {w : World} {vs : List Value} {ps : List (List F)} (h : PolOk Q w vs ps) : Flat vs := fun v hv => by
  obtain ⟨k, hk, rfl⟩ := List.getElem_of_mem hv
  obtain ⟨a, n, c, h1, _⟩ := h.2 k (by rw [h.1]; exact hk)
  rw [List.getElem?_eq_getElem hk] at h1
  rw [Option.some.inj h1]
  rfl
end Go.Eng
end
section
open Go Go.Eng Go.Proofs
namespace Go.Proofs.YtippcmedgfmgbaaGreat
theorem out_one {k n O : List UInt8} {q s : Nat} (hO : O = []) (hs : s = 0) : O ++ ((blkB k n (q + s)).drop 0).take (64 - 0) = blkB k n q := by
  subst hO
  subst hs
  rw [List.drop_zero, List.nil_append, Nat.add_zero, Nat.sub_zero]
  exact List.take_of_length_le (by rw [blkB_length]; exact Nat.le_refl _)
set_option maxHeartbeats 2000000 in
theorem streamBlock_spec (k n : List UInt8) (q : Nat) (w : World) (hk : k.length = 32) (hn : n.length = 16) :
  Rtn Tryz.prog 105 [.agg (bs k).toArray, .agg (bs n).toArray, u64 (w64 (q : Int))].toArray w (fun v w' => v = .agg (bs (blkB k n q)).toArray ∧ Kept w w') := by
 have e1_ : (putAt (List.replicate 64 (0 : UInt8)) 0 (k.take (64 - 0))).length = 64 := by rw [putAt_length _ _ _ (by simp; omega)]; simp
 have e2_ : (putAt (putAt (List.replicate 64 (0 : UInt8)) 0 (k.take (64 - 0))) 32 (n.take (64 - 32))).length = 64 := by rw [putAt_length _ _ _ (by rw [e1_]; simp; omega), e1_]
 have e3_ : (putAt (putAt (putAt (List.replicate 64 (0 : UInt8)) 0 (k.take (64 - 0))) 32 (n.take (64 - 32))) 56 ((oct8 (w64 (q : Int))).take (64 - 56))).length = 64 := seedB_length hk hn q
 refine fn_body (l := [.agg (bs k).toArray, .agg (bs n).toArray, u64 (w64 (q : Int))]) 22 [.cell 6 86] Tryz.func105 rfl Tryz.ntmps105 (Nat.le_of_ble_eq_true rfl) (by rw [Tryz.results105]) ?_
 refine go_seq ?_
 refine go_region 3 rfl rfl ?_
 refine s_do rfl rfl (w_boxA rfl) rfl ?_
 rintro _ w1 ⟨b2, rfl, hl_b2, hu_b2, p3, c_w1⟩
 have hs_w1 : w.heap.size ≤ w1.heap.size := Chg.size c_w1
 have C_w1 := Chg.pure (Chg.refl no w) c_w1
 have hn_b2 : w.heap.size ≤ b2 := by have := Chg.size C_w1; omega
 refine s_do rfl rfl (w_boxA rfl) rfl ?_
 rintro _ w4 ⟨b5, rfl, hl_b5, hu_b5, p6, c_w4⟩
 have hs_w4 : w1.heap.size ≤ w4.heap.size := Chg.size c_w4
 replace p3 := p3.k c_w4
 have C_w4 := Chg.pure C_w1 c_w4
 have hn_b5 : w.heap.size ≤ b5 := by have := Chg.size C_w4; omega
 refine s_do rfl rfl (w_alloc (bs (List.replicate 64 0)) Tryz.zeroValue86 (by kernel_rfl)) rfl ?_
 rintro _ w7 ⟨b8, rfl, hl_b8, hu_b8, p9, c_w7⟩
 have hs_w7 : w4.heap.size ≤ w7.heap.size := Chg.size c_w7
 replace p3 := p3.k c_w7
 replace p6 := p6.k c_w7
 have C_w7 := Chg.pure C_w4 c_w7
 have hn_b8 : w.heap.size ≤ b8 := by have := Chg.size C_w7; omega
 refine s_end ?_
 refine go_seq ?_
 refine go_region 1 rfl rfl ?_
 refine s_do rfl rfl (w_alloc (bs (List.replicate 64 0)) Tryz.zeroValue86 (by kernel_rfl)) rfl ?_
 rintro _ w10 ⟨b11, rfl, hl_b11, hu_b11, p12, c_w10⟩
 have hs_w10 : w7.heap.size ≤ w10.heap.size := Chg.size c_w10
 replace p3 := p3.k c_w10
 replace p6 := p6.k c_w10
 replace p9 := p9.k c_w10
 have C_w10 := Chg.pure C_w7 c_w10
 have hn_b11 : w.heap.size ≤ b11 := by have := Chg.size C_w10; omega
 refine s_end ?_
 refine go_seq ?_
 refine go_drawsE 2 (.take 0 (.take 1 (.eff 2 .done))) (by kernel_rfl) (by kernel_rfl) fun w13 c_w13 => ?_
 have hs_w13 : w10.heap.size ≤ w13.heap.size := Chg.size c_w13
 replace p3 := p3.k c_w13
 replace p6 := p6.k c_w13
 replace p9 := p9.k c_w13
 replace p12 := p12.k c_w13
 have C_w13 := Chg.pure C_w10 c_w13
 refine s_takeE rfl rfl (r_sliceA (l := 0) (h := 64) (m := 64) Tryz.runUnderlying86 Tryz.sizeOf5 rfl rfl rfl rfl (by first | decide | (intro h_; cases h_)) (by first | decide | omega) (by first | decide | omega | (intro _; omega)) (by first | decide | omega) (by first | decide | omega)) ?_
 refine s_takeE rfl rfl (r_sliceA (l := 0) (h := 32) (m := 32) Tryz.runUnderlying23 Tryz.sizeOf5 rfl rfl rfl rfl (by first | decide | (intro h_; cases h_)) (by first | decide | omega) (by first | decide | omega | (intro _; omega)) (by first | decide | omega) (by first | decide | omega)) ?_
 refine s_do rfl rfl (w_copy_b (o := 0) (lo := 0) Tryz.underlying55 (by kernel_rfl) rfl rfl p12 (by first | omega | (simp; try omega)) (SlAt.some p3.rd) (by first | rfl | omega | (simp; done) | (simp; omega))) rfl ?_
 rintro _ w14 ⟨rfl, q_w14, c_w14⟩
 have hs_w14 : w13.heap.size ≤ w14.heap.size := Chg.size c_w14
 replace p3 := p3.kb c_w14 (by omega)
 replace p6 := p6.kb c_w14 (by omega)
 replace p9 := p9.kb c_w14 (by omega)
 have C_w14 := Chg.newRng C_w13 c_w14 (by omega)
 have p12 := q_w14
 refine s_end ?_
 refine go_seq ?_
 refine go_drawsE 2 (.take 0 (.take 1 (.eff 2 .done))) (by kernel_rfl) (by kernel_rfl) fun w15 c_w15 => ?_
 have hs_w15 : w14.heap.size ≤ w15.heap.size := Chg.size c_w15
 replace p3 := p3.k c_w15
 replace p6 := p6.k c_w15
 replace p9 := p9.k c_w15
 replace p12 := p12.k c_w15
 have C_w15 := Chg.pure C_w14 c_w15
 refine s_takeE rfl rfl (r_sliceA (l := 32) (h := 64) (m := 64) Tryz.runUnderlying86 Tryz.sizeOf5 rfl ⟨_, _, rfl, by first | rfl | omega⟩ rfl rfl (by first | decide | (intro h_; cases h_)) (by first | decide | omega) (by first | decide | omega | (intro _; omega)) (by first | decide | omega) (by first | decide | omega)) ?_
 refine s_takeE rfl rfl (r_sliceA (l := 0) (h := 16) (m := 16) Tryz.runUnderlying89 Tryz.sizeOf5 rfl rfl rfl rfl (by first | decide | (intro h_; cases h_)) (by first | decide | omega) (by first | decide | omega | (intro _; omega)) (by first | decide | omega) (by first | decide | omega)) ?_
 refine s_do rfl rfl (w_copy_b (o := 0) (lo := 32) Tryz.underlying55 (by kernel_rfl) rfl rfl p12 (by first | omega | (simp; try omega)) (SlAt.some p6.rd) (by first | rfl | omega | (simp; done) | (simp; omega))) rfl ?_
 rintro _ w16 ⟨rfl, q_w16, c_w16⟩
 have hs_w16 : w15.heap.size ≤ w16.heap.size := Chg.size c_w16
 replace p3 := p3.kb c_w16 (by omega)
 replace p6 := p6.kb c_w16 (by omega)
 replace p9 := p9.kb c_w16 (by omega)
 have C_w16 := Chg.newRng C_w15 c_w16 (by omega)
 have p12 := q_w16
 refine s_end ?_
 refine go_seq ?_
 refine go_region 4 rfl rfl ?_
 refine s_val rfl rfl (r_move) rfl ?_
 refine s_do rfl rfl (w_call Tryz.call63 rfl (oct8_spec _ _)) rfl ?_
 rintro _ w17 ⟨rfl, c_w17⟩
 have hs_w17 : w16.heap.size ≤ w17.heap.size := Chg.size c_w17
 replace p3 := p3.k c_w17
 replace p6 := p6.k c_w17
 replace p9 := p9.k c_w17
 replace p12 := p12.k c_w17
 have C_w17 := Chg.pure C_w16 c_w17
 refine s_do rfl rfl (w_alloc (bs (List.replicate 8 0)) Tryz.zeroValue109 (by kernel_rfl)) rfl ?_
 rintro _ w18 ⟨b19, rfl, hl_b19, hu_b19, p20, c_w18⟩
 have hs_w18 : w17.heap.size ≤ w18.heap.size := Chg.size c_w18
 replace p3 := p3.k c_w18
 replace p6 := p6.k c_w18
 replace p9 := p9.k c_w18
 replace p12 := p12.k c_w18
 have C_w18 := Chg.pure C_w17 c_w18
 have hn_b19 : w.heap.size ≤ b19 := by have := Chg.size C_w18; omega
 refine s_do rfl rfl (w_storeA (o := 0) Tryz.sizeOf109 rfl rfl (bs_len (by first | omega | (simp; try omega))) (flat_bs _) p20 (bs_len (by first | omega | (simp; try omega)))) rfl ?_
 rintro _ w21 ⟨q_w21, c_w21⟩
 have hs_w21 : w18.heap.size ≤ w21.heap.size := Chg.size c_w21
 replace p3 := p3.kb c_w21 (by omega)
 replace p6 := p6.kb c_w21 (by omega)
 replace p9 := p9.kb c_w21 (by omega)
 replace p12 := p12.kb c_w21 (by omega)
 have C_w21 := Chg.newRng C_w18 c_w21 (by omega)
 have p20 := q_w21
 refine s_end ?_
 refine go_seq ?_
 refine go_drawsE 2 (.take 0 (.take 1 (.eff 2 .done))) (by kernel_rfl) (by kernel_rfl) fun w22 c_w22 => ?_
 have hs_w22 : w21.heap.size ≤ w22.heap.size := Chg.size c_w22
 replace p3 := p3.k c_w22
 replace p6 := p6.k c_w22
 replace p9 := p9.k c_w22
 replace p12 := p12.k c_w22
 replace p20 := p20.k c_w22
 have C_w22 := Chg.pure C_w21 c_w22
 refine s_takeE rfl rfl (r_sliceA (l := 56) (h := 64) (m := 64) Tryz.runUnderlying86 Tryz.sizeOf5 rfl ⟨_, _, rfl, by first | rfl | omega⟩ rfl rfl (by first | decide | (intro h_; cases h_)) (by first | decide | omega) (by first | decide | omega | (intro _; omega)) (by first | decide | omega) (by first | decide | omega)) ?_
 refine s_takeE rfl rfl (r_sliceA (l := 0) (h := 8) (m := 8) Tryz.runUnderlying109 Tryz.sizeOf5 rfl rfl rfl rfl (by first | decide | (intro h_; cases h_)) (by first | decide | omega) (by first | decide | omega | (intro _; omega)) (by first | decide | omega) (by first | decide | omega)) ?_
 refine s_do rfl rfl (w_copy_b (o := 0) (lo := 56) Tryz.underlying55 (by kernel_rfl) rfl rfl p12 (by first | omega | (simp; try omega)) (SlAt.some p20.rd) (by first | rfl | omega | (simp; done) | (simp; omega))) rfl ?_
 rintro _ w23 ⟨rfl, q_w23, c_w23⟩
 have hs_w23 : w22.heap.size ≤ w23.heap.size := Chg.size c_w23
 replace p3 := p3.kb c_w23 (by omega)
 replace p6 := p6.kb c_w23 (by omega)
 replace p9 := p9.kb c_w23 (by omega)
 replace p20 := p20.kb c_w23 (by omega)
 have C_w23 := Chg.newRng C_w22 c_w23 (by omega)
 have p12 := q_w23
 refine s_end ?_
 refine go_seq ?_
 refine go_region 3 rfl rfl ?_
 refine s_val rfl rfl (r_loadN Tryz.isAgg86 Tryz.sizeOf86 rfl p12.rd (bs_len (by first | omega | (simp; try omega)))) rfl ?_
 refine s_do rfl rfl (w_call Tryz.call114 rfl (stirB_spec _ _ (by first | omega | (simp; try omega)))) rfl ?_
 rintro _ w24 ⟨rfl, c_w24⟩
 have hs_w24 : w23.heap.size ≤ w24.heap.size := Chg.size c_w24
 replace p3 := p3.k c_w24
 replace p6 := p6.k c_w24
 replace p9 := p9.k c_w24
 replace p20 := p20.k c_w24
 replace p12 := p12.k c_w24
 have C_w24 := Chg.pure C_w23 c_w24
 refine s_do rfl rfl (w_storeA (o := 0) Tryz.sizeOf86 rfl rfl (bs_len (by first | omega | (simp; try omega))) (flat_bs _) p9 (bs_len (by first | omega | (simp; try omega)))) rfl ?_
 rintro _ w25 ⟨q_w25, c_w25⟩
 have hs_w25 : w24.heap.size ≤ w25.heap.size := Chg.size c_w25
 replace p3 := p3.kb c_w25 (by omega)
 replace p6 := p6.kb c_w25 (by omega)
 replace p20 := p20.kb c_w25 (by omega)
 replace p12 := p12.kb c_w25 (by omega)
 have C_w25 := Chg.newRng C_w24 c_w25 (by omega)
 have p9 := q_w25
 refine s_end ?_
 refine go_ret ?_
 refine ⟨_, .cons ⟨_, rfl, run_load_agg Tryz.isAgg86 Tryz.sizeOf86 (bs_len (by first | omega | (simp; try omega))) p9.rd⟩ (.nil), ?_⟩
 exact ⟨rfl, C_w25⟩
set_option maxHeartbeats 4000000 in
set_option maxRecDepth 100000 in
theorem stream_spec (k n : List UInt8) (at_ q : Nat) (w : World) (hk : k.length = 32) (hn : n.length = 16) (hat : at_ = 64 * q) (hq : q ≤ 1000) :
  Rtn Tryz.prog 83 [.agg (bs k).toArray, .agg (bs n).toArray, i64 (at_ : Nat), i64 64].toArray w (fun v w' => ∃ a c, v = tup [.slice a 64 c, i64 0] ∧ 64 ≤ c ∧ Owns w' w.heap.size 5 1 (.slice a 64 c) 64 (bs (blkB k n q)) ∧ Kept w w') := by
 refine fn_body (l := [.agg (bs k).toArray, .agg (bs n).toArray, i64 (at_ : Nat), i64 64]) 61 [.tmp 8, .tmp 9] Tryz.func83 rfl Tryz.ntmps83 (Nat.le_of_ble_eq_true rfl) (by rw [Tryz.results83]) ?_
 refine go_seq ?_
 refine go_region 4 rfl rfl ?_
 refine s_do rfl rfl (w_boxA rfl) rfl ?_
 rintro _ w1 ⟨b2, rfl, hl_b2, hu_b2, p3, c_w1⟩
 have hs_w1 : w.heap.size ≤ w1.heap.size := Chg.size c_w1
 have C_w1 := Chg.pure (Chg.refl no w) c_w1
 have hn_b2 : w.heap.size ≤ b2 := by have := Chg.size C_w1; omega
 refine s_do rfl rfl (w_boxA rfl) rfl ?_
 rintro _ w4 ⟨b5, rfl, hl_b5, hu_b5, p6, c_w4⟩
 have hs_w4 : w1.heap.size ≤ w4.heap.size := Chg.size c_w4
 replace p3 := p3.k c_w4
 have C_w4 := Chg.pure C_w1 c_w4
 have hn_b5 : w.heap.size ≤ b5 := by have := Chg.size C_w4; omega
 refine s_val rfl rfl (r_assign) rfl ?_
 refine s_val rfl rfl (r_assign) rfl ?_
 refine s_end ?_
 refine go_seq ?_
 refine go_seq ?_
 refine go_region 10 rfl rfl ?_
 refine s_val rfl rfl (r_move) rfl ?_
 refine s_val rfl rfl (r_lss rfl rfl) rfl ?_
 refine s_valB rfl rfl (r_move) rfl (fun h7 => ?_) (fun h7 => ?_)
 ·first | replace h7 := dcT h7 | replace h7 := dcF (nt h7) | skip
  exfalso
  omega
 ·first | replace h7 := dcF h7 | replace h7 := dcT (nf h7) | skip
  refine s_val_g rfl rfl (r_move) rfl ?_
  refine s_val_g rfl rfl (r_gtr rfl rfl) rfl ?_
  refine s_val rfl rfl (r_pick false rfl) rfl ?_
  refine s_valB rfl rfl (r_move) rfl (fun h8 => ?_) (fun h8 => ?_)
  ·first | replace h8 := dcT h8 | replace h8 := dcF (nt h8) | skip
   exfalso
   omega
  ·first | replace h8 := dcF h8 | replace h8 := dcT (nf h8) | skip
   refine s_val_g rfl rfl (r_move) rfl ?_
   refine s_val_g rfl rfl (r_lss rfl rfl) rfl ?_
   refine s_val rfl rfl (r_pick false rfl) rfl ?_
   refine s_end ?_
   refine go_ifb _ rfl (fun h9 => ?_) (fun h9 => ?_)
   ·first | replace h9 := dcT h9 | replace h9 := dcF (nt h9) | skip
    exfalso
    omega
   ·first | replace h9 := dcF h9 | replace h9 := dcT (nf h9) | skip
    refine go_skip ?_
    refine go_seq ?_
    refine go_seq ?_
    refine go_region 2 rfl rfl ?_
    refine s_val rfl rfl (r_move) rfl ?_
    refine s_val rfl rfl (r_gtr rfl rfl) rfl ?_
    refine s_end ?_
    refine go_ifb _ rfl (fun h10 => ?_) (fun h10 => ?_)
    ·first | replace h10 := dcT h10 | replace h10 := dcF (nt h10) | skip
     exfalso
     omega
    ·first | replace h10 := dcF h10 | replace h10 := dcT (nf h10) | skip
     refine go_skip ?_
     refine go_seq ?_
     refine go_region 3 rfl rfl ?_
     refine s_val rfl rfl (r_move) rfl ?_
     refine s_do rfl rfl (w_make (n := 0) (c := 64) (E := 5) Tryz.underlying55 (i := Tryz.t5) (by kernel_rfl) rfl rfl rfl rfl rfl (by first | rfl | omega) (by first | rfl | omega) (by omega) (by first | decide | (show _ * 1 ≤ _; omega) | (show _ * 8 ≤ _; omega)) (by omega)) rfl ?_
     rintro _ w11 ⟨b12, rfl, hl_b12, hu_b12, o14, p13, c_w11⟩
     have hs_w11 : w4.heap.size ≤ w11.heap.size := Chg.size c_w11
     replace p3 := p3.k c_w11
     replace p6 := p6.k c_w11
     have C_w11 := Chg.pure C_w4 c_w11
     have hn_b12 : w.heap.size ≤ b12 := by have := Chg.size C_w11; omega
     replace o14 : Owns w11 w4.heap.size 5 1 (.slice (some ⟨b12, 0, none⟩) 0 64) 0 (bs []) := o14
     clear p13
     refine s_val rfl rfl (r_assign) rfl ?_
     refine s_end ?_
     refine go_seq ?_
     refine go_seq ?_
     refine go_region 3 rfl rfl ?_
     refine s_val rfl rfl (r_move) rfl ?_
     refine s_val rfl rfl (r_quoi rfl rfl (by omega) (by omega) (by omega)) rfl ?_
     refine s_val rfl rfl (r_assign) rfl ?_
     refine s_end ?_
     refine go_block ?_
     refine go_loopM (σ := Nat × List UInt8 × Option Addr × Nat × Nat) [(10, 13), (30, 59)] (fun (x_ : Nat × List UInt8 × Option Addr × Nat × Nat) e' w' => match x_ with | (s, O, a1, n1, c1) => e' 11 = i64 ((q + s : Nat) : Int) ∧ e' 10 = Value.slice a1 n1 c1 ∧ s ≤ 1 ∧ n1 = 64 * s ∧ (s = 0 → O = []) ∧ (s = 1 → O = blkB k n q) ∧ w4.heap.size ≤ w'.heap.size ∧ Owns w' w4.heap.size 5 1 (Value.slice a1 n1 c1) n1 (bs O) ∧ n1 ≤ c1 ∧ Pc w' b2 0 (bs k) ∧ b2 < w'.heap.size ∧ Pc w' b5 0 (bs n) ∧ b5 < w'.heap.size ∧ Chg no w w') (fun (x_ : Nat × List UInt8 × Option Addr × Nat × Nat) => match x_ with | (s, O, a1, n1, c1) => 1 - s) (0, [], (some ⟨b12, 0, none⟩), 0, 64) ?_ ?_
     ·exact ⟨congrArg i64 (by omega), rfl, by omega, rfl, fun _ => rfl, fun h_ => by omega, by omega, Owns.mono o14 (by omega), by omega, p3, by omega, p6, by omega, C_w11⟩
     rintro ⟨s, O, a1, n1, c1⟩ f16 w15 ⟨e17, e18, hs1, hn1, hO0, hO1, hB_ho10, ho10, hc1, p3, hu_b2, p6, hu_b5, C_w15⟩
     have ob_20 : ∃ g_, f16 = upd g_ 11 (i64 ((q + s : Nat) : Int)) := ⟨f16, upd_id e17⟩
     obtain ⟨f19, rfl⟩ := ob_20
     have ob_22 : ∃ g_, f19 = upd g_ 10 (Value.slice a1 n1 c1) := ⟨f19, upd_id e18⟩
     obtain ⟨f21, rfl⟩ := ob_22
     clear e17 e18
     have hs_w15 : w.heap.size ≤ w15.heap.size := Chg.size C_w15
     refine go_seq ?_
     refine go_seq ?_
     refine go_region 4 rfl rfl ?_
     refine s_val rfl rfl (r_move) rfl ?_
     refine s_val rfl rfl (r_len Tryz.runUnderlying55 rfl) rfl ?_
     refine s_val rfl rfl (r_move) rfl ?_
     refine s_val rfl rfl (r_lss rfl rfl) rfl ?_
     refine s_end ?_
     refine go_ifb _ rfl (fun h1 => ?_) (fun h1 => ?_)
     ·first | replace h1 := dcT h1 | replace h1 := dcF (nt h1) | skip
      have hbl_ := blkB_length k n (q + s)
      refine go_skip ?_
      refine go_seq ?_
      refine go_block ?_
      refine go_seq ?_
      refine go_region 7 rfl rfl ?_
      refine s_val rfl rfl (r_loadN Tryz.isAgg23 Tryz.sizeOf23 rfl p3.rd (bs_len (by first | omega | (simp; try omega)))) rfl ?_
      refine s_val rfl rfl (r_loadN Tryz.isAgg89 Tryz.sizeOf89 rfl p6.rd (bs_len (by first | omega | (simp; try omega)))) rfl ?_
      refine s_val rfl rfl (r_move) rfl ?_
      refine s_val rfl rfl (r_conv_u64 Tryz.runUnderlying3 Tryz.runUnderlying111 rfl) rfl ?_
      refine s_do rfl rfl (w_call Tryz.call105 rfl (streamBlock_spec k n (q + s) _ hk hn)) rfl ?_
      rintro _ w23 ⟨rfl, c_w23⟩
      have hs_w23 : w15.heap.size ≤ w23.heap.size := Chg.size c_w23
      replace ho10 := ho10.k c_w23
      replace p3 := p3.k c_w23
      replace p6 := p6.k c_w23
      have C_w23 := Chg.pure C_w15 c_w23
      refine s_do rfl rfl (w_alloc (bs (List.replicate 64 0)) Tryz.zeroValue86 (by kernel_rfl)) rfl ?_
      rintro _ w24 ⟨b25, rfl, hl_b25, hu_b25, p26, c_w24⟩
      have ne_b25_ho10 := Owns.ne_ge ho10 hl_b25
      have hs_w24 : w23.heap.size ≤ w24.heap.size := Chg.size c_w24
      replace ho10 := ho10.k c_w24
      replace p3 := p3.k c_w24
      replace p6 := p6.k c_w24
      have C_w24 := Chg.pure C_w23 c_w24
      have hn_b25 : w.heap.size ≤ b25 := by have := Chg.size C_w24; omega
      refine s_do rfl rfl (w_storeA (o := 0) Tryz.sizeOf86 rfl rfl (bs_len (by first | omega | (simp; try omega))) (flat_bs _) p26 (bs_len (by first | omega | (simp; try omega)))) rfl ?_
      rintro _ w27 ⟨q_w27, c_w27⟩
      have hs_w27 : w24.heap.size ≤ w27.heap.size := Chg.size c_w27
      replace ho10 := ho10.kb c_w27 ne_b25_ho10
      replace p3 := p3.kb c_w27 (by omega)
      replace p6 := p6.kb c_w27 (by omega)
      have C_w27 := Chg.newRng C_w24 c_w27 (by omega)
      have p26 := q_w27
      refine s_end ?_
      refine go_seq ?_
      refine go_region 2 rfl rfl ?_
      refine s_val rfl rfl (r_sliceA (l := 0) (h := 64) (m := 64) Tryz.runUnderlying86 Tryz.sizeOf5 rfl rfl rfl rfl (by first | decide | (intro h_; cases h_)) (by first | decide | omega) (by first | decide | omega | (intro _; omega)) (by first | decide | omega) (by first | decide | omega)) rfl ?_
      refine s_val rfl rfl (r_assign) rfl ?_
      refine s_end ?_
      refine go_seq ?_
      refine go_seq ?_
      refine go_region 4 rfl rfl ?_
      refine s_val rfl rfl (r_move) rfl ?_
      refine s_val rfl rfl (r_move) rfl ?_
      refine s_val rfl rfl (r_quoi rfl rfl (by omega) (by omega) (by omega)) rfl ?_
      refine s_val rfl rfl (r_eql rfl rfl) rfl ?_
      refine s_end ?_
      refine go_ifb _ rfl (fun h28 => ?_) (fun h28 => ?_)
      ·first | replace h28 := dcT h28 | replace h28 := dcF (nt h28) | skip
       refine go_region 4 rfl rfl ?_
       refine s_val rfl rfl (r_move) rfl ?_
       refine s_val rfl rfl (r_remi rfl rfl (by omega) (by omega)) rfl ?_
       refine s_val rfl rfl (r_sliceA (l := 0) (h := 64) (m := 64) Tryz.runUnderlying86 Tryz.sizeOf5 rfl ⟨_, _, rfl, by first | rfl | omega⟩ rfl rfl (by first | decide | (intro h_; cases h_)) (by decide) (by intro _; decide) (by decide) (by decide)) rfl ?_
       refine s_val rfl rfl (r_assign) rfl ?_
       refine s_end ?_
       refine go_region 12 rfl rfl ?_
       refine s_val rfl rfl (r_move) rfl ?_
       refine s_val rfl rfl (r_move) rfl ?_
       refine s_val rfl rfl (r_move) rfl ?_
       refine s_val rfl rfl (r_len Tryz.runUnderlying55 rfl) rfl ?_
       refine s_val rfl rfl (r_move) rfl ?_
       refine s_val rfl rfl (r_move) rfl ?_
       refine s_val rfl rfl (r_len Tryz.runUnderlying55 rfl) rfl ?_
       refine s_val rfl rfl (r_subi rfl rfl (by omega)) rfl ?_
       refine s_val rfl rfl (r_min rfl rfl) rfl ?_
       have hcut_ := SlAt.cutB_mid (SlAt.some p26.rd) 0 64 64 (by simp)
       refine s_val rfl rfl (r_sliceSl (l := 0) (h := 64) (m := 64) Tryz.runUnderlying55 Tryz.sizeOf5 rfl rfl ⟨_, _, rfl, by omega⟩ rfl (by first | decide | (intro h_; cases h_)) (by decide) (by first | decide | (intro _; decide)) (by decide)) rfl ?_
       refine s_do rfl rfl (w_append (E := 5) (sz := 1) Tryz.underlying55 rfl (i := Tryz.t5) (by kernel_rfl) rfl rfl rfl rfl (by rfl) ho10 rfl hcut_ (by first | (rw [bs_length]; omega) | (simp [bs_length]; done) | (simp [bs_length]; omega) | rfl) (flat_bs _) (by omega) (by show _ * 1 ≤ _; omega) (by omega)) rfl ?_
       rintro v33 w29 ⟨o30, c_w29⟩
       have hs_w29 : w27.heap.size ≤ w29.heap.size := Chg.size c_w29
       replace p3 := p3.kob c_w29 (Owns.ne_lt ho10 (by omega))
       replace p6 := p6.kob c_w29 (Owns.ne_lt ho10 (by omega))
       replace p26 := p26.kob c_w29 ne_b25_ho10
       have C_w29 := Chg.newOb C_w27 c_w29 ho10 (by omega)
       have hfo_o30 := Owns.form2 o30
       obtain ⟨A31, cap32, e_o30, hc_cap32⟩ := hfo_o30
       subst e_o30
       replace o30 := Owns.appB o30
       refine s_val rfl rfl (r_assign) rfl ?_
       refine s_end ?_
       refine go_nil (block_normal ?_)
       refine go_region 3 rfl rfl ?_
       refine s_val rfl rfl (r_move) rfl ?_
       refine s_val rfl rfl (r_addi rfl rfl (by omega)) rfl ?_
       refine s_val rfl rfl (r_assign) rfl ?_
       refine s_end ?_
       refine go_nil (loop_normal ⟨⟨(s + 1, (O ++ (((blkB k n (q + s)).drop 0).take (64 - 0))), A31, n1 + (64 - 0), cap32), by first | omega | (dsimp only; omega), ⟨congrArg i64 (by omega), rfl, by omega, by omega, fun h_ => by omega, fun _ => out_one (hO0 (by omega)) (by omega), by omega, Owns.mono o30 (by omega), by omega, p3, by omega, p6, by omega, C_w29⟩⟩, (by repeat (first | exact same_refl | exact same_over | refine same_upd rfl ?_ | refine same_over2 rfl ?_))⟩)
      ·first | replace h28 := dcF h28 | replace h28 := dcT (nf h28) | skip
       exfalso
       omega
     ·first | replace h1 := dcF h1 | replace h1 := dcT (nf h1) | skip
      have hs_ : s = 1 := by omega
      have hOe := hO1 hs_
      have hne : n1 = 64 := by omega
      refine go_exit (loop_exit (block_hit ?_))
      refine go_seq ?_
      refine go_region 3 rfl rfl ?_
      refine s_val rfl rfl (r_move) rfl ?_
      refine s_val rfl rfl (r_assign) rfl ?_
      refine s_val rfl rfl (r_assign) rfl ?_
      refine s_end ?_
      refine go_ret ?_
      refine ⟨_, .cons rfl (.cons rfl (.nil)), ?_⟩
      exact ⟨a1, c1, congrArg (fun m_ => tup [Value.slice a1 m_ c1, i64 0]) hne, by omega, by have h_ := ho10; rw [hOe, hne] at h_; exact Owns.mono h_ (by omega), C_w15⟩
end Go.Proofs.YtippcmedgfmgbaaGreat
end
