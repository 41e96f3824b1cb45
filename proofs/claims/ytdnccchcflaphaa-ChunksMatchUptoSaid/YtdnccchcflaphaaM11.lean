/- M11: contracts of functions of the program: called in any world that meets a contract's premises, the function returns what the contract says and changes no more than it says. -/
import Derived.Test.YtdnccchcflaphaaM10
import Derived.Test.YtdnccchcflaphaaEng8
import Derived.Test.YtdnccchcflaphaaEng9
import Derived.Test.YtdnccchcflaphaaEng10
import Derived.Test.YtdnccchcflaphaaChecked
open Go Go.Eng Go.Proofs
namespace Go.Proofs.Ytdnccchcflaphaa
set_option maxHeartbeats 800000 in
theorem pathB_spec (m : Nat) (L : List (List UInt8)) (i : Int) (a : Option Addr) (n c : Nat) (w : World) (hm : L.length = m) (hn : L.length = n) (h0 : 0 < n) (hb : n < 4294967296) (hc : n ≤ c) (h32 : All32 L) (hsl : SlAt w a (bs L.flatten)) (hi0 : 0 ≤ i) (hi : i < n) :
    Rtn Try.prog 46 [Value.slice a n c, i64 i].toArray w (fun v w' => Owns w' w.heap.size 25 32 v (pathH (hashB 2) L i.toNat).length (bs (pathH (hashB 2) L i.toNat).flatten) ∧ Kept w w') := by
  induction m using Nat.strongRecOn generalizing L i a n c w
  rename_i m ih
  refine fn_body (l := [Value.slice a n c, i64 i]) 39 [.tmp 4] Try.func46 rfl Try.ntmps46 (Nat.le_of_ble_eq_true rfl) (by rw [Try.results46]) ?_
  refine go_seq ?_
  refine go_region 1 rfl rfl ?_
  refine s_val rfl rfl (r_assign) rfl ?_
  refine s_end ?_
  refine go_seq ?_
  refine go_seq ?_
  refine go_region 3 rfl rfl ?_
  refine s_val rfl rfl (r_move) rfl ?_
  refine s_val rfl rfl (r_len Try.runUnderlying29 rfl) rfl ?_
  refine s_val rfl rfl (r_eql rfl rfl) rfl ?_
  refine s_end ?_
  refine go_ifb _ rfl (fun h1 => ?_) (fun h1 => ?_)
  · first | replace h1 := of_decide_eq_true h1 | replace h1 := of_decide_eq_false (nt h1) | skip
    refine go_seq ?_
    refine go_region 1 rfl rfl ?_
    refine s_val rfl rfl (r_assign) rfl ?_
    refine s_end ?_
    refine go_ret ?_
    refine ⟨_, .cons rfl (.nil), ?_⟩
    rw [pathH_one _ _ (by omega)]
    exact ⟨Owns.nil _ _ _ _, (Chg.refl no w)⟩
  · first | replace h1 := of_decide_eq_false h1 | replace h1 := of_decide_eq_true (nf h1) | skip
    refine go_skip ?_
    refine go_seq ?_
    refine go_region 4 rfl rfl ?_
    refine s_val rfl rfl (r_move) rfl ?_
    refine s_val rfl rfl (r_len Try.runUnderlying29 rfl) rfl ?_
    refine s_do rfl rfl (w_call Try.call58 rfl (split_spec n _ (by omega) (by omega))) rfl ?_
    rintro _ w1 ⟨rfl, c_w1⟩
    have hs_w1 : w.heap.size ≤ w1.heap.size := Chg.size c_w1
    have C_w1 := Chg.pure (Chg.refl no w) c_w1
    have hlt_w1 := halfN_lt (n := n) (by omega)
    have hps_w1 := halfN_pos n
    refine s_val rfl rfl (r_assign) rfl ?_
    refine s_end ?_
    refine go_seq ?_
    refine go_seq ?_
    refine go_region 3 rfl rfl ?_
    refine s_val rfl rfl (r_move) rfl ?_
    refine s_val rfl rfl (r_move) rfl ?_
    refine s_val rfl rfl (r_lss rfl rfl) rfl ?_
    refine s_end ?_
    refine go_ifb _ rfl (fun h2 => ?_) (fun h2 => ?_)
    · first | replace h2 := of_decide_eq_true h2 | replace h2 := of_decide_eq_false (nt h2) | skip
      refine go_seq ?_
      refine go_drawsK 8 (.take 0 (.take 1 (.take 2 (.take 3 (.take 5 (.take 6 (.take 7 (.eff 4 (.eff 8 (.eff 9 (.eff 10 (.eff 11 .done)))))))))))) (by kernel_rfl) (by kernel_rfl) fun w2 c_w2 => ?_
      have hs_w2 : w1.heap.size ≤ w2.heap.size := Chg.size c_w2
      have C_w2 := Chg.pure C_w1 c_w2
      refine s_takeK rfl rfl (w0 := w2) (fun x_ c_ => r_move) ?_
      refine s_takeK rfl rfl (w0 := w2) (fun x_ c_ => r_move) ?_
      have s3 := SlAt.cutS_take hsl h32 (halfN n) c (by omega)
      refine s_takeK rfl rfl (w0 := w2) (fun x_ c_ => r_sliceSl (l := 0) (h := (halfN n)) (m := c) Try.runUnderlying29 Try.sizeOf25 rfl rfl ⟨_, _, rfl, by first | rfl | omega⟩ rfl (by first | decide | (intro h_; cases h_)) (by first | decide | omega) (by first | decide | omega | (intro _; omega)) (by first | exact Nat.le_refl _ | omega)) ?_
      refine s_takeK rfl rfl (w0 := w2) (fun x_ c_ => r_move) ?_
      refine s_takeK rfl rfl (w0 := w2) (fun x_ c_ => r_move) ?_
      refine s_takeK rfl rfl (w0 := w2) (fun x_ c_ => r_move) ?_
      have s4 := SlAt.cutS_drop hsl h32 (halfN n) c (by omega)
      refine s_takeK rfl rfl (w0 := w2) (fun x_ c_ => r_sliceSl (l := (halfN n)) (h := n) (m := c) Try.runUnderlying29 Try.sizeOf25 rfl ⟨_, _, rfl, by first | rfl | omega⟩ rfl rfl (by first | decide | (intro h_; cases h_)) (by first | decide | omega) (by first | decide | omega | (intro _; omega)) (by first | exact Nat.le_refl _ | omega)) ?_
      refine s_fxK rfl rfl (w_call Try.call46 rfl (ih (List.length (L.take (halfN n))) (by first | omega | (simp; omega)) (L.take (halfN n)) _ _ _ _ _ rfl (by first | omega | (simp; done) | (simp; omega)) (by first | omega | (simp; done) | (simp; omega)) (by first | omega | (simp; done) | (simp; omega)) (by first | omega | (simp; done) | (simp; omega)) (h32.take (halfN n)) (s3.k C_w2) (by omega) (by omega))) ?_
      rintro v9 w5 ⟨o6, c_w5⟩
      have hs_w5 : w2.heap.size ≤ w5.heap.size := Chg.size c_w5
      have C_w5 := Chg.pure C_w2 c_w5
      obtain ⟨A7, cap8, rfl, hc_cap8, -, -⟩ := Owns.form o6
      have hpl_o6 := pathH_le (hashB 2) (L.take (halfN n)) (Int.toNat i)
      have hpl2_o6 : (List.length (L.take (halfN n))) ≤ n := by first | omega | (simp; done) | (simp; omega)
      have K_w5 := Chg.pure (Chg.refl no w2) c_w5
      refine ⟨K_w5, ?_⟩
      refine s_do rfl rfl (w_call Try.call45 rfl (rootB_spec _ (L.drop (halfN n)) _ _ _ _ rfl (by first | omega | (simp; done) | (simp; omega)) (by first | omega | (simp; done) | (simp; omega)) (by first | omega | (simp; done) | (simp; omega)) (by first | omega | (simp; done) | (simp; omega)) (h32.drop (halfN n)) (s4.k C_w5))) rfl ?_
      rintro _ w10 ⟨rfl, c_w10⟩
      have hs_w10 : w5.heap.size ≤ w10.heap.size := Chg.size c_w10
      replace o6 := o6.k c_w10
      have C_w10 := Chg.pure C_w5 c_w10
      have hr_w10 : (rootH (hashB 2) (L.drop (halfN n))).length = 32 := rootH_len (hashB_length 2) (h32.drop (halfN n)) (by first | omega | (simp; done) | (simp; omega))
      refine s_do rfl rfl (w_buildA1 (E := 25) (sz := 32) Try.underlying29 (i := Try.t25) (by kernel_rfl) rfl rfl rfl rfl rfl rfl (by first | exact bs_len (by omega) | exact bs_len (by simp; done) | exact bs_len (by simp; omega))) rfl ?_
      rintro _ w11 ⟨b12, rfl, hl_b12, hu_b12, o14, p13, c_w11⟩
      have ne_b12_o6 := Owns.ne_ge o6 hl_b12
      have hs_w11 : w10.heap.size ≤ w11.heap.size := Chg.size c_w11
      replace o6 := o6.k c_w11
      have C_w11 := Chg.pure C_w10 c_w11
      have hn_b12 : w.heap.size ≤ b12 := by have := Chg.size C_w11; omega
      refine s_do rfl rfl (w_append (E := 25) (sz := 32) Try.underlying29 rfl (i := Try.t25) (by kernel_rfl) rfl rfl rfl rfl (by rfl) o6 rfl (SlAt.some p13.rd) (by first | rfl | (rw [bs_length]; omega) | (simp [bs_length]; done) | (simp [bs_length]; omega)) (flat_bs _) (by omega) (by show _ * 32 ≤ _; omega) (by omega)) rfl ?_
      rintro v19 w15 ⟨o16, c_w15⟩
      have hs_w15 : w11.heap.size ≤ w15.heap.size := Chg.size c_w15
      replace p13 := p13.kob c_w15 ne_b12_o6
      have C_w15 := Chg.newOb C_w11 c_w15 o6 (by omega)
      obtain ⟨A17, cap18, rfl, hc_cap18, -, -⟩ := Owns.form o16
      replace o16 := Owns.appS (L := (pathH (hashB 2) (L.take (halfN n)) (Int.toNat i))) o16
      refine s_val rfl rfl (r_assign) rfl ?_
      refine s_end ?_
      refine go_ret ?_
      refine ⟨_, .cons rfl (.nil), ?_⟩
      rw [pathH_lt _ (by omega) (by rw [hn]; omega), hn, List.length_append]
      exact ⟨Owns.mono o16 (by omega), C_w15⟩
    · first | replace h2 := of_decide_eq_false h2 | replace h2 := of_decide_eq_true (nf h2) | skip
      refine go_skip ?_
      refine go_seq ?_
      refine go_drawsK 10 (.take 0 (.take 1 (.take 2 (.take 3 (.take 4 (.take 5 (.take 7 (.take 8 (.take 9 (.eff 6 (.eff 10 (.eff 11 (.eff 12 (.eff 13 .done)))))))))))))) (by kernel_rfl) (by kernel_rfl) fun w20 c_w20 => ?_
      have hs_w20 : w1.heap.size ≤ w20.heap.size := Chg.size c_w20
      have C_w20 := Chg.pure C_w1 c_w20
      refine s_takeK rfl rfl (w0 := w20) (fun x_ c_ => r_move) ?_
      refine s_takeK rfl rfl (w0 := w20) (fun x_ c_ => r_move) ?_
      have s21 := SlAt.cutS_drop hsl h32 (halfN n) c (by omega)
      refine s_takeK rfl rfl (w0 := w20) (fun x_ c_ => r_sliceSl (l := (halfN n)) (h := n) (m := c) Try.runUnderlying29 Try.sizeOf25 rfl ⟨_, _, rfl, by first | rfl | omega⟩ rfl rfl (by first | decide | (intro h_; cases h_)) (by first | decide | omega) (by first | decide | omega | (intro _; omega)) (by first | exact Nat.le_refl _ | omega)) ?_
      refine s_takeK rfl rfl (w0 := w20) (fun x_ c_ => r_move) ?_
      refine s_takeK rfl rfl (w0 := w20) (fun x_ c_ => r_move) ?_
      refine s_takeK rfl rfl (w0 := w20) (fun x_ c_ => r_subi rfl rfl (by omega)) ?_
      refine s_takeK rfl rfl (w0 := w20) (fun x_ c_ => r_move) ?_
      refine s_takeK rfl rfl (w0 := w20) (fun x_ c_ => r_move) ?_
      have s22 := SlAt.cutS_take hsl h32 (halfN n) c (by omega)
      refine s_takeK rfl rfl (w0 := w20) (fun x_ c_ => r_sliceSl (l := 0) (h := (halfN n)) (m := c) Try.runUnderlying29 Try.sizeOf25 rfl rfl ⟨_, _, rfl, by first | rfl | omega⟩ rfl (by first | decide | (intro h_; cases h_)) (by first | decide | omega) (by first | decide | omega | (intro _; omega)) (by first | exact Nat.le_refl _ | omega)) ?_
      refine s_fxK rfl rfl (w_call Try.call46 rfl (ih (List.length (L.drop (halfN n))) (by first | omega | (simp; omega)) (L.drop (halfN n)) _ _ _ _ _ rfl (by first | omega | (simp; done) | (simp; omega)) (by first | omega | (simp; done) | (simp; omega)) (by first | omega | (simp; done) | (simp; omega)) (by first | omega | (simp; done) | (simp; omega)) (h32.drop (halfN n)) (s21.k C_w20) (by omega) (by omega))) ?_
      rintro v27 w23 ⟨o24, c_w23⟩
      have hs_w23 : w20.heap.size ≤ w23.heap.size := Chg.size c_w23
      have C_w23 := Chg.pure C_w20 c_w23
      obtain ⟨A25, cap26, rfl, hc_cap26, -, -⟩ := Owns.form o24
      have hpl_o24 := pathH_le (hashB 2) (L.drop (halfN n)) (Int.toNat (i - ((halfN n) : Nat)))
      have hpl2_o24 : (List.length (L.drop (halfN n))) ≤ n := by first | omega | (simp; done) | (simp; omega)
      have K_w23 := Chg.pure (Chg.refl no w20) c_w23
      refine ⟨K_w23, ?_⟩
      refine s_do rfl rfl (w_call Try.call45 rfl (rootB_spec _ (L.take (halfN n)) _ _ _ _ rfl (by first | omega | (simp; done) | (simp; omega)) (by first | omega | (simp; done) | (simp; omega)) (by first | omega | (simp; done) | (simp; omega)) (by first | omega | (simp; done) | (simp; omega)) (h32.take (halfN n)) (s22.k C_w23))) rfl ?_
      rintro _ w28 ⟨rfl, c_w28⟩
      have hs_w28 : w23.heap.size ≤ w28.heap.size := Chg.size c_w28
      replace o24 := o24.k c_w28
      have C_w28 := Chg.pure C_w23 c_w28
      have hr_w28 : (rootH (hashB 2) (L.take (halfN n))).length = 32 := rootH_len (hashB_length 2) (h32.take (halfN n)) (by first | omega | (simp; done) | (simp; omega))
      refine s_do rfl rfl (w_buildA1 (E := 25) (sz := 32) Try.underlying29 (i := Try.t25) (by kernel_rfl) rfl rfl rfl rfl rfl rfl (by first | exact bs_len (by omega) | exact bs_len (by simp; done) | exact bs_len (by simp; omega))) rfl ?_
      rintro _ w29 ⟨b30, rfl, hl_b30, hu_b30, o32, p31, c_w29⟩
      have ne_b30_o24 := Owns.ne_ge o24 hl_b30
      have hs_w29 : w28.heap.size ≤ w29.heap.size := Chg.size c_w29
      replace o24 := o24.k c_w29
      have C_w29 := Chg.pure C_w28 c_w29
      have hn_b30 : w.heap.size ≤ b30 := by have := Chg.size C_w29; omega
      refine s_do rfl rfl (w_append (E := 25) (sz := 32) Try.underlying29 rfl (i := Try.t25) (by kernel_rfl) rfl rfl rfl rfl (by rfl) o24 rfl (SlAt.some p31.rd) (by first | rfl | (rw [bs_length]; omega) | (simp [bs_length]; done) | (simp [bs_length]; omega)) (flat_bs _) (by omega) (by show _ * 32 ≤ _; omega) (by omega)) rfl ?_
      rintro v37 w33 ⟨o34, c_w33⟩
      have hs_w33 : w29.heap.size ≤ w33.heap.size := Chg.size c_w33
      replace p31 := p31.kob c_w33 ne_b30_o24
      have C_w33 := Chg.newOb C_w29 c_w33 o24 (by omega)
      obtain ⟨A35, cap36, rfl, hc_cap36, -, -⟩ := Owns.form o34
      replace o34 := Owns.appS (L := (pathH (hashB 2) (L.drop (halfN n)) (Int.toNat (i - ((halfN n) : Nat))))) o34
      refine s_val rfl rfl (r_assign) rfl ?_
      refine s_end ?_
      refine go_ret ?_
      refine ⟨_, .cons rfl (.nil), ?_⟩
      have e_ : (i - ((halfN n : Nat) : Int)).toNat = i.toNat - halfN n := by omega
      rw [pathH_ge _ (by omega) (by rw [hn]; omega), hn, List.length_append, ← e_]
      exact ⟨Owns.mono o34 (by omega), C_w33⟩

set_option maxHeartbeats 800000 in
theorem pathR_spec (m : Nat) (L : List (List UInt8)) (i : Int) (a : Option Addr) (n c : Nat) (w : World) (hm : L.length = m) (hn : L.length = n) (h0 : 0 < n) (hb : n < 4294967296) (hc : n ≤ c) (h32 : All32 L) (hsl : SlAt w a (bs L.flatten)) (hi0 : 0 ≤ i) (hi : i < n) :
    Rtn Try.prog 16 [Value.slice a n c, i64 i].toArray w (fun v w' => Owns w' w.heap.size 25 32 v (pathH (hashR 2) L i.toNat).length (bs (pathH (hashR 2) L i.toNat).flatten) ∧ Kept w w') := by
  induction m using Nat.strongRecOn generalizing L i a n c w
  rename_i m ih
  refine fn_body (l := [Value.slice a n c, i64 i]) 39 [.tmp 4] Try.func16 rfl Try.ntmps16 (Nat.le_of_ble_eq_true rfl) (by rw [Try.results16]) ?_
  refine go_seq ?_
  refine go_region 1 rfl rfl ?_
  refine s_val rfl rfl (r_assign) rfl ?_
  refine s_end ?_
  refine go_seq ?_
  refine go_seq ?_
  refine go_region 3 rfl rfl ?_
  refine s_val rfl rfl (r_move) rfl ?_
  refine s_val rfl rfl (r_len Try.runUnderlying29 rfl) rfl ?_
  refine s_val rfl rfl (r_eql rfl rfl) rfl ?_
  refine s_end ?_
  refine go_ifb _ rfl (fun h1 => ?_) (fun h1 => ?_)
  · first | replace h1 := of_decide_eq_true h1 | replace h1 := of_decide_eq_false (nt h1) | skip
    refine go_seq ?_
    refine go_region 1 rfl rfl ?_
    refine s_val rfl rfl (r_assign) rfl ?_
    refine s_end ?_
    refine go_ret ?_
    refine ⟨_, .cons rfl (.nil), ?_⟩
    rw [pathH_one _ _ (by omega)]
    exact ⟨Owns.nil _ _ _ _, (Chg.refl no w)⟩
  · first | replace h1 := of_decide_eq_false h1 | replace h1 := of_decide_eq_true (nf h1) | skip
    refine go_skip ?_
    refine go_seq ?_
    refine go_region 4 rfl rfl ?_
    refine s_val rfl rfl (r_move) rfl ?_
    refine s_val rfl rfl (r_len Try.runUnderlying29 rfl) rfl ?_
    refine s_do rfl rfl (w_call Try.call32 rfl (half_spec n _ (by omega) (by omega))) rfl ?_
    rintro _ w1 ⟨rfl, c_w1⟩
    have hs_w1 : w.heap.size ≤ w1.heap.size := Chg.size c_w1
    have C_w1 := Chg.pure (Chg.refl no w) c_w1
    have hlt_w1 := halfN_lt (n := n) (by omega)
    have hps_w1 := halfN_pos n
    refine s_val rfl rfl (r_assign) rfl ?_
    refine s_end ?_
    refine go_seq ?_
    refine go_region 3 rfl rfl ?_
    refine s_val rfl rfl (r_move) rfl ?_
    refine s_val rfl rfl (r_move) rfl ?_
    refine s_val rfl rfl (r_lss rfl rfl) rfl ?_
    refine s_end ?_
    refine go_ifb _ rfl (fun h2 => ?_) (fun h2 => ?_)
    · first | replace h2 := of_decide_eq_true h2 | replace h2 := of_decide_eq_false (nt h2) | skip
      refine go_seq ?_
      refine go_drawsK 8 (.take 0 (.take 1 (.take 2 (.take 3 (.take 5 (.take 6 (.take 7 (.eff 4 (.eff 8 (.eff 9 (.eff 10 (.eff 11 .done)))))))))))) (by kernel_rfl) (by kernel_rfl) fun w2 c_w2 => ?_
      have hs_w2 : w1.heap.size ≤ w2.heap.size := Chg.size c_w2
      have C_w2 := Chg.pure C_w1 c_w2
      refine s_takeK rfl rfl (w0 := w2) (fun x_ c_ => r_move) ?_
      refine s_takeK rfl rfl (w0 := w2) (fun x_ c_ => r_move) ?_
      have s3 := SlAt.cutS_take hsl h32 (halfN n) c (by omega)
      refine s_takeK rfl rfl (w0 := w2) (fun x_ c_ => r_sliceSl (l := 0) (h := (halfN n)) (m := c) Try.runUnderlying29 Try.sizeOf25 rfl rfl ⟨_, _, rfl, by first | rfl | omega⟩ rfl (by first | decide | (intro h_; cases h_)) (by first | decide | omega) (by first | decide | omega | (intro _; omega)) (by first | exact Nat.le_refl _ | omega)) ?_
      refine s_takeK rfl rfl (w0 := w2) (fun x_ c_ => r_move) ?_
      refine s_takeK rfl rfl (w0 := w2) (fun x_ c_ => r_move) ?_
      refine s_takeK rfl rfl (w0 := w2) (fun x_ c_ => r_move) ?_
      have s4 := SlAt.cutS_drop hsl h32 (halfN n) c (by omega)
      refine s_takeK rfl rfl (w0 := w2) (fun x_ c_ => r_sliceSl (l := (halfN n)) (h := n) (m := c) Try.runUnderlying29 Try.sizeOf25 rfl ⟨_, _, rfl, by first | rfl | omega⟩ rfl rfl (by first | decide | (intro h_; cases h_)) (by first | decide | omega) (by first | decide | omega | (intro _; omega)) (by first | exact Nat.le_refl _ | omega)) ?_
      refine s_fxK rfl rfl (w_call Try.call16 rfl (ih (List.length (L.take (halfN n))) (by first | omega | (simp; omega)) (L.take (halfN n)) _ _ _ _ _ rfl (by first | omega | (simp; done) | (simp; omega)) (by first | omega | (simp; done) | (simp; omega)) (by first | omega | (simp; done) | (simp; omega)) (by first | omega | (simp; done) | (simp; omega)) (h32.take (halfN n)) (s3.k C_w2) (by omega) (by omega))) ?_
      rintro v9 w5 ⟨o6, c_w5⟩
      have hs_w5 : w2.heap.size ≤ w5.heap.size := Chg.size c_w5
      have C_w5 := Chg.pure C_w2 c_w5
      obtain ⟨A7, cap8, rfl, hc_cap8, -, -⟩ := Owns.form o6
      have hpl_o6 := pathH_le (hashR 2) (L.take (halfN n)) (Int.toNat i)
      have hpl2_o6 : (List.length (L.take (halfN n))) ≤ n := by first | omega | (simp; done) | (simp; omega)
      have K_w5 := Chg.pure (Chg.refl no w2) c_w5
      refine ⟨K_w5, ?_⟩
      refine s_do rfl rfl (w_call Try.call12 rfl (rootR_spec _ (L.drop (halfN n)) _ _ _ _ rfl (by first | omega | (simp; done) | (simp; omega)) (by first | omega | (simp; done) | (simp; omega)) (by first | omega | (simp; done) | (simp; omega)) (by first | omega | (simp; done) | (simp; omega)) (h32.drop (halfN n)) (s4.k C_w5))) rfl ?_
      rintro _ w10 ⟨rfl, c_w10⟩
      have hs_w10 : w5.heap.size ≤ w10.heap.size := Chg.size c_w10
      replace o6 := o6.k c_w10
      have C_w10 := Chg.pure C_w5 c_w10
      have hr_w10 : (rootH (hashR 2) (L.drop (halfN n))).length = 32 := rootH_len (hashR_length 2) (h32.drop (halfN n)) (by first | omega | (simp; done) | (simp; omega))
      refine s_do rfl rfl (w_buildA1 (E := 25) (sz := 32) Try.underlying29 (i := Try.t25) (by kernel_rfl) rfl rfl rfl rfl rfl rfl (by first | exact bs_len (by omega) | exact bs_len (by simp; done) | exact bs_len (by simp; omega))) rfl ?_
      rintro _ w11 ⟨b12, rfl, hl_b12, hu_b12, o14, p13, c_w11⟩
      have ne_b12_o6 := Owns.ne_ge o6 hl_b12
      have hs_w11 : w10.heap.size ≤ w11.heap.size := Chg.size c_w11
      replace o6 := o6.k c_w11
      have C_w11 := Chg.pure C_w10 c_w11
      have hn_b12 : w.heap.size ≤ b12 := by have := Chg.size C_w11; omega
      refine s_do rfl rfl (w_append (E := 25) (sz := 32) Try.underlying29 rfl (i := Try.t25) (by kernel_rfl) rfl rfl rfl rfl (by rfl) o6 rfl (SlAt.some p13.rd) (by first | rfl | (rw [bs_length]; omega) | (simp [bs_length]; done) | (simp [bs_length]; omega)) (flat_bs _) (by omega) (by show _ * 32 ≤ _; omega) (by omega)) rfl ?_
      rintro v19 w15 ⟨o16, c_w15⟩
      have hs_w15 : w11.heap.size ≤ w15.heap.size := Chg.size c_w15
      replace p13 := p13.kob c_w15 ne_b12_o6
      have C_w15 := Chg.newOb C_w11 c_w15 o6 (by omega)
      obtain ⟨A17, cap18, rfl, hc_cap18, -, -⟩ := Owns.form o16
      replace o16 := Owns.appS (L := (pathH (hashR 2) (L.take (halfN n)) (Int.toNat i))) o16
      refine s_val rfl rfl (r_assign) rfl ?_
      refine s_end ?_
      refine go_ret ?_
      refine ⟨_, .cons rfl (.nil), ?_⟩
      rw [pathH_lt _ (by omega) (by rw [hn]; omega), hn, List.length_append]
      exact ⟨Owns.mono o16 (by omega), C_w15⟩
    · first | replace h2 := of_decide_eq_false h2 | replace h2 := of_decide_eq_true (nf h2) | skip
      refine go_seq ?_
      refine go_drawsK 10 (.take 0 (.take 1 (.take 2 (.take 3 (.take 4 (.take 5 (.take 7 (.take 8 (.take 9 (.eff 6 (.eff 10 (.eff 11 (.eff 12 (.eff 13 .done)))))))))))))) (by kernel_rfl) (by kernel_rfl) fun w20 c_w20 => ?_
      have hs_w20 : w1.heap.size ≤ w20.heap.size := Chg.size c_w20
      have C_w20 := Chg.pure C_w1 c_w20
      refine s_takeK rfl rfl (w0 := w20) (fun x_ c_ => r_move) ?_
      refine s_takeK rfl rfl (w0 := w20) (fun x_ c_ => r_move) ?_
      have s21 := SlAt.cutS_drop hsl h32 (halfN n) c (by omega)
      refine s_takeK rfl rfl (w0 := w20) (fun x_ c_ => r_sliceSl (l := (halfN n)) (h := n) (m := c) Try.runUnderlying29 Try.sizeOf25 rfl ⟨_, _, rfl, by first | rfl | omega⟩ rfl rfl (by first | decide | (intro h_; cases h_)) (by first | decide | omega) (by first | decide | omega | (intro _; omega)) (by first | exact Nat.le_refl _ | omega)) ?_
      refine s_takeK rfl rfl (w0 := w20) (fun x_ c_ => r_move) ?_
      refine s_takeK rfl rfl (w0 := w20) (fun x_ c_ => r_move) ?_
      refine s_takeK rfl rfl (w0 := w20) (fun x_ c_ => r_subi rfl rfl (by omega)) ?_
      refine s_takeK rfl rfl (w0 := w20) (fun x_ c_ => r_move) ?_
      refine s_takeK rfl rfl (w0 := w20) (fun x_ c_ => r_move) ?_
      have s22 := SlAt.cutS_take hsl h32 (halfN n) c (by omega)
      refine s_takeK rfl rfl (w0 := w20) (fun x_ c_ => r_sliceSl (l := 0) (h := (halfN n)) (m := c) Try.runUnderlying29 Try.sizeOf25 rfl rfl ⟨_, _, rfl, by first | rfl | omega⟩ rfl (by first | decide | (intro h_; cases h_)) (by first | decide | omega) (by first | decide | omega | (intro _; omega)) (by first | exact Nat.le_refl _ | omega)) ?_
      refine s_fxK rfl rfl (w_call Try.call16 rfl (ih (List.length (L.drop (halfN n))) (by first | omega | (simp; omega)) (L.drop (halfN n)) _ _ _ _ _ rfl (by first | omega | (simp; done) | (simp; omega)) (by first | omega | (simp; done) | (simp; omega)) (by first | omega | (simp; done) | (simp; omega)) (by first | omega | (simp; done) | (simp; omega)) (h32.drop (halfN n)) (s21.k C_w20) (by omega) (by omega))) ?_
      rintro v27 w23 ⟨o24, c_w23⟩
      have hs_w23 : w20.heap.size ≤ w23.heap.size := Chg.size c_w23
      have C_w23 := Chg.pure C_w20 c_w23
      obtain ⟨A25, cap26, rfl, hc_cap26, -, -⟩ := Owns.form o24
      have hpl_o24 := pathH_le (hashR 2) (L.drop (halfN n)) (Int.toNat (i - ((halfN n) : Nat)))
      have hpl2_o24 : (List.length (L.drop (halfN n))) ≤ n := by first | omega | (simp; done) | (simp; omega)
      have K_w23 := Chg.pure (Chg.refl no w20) c_w23
      refine ⟨K_w23, ?_⟩
      refine s_do rfl rfl (w_call Try.call12 rfl (rootR_spec _ (L.take (halfN n)) _ _ _ _ rfl (by first | omega | (simp; done) | (simp; omega)) (by first | omega | (simp; done) | (simp; omega)) (by first | omega | (simp; done) | (simp; omega)) (by first | omega | (simp; done) | (simp; omega)) (h32.take (halfN n)) (s22.k C_w23))) rfl ?_
      rintro _ w28 ⟨rfl, c_w28⟩
      have hs_w28 : w23.heap.size ≤ w28.heap.size := Chg.size c_w28
      replace o24 := o24.k c_w28
      have C_w28 := Chg.pure C_w23 c_w28
      have hr_w28 : (rootH (hashR 2) (L.take (halfN n))).length = 32 := rootH_len (hashR_length 2) (h32.take (halfN n)) (by first | omega | (simp; done) | (simp; omega))
      refine s_do rfl rfl (w_buildA1 (E := 25) (sz := 32) Try.underlying29 (i := Try.t25) (by kernel_rfl) rfl rfl rfl rfl rfl rfl (by first | exact bs_len (by omega) | exact bs_len (by simp; done) | exact bs_len (by simp; omega))) rfl ?_
      rintro _ w29 ⟨b30, rfl, hl_b30, hu_b30, o32, p31, c_w29⟩
      have ne_b30_o24 := Owns.ne_ge o24 hl_b30
      have hs_w29 : w28.heap.size ≤ w29.heap.size := Chg.size c_w29
      replace o24 := o24.k c_w29
      have C_w29 := Chg.pure C_w28 c_w29
      have hn_b30 : w.heap.size ≤ b30 := by have := Chg.size C_w29; omega
      refine s_do rfl rfl (w_append (E := 25) (sz := 32) Try.underlying29 rfl (i := Try.t25) (by kernel_rfl) rfl rfl rfl rfl (by rfl) o24 rfl (SlAt.some p31.rd) (by first | rfl | (rw [bs_length]; omega) | (simp [bs_length]; done) | (simp [bs_length]; omega)) (flat_bs _) (by omega) (by show _ * 32 ≤ _; omega) (by omega)) rfl ?_
      rintro v37 w33 ⟨o34, c_w33⟩
      have hs_w33 : w29.heap.size ≤ w33.heap.size := Chg.size c_w33
      replace p31 := p31.kob c_w33 ne_b30_o24
      have C_w33 := Chg.newOb C_w29 c_w33 o24 (by omega)
      obtain ⟨A35, cap36, rfl, hc_cap36, -, -⟩ := Owns.form o34
      replace o34 := Owns.appS (L := (pathH (hashR 2) (L.drop (halfN n)) (Int.toNat (i - ((halfN n) : Nat))))) o34
      refine s_val rfl rfl (r_assign) rfl ?_
      refine s_end ?_
      refine go_ret ?_
      refine ⟨_, .cons rfl (.nil), ?_⟩
      have e_ : (i - ((halfN n : Nat) : Int)).toNat = i.toNat - halfN n := by omega
      rw [pathH_ge _ (by omega) (by rw [hn]; omega), hn, List.length_append, ← e_]
      exact ⟨Owns.mono o34 (by omega), C_w33⟩

end Go.Proofs.Ytdnccchcflaphaa
