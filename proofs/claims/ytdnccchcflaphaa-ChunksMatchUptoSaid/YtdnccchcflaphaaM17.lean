/- M17: contracts of functions of the program: called in any world that meets a contract's premises, the function returns what the contract says and changes no more than it says. -/
import Derived.Test.YtdnccchcflaphaaM16
import Derived.Test.YtdnccchcflaphaaEng8
import Derived.Test.YtdnccchcflaphaaEng9
import Derived.Test.YtdnccchcflaphaaEng10
import Derived.Test.YtdnccchcflaphaaEng11
import Derived.Test.YtdnccchcflaphaaEng12
import Derived.Test.YtdnccchcflaphaaChecked
open Go Go.Eng Go.Proofs
namespace Go.Proofs.Ytdnccchcflaphaa
theorem chunk_spec (a : Option Addr) (n c : Nat) (w : World) :
    Rtn Try.prog 43 [Value.slice a n c, i64 1024].toArray w (fun v w' => ∃ t1 t2, v = .func (.func 57) #[] [Value.pointer (some ⟨t1, 0, none⟩), Value.pointer (some ⟨t2, 0, none⟩)].toArray ∧ t1 < w'.heap.size ∧ t2 < w'.heap.size ∧ Rd w' t1 0 [Value.slice a n c] ∧ Rd w' t2 0 [i64 1024] ∧ Kept w w') := by
  refine fn_body (l := [Value.slice a n c, i64 1024]) 9 [.tmp 4] Try.func43 rfl Try.ntmps43 (Nat.le_of_ble_eq_true rfl) (by rw [Try.results43]) ?_
  refine go_seq ?_
  refine go_region 3 rfl rfl ?_
  refine s_do rfl rfl (w_box1 rfl rfl) rfl ?_
  rintro _ w1 ⟨b2, rfl, hl_b2, hu_b2, p3, c_w1⟩
  have hs_w1 : w.heap.size ≤ w1.heap.size := Chg.size c_w1
  have C_w1 := Chg.pure (Chg.refl no w) c_w1
  have hn_b2 : w.heap.size ≤ b2 := by have := Chg.size C_w1; omega
  refine s_do rfl rfl (w_box1 rfl rfl) rfl ?_
  rintro _ w4 ⟨b5, rfl, hl_b5, hu_b5, p6, c_w4⟩
  have hs_w4 : w1.heap.size ≤ w4.heap.size := Chg.size c_w4
  replace p3 := p3.k c_w4
  have C_w4 := Chg.pure C_w1 c_w4
  have hn_b5 : w.heap.size ≤ b5 := by have := Chg.size C_w4; omega
  refine s_val rfl rfl (r_assign) rfl ?_
  refine s_end ?_
  refine go_seq ?_
  refine go_seq ?_
  refine go_region 2 rfl rfl ?_
  refine s_val rfl rfl (r_load1 Try.isAgg3 rfl p6.rd) rfl ?_
  refine s_val rfl rfl (r_lss rfl rfl) rfl ?_
  refine s_end ?_
  refine go_ifb _ rfl (fun h7 => ?_) (fun h7 => ?_)
  · first | replace h7 := of_decide_eq_true h7 | replace h7 := of_decide_eq_false (nt h7) | skip
    exfalso
    omega
  · first | replace h7 := of_decide_eq_false h7 | replace h7 := of_decide_eq_true (nf h7) | skip
    refine go_skip ?_
    refine go_seq ?_
    refine go_region 2 rfl rfl ?_
    refine s_val rfl rfl (r_makeFunc rfl) rfl ?_
    refine s_val rfl rfl (r_assign) rfl ?_
    refine s_end ?_
    refine go_ret ?_
    refine ⟨_, .cons rfl (.nil), ?_⟩
    exact ⟨_, _, rfl, by omega, by omega, p3.rd, p6.rd, C_w4⟩

theorem collect_spec (tb1 tb2 n c : Nat) (a : Option Addr) (w : World) (hn : n ≤ 1048576) (hc : n ≤ c) (h1 : tb1 < w.heap.size) (h2 : tb2 < w.heap.size) (ht1 : Rd w tb1 0 [Value.slice a n c]) (ht2 : Rd w tb2 0 [i64 1024]) :
    Rtn Try.prog 42 [Value.func (.func 57) #[] [Value.pointer (some ⟨tb1, 0, none⟩), Value.pointer (some ⟨tb2, 0, none⟩)].toArray].toArray w (fun v w' => Owns w' w.heap.size 22 1 v ((n + 1023) / 1024) (chVals (chP a n ((n + 1023) / 1024))) ∧ Kept w w') := by
  refine fn_body (l := [Value.func (.func 57) #[] [Value.pointer (some ⟨tb1, 0, none⟩), Value.pointer (some ⟨tb2, 0, none⟩)].toArray]) 5 [.tmp 2] Try.func42 rfl Try.ntmps42 (Nat.le_of_ble_eq_true rfl) (by rw [Try.results42]) ?_
  refine go_seq ?_
  refine go_region 1 rfl rfl ?_
  refine s_val rfl rfl (r_assign) rfl ?_
  refine s_end ?_
  refine go_seq ?_
  refine go_region 3 rfl rfl ?_
  refine s_val rfl rfl (r_move) rfl ?_
  refine s_do rfl rfl (w_call Try.call56 rfl (appendSeq_spec _ _ n c _ _ (by omega) (by omega) (by omega) (by omega) (ht1.k (Chg.refl no w)) (ht2.k (Chg.refl no w)))) rfl ?_
  rintro v5 w1 ⟨o2, c_w1⟩
  have hs_w1 : w.heap.size ≤ w1.heap.size := Chg.size c_w1
  have C_w1 := Chg.pure (Chg.refl no w) c_w1
  obtain ⟨A3, cap4, rfl, hc_cap4, -, -⟩ := Owns.form o2
  refine s_val rfl rfl (r_assign) rfl ?_
  refine s_end ?_
  refine go_ret ?_
  refine ⟨_, .cons rfl (.nil), ?_⟩
  exact ⟨Owns.mono o2 (by omega), C_w1⟩

theorem chunksB_spec (l : List UInt8) (a : Option Addr) (n c : Nat) (w : World) (hn : l.length = n) (h0 : 0 < n) (hbig : n ≤ 1048576) (hc : n ≤ c) (hsl : SlAt w a (bs l)) :
    Rtn Try.prog 27 [Value.slice a n c].toArray w (fun v w' => ∃ a' c' vs, v = tup [Value.slice a' (chunksL l).length c', i64 0] ∧ (chunksL l).length ≤ c' ∧ Owns w' w.heap.size 22 1 (Value.slice a' (chunksL l).length c') (chunksL l).length vs ∧ (∀ w0, SlAt w0 a (bs l) → SlsOk w0 vs (chunksL l)) ∧ Kept w w') := by
  refine fn_body (l := [Value.slice a n c]) 13 [.tmp 2, .tmp 3] Try.func27 rfl Try.ntmps27 (Nat.le_of_ble_eq_true rfl) (by rw [Try.results27]) ?_
  refine go_seq ?_
  refine go_region 2 rfl rfl ?_
  refine s_val rfl rfl (r_assign) rfl ?_
  refine s_val rfl rfl (r_assign) rfl ?_
  refine s_end ?_
  refine go_seq ?_
  refine go_seq ?_
  refine go_region 3 rfl rfl ?_
  refine s_val rfl rfl (r_move) rfl ?_
  refine s_val rfl rfl (r_len Try.runUnderlying22 rfl) rfl ?_
  refine s_val rfl rfl (r_eql rfl rfl) rfl ?_
  refine s_end ?_
  refine go_ifb _ rfl (fun h1 => ?_) (fun h1 => ?_)
  · first | replace h1 := of_decide_eq_true h1 | replace h1 := of_decide_eq_false (nt h1) | skip
    exfalso
    omega
  · first | replace h1 := of_decide_eq_false h1 | replace h1 := of_decide_eq_true (nf h1) | skip
    refine go_skip ?_
    refine go_seq ?_
    refine go_seq ?_
    refine go_region 3 rfl rfl ?_
    refine s_val rfl rfl (r_move) rfl ?_
    refine s_val rfl rfl (r_len Try.runUnderlying22 rfl) rfl ?_
    refine s_val rfl rfl (r_gtr rfl rfl) rfl ?_
    refine s_end ?_
    refine go_ifb _ rfl (fun h2 => ?_) (fun h2 => ?_)
    · first | replace h2 := of_decide_eq_true h2 | replace h2 := of_decide_eq_false (nt h2) | skip
      exfalso
      omega
    · first | replace h2 := of_decide_eq_false h2 | replace h2 := of_decide_eq_true (nf h2) | skip
      refine go_skip ?_
      refine go_seq ?_
      refine go_region 5 rfl rfl ?_
      refine s_val rfl rfl (r_move) rfl ?_
      refine s_do rfl rfl (w_call Try.call43 rfl (chunk_spec _ _ _ _)) rfl ?_
      rintro _ w3 ⟨tb4, tb5, rfl, hu_tb4, hu_tb5, p6, p7, c_w3⟩
      have hs_w3 : w.heap.size ≤ w3.heap.size := Chg.size c_w3
      have C_w3 := Chg.pure (Chg.refl no w) c_w3
      refine s_do rfl rfl (w_call Try.call42 rfl (collect_spec _ _ n c _ _ (by omega) (by omega) (by omega) (by omega) p6 p7)) rfl ?_
      rintro v12 w8 ⟨o9, c_w8⟩
      have hs_w8 : w3.heap.size ≤ w8.heap.size := Chg.size c_w8
      replace p6 := p6.k c_w8
      replace p7 := p7.k c_w8
      have C_w8 := Chg.pure C_w3 c_w8
      obtain ⟨A10, cap11, rfl, hc_cap11, -, -⟩ := Owns.form o9
      refine s_val rfl rfl (r_assign) rfl ?_
      refine s_val rfl rfl (r_assign) rfl ?_
      refine s_end ?_
      refine go_ret ?_
      refine ⟨_, .cons rfl (.cons rfl (.nil)), ?_⟩
      have hl2 := (chunksL_len n l hn h0).1
      rw [hl2]
      exact ⟨_, _, _, rfl, hc_cap11, Owns.mono o9 (by omega), fun w0 h_ => chunks_ok hn h0 hc h_, C_w8⟩

theorem chunksE_spec (a : Option Addr) (n c : Nat) (w : World) (hn : n = 0 ∨ 1048576 < n) :
    Rtn Try.prog 27 [Value.slice a n c].toArray w (fun v w' => v = tup [Value.slice none 0 0, i64 (if n = 0 then 10 else 5)] ∧ Kept w w') := by
  refine fn_body (l := [Value.slice a n c]) 13 [.tmp 2, .tmp 3] Try.func27 rfl Try.ntmps27 (Nat.le_of_ble_eq_true rfl) (by rw [Try.results27]) ?_
  refine go_seq ?_
  refine go_region 2 rfl rfl ?_
  refine s_val rfl rfl (r_assign) rfl ?_
  refine s_val rfl rfl (r_assign) rfl ?_
  refine s_end ?_
  refine go_seq ?_
  refine go_seq ?_
  refine go_region 3 rfl rfl ?_
  refine s_val rfl rfl (r_move) rfl ?_
  refine s_val rfl rfl (r_len Try.runUnderlying22 rfl) rfl ?_
  refine s_val rfl rfl (r_eql rfl rfl) rfl ?_
  refine s_end ?_
  refine go_ifb _ rfl (fun h1 => ?_) (fun h1 => ?_)
  · first | replace h1 := of_decide_eq_true h1 | replace h1 := of_decide_eq_false (nt h1) | skip
    refine go_seq ?_
    refine go_region 2 rfl rfl ?_
    refine s_val rfl rfl (r_assign) rfl ?_
    refine s_val rfl rfl (r_assign) rfl ?_
    refine s_end ?_
    refine go_ret ?_
    refine ⟨_, .cons rfl (.cons rfl (.nil)), ?_⟩
    rw [if_pos (by omega)]
    exact ⟨rfl, (Chg.refl no w)⟩
  · first | replace h1 := of_decide_eq_false h1 | replace h1 := of_decide_eq_true (nf h1) | skip
    refine go_skip ?_
    refine go_seq ?_
    refine go_seq ?_
    refine go_region 3 rfl rfl ?_
    refine s_val rfl rfl (r_move) rfl ?_
    refine s_val rfl rfl (r_len Try.runUnderlying22 rfl) rfl ?_
    refine s_val rfl rfl (r_gtr rfl rfl) rfl ?_
    refine s_end ?_
    refine go_ifb _ rfl (fun h1 => ?_) (fun h1 => ?_)
    · first | replace h1 := of_decide_eq_true h1 | replace h1 := of_decide_eq_false (nt h1) | skip
      refine go_seq ?_
      refine go_region 2 rfl rfl ?_
      refine s_val rfl rfl (r_assign) rfl ?_
      refine s_val rfl rfl (r_assign) rfl ?_
      refine s_end ?_
      refine go_ret ?_
      refine ⟨_, .cons rfl (.cons rfl (.nil)), ?_⟩
      rw [if_neg (by omega)]
      exact ⟨rfl, (Chg.refl no w)⟩
    · first | replace h1 := of_decide_eq_false h1 | replace h1 := of_decide_eq_true (nf h1) | skip
      exfalso
      omega

end Go.Proofs.Ytdnccchcflaphaa
