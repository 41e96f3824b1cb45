/- M18: contracts of functions of the program: called in any world that meets a contract's premises, the function returns what the contract says and changes no more than it says. -/
import Derived.Test.YtdnccchcflaphaaM17
import Derived.Test.YtdnccchcflaphaaEng8
import Derived.Test.YtdnccchcflaphaaEng9
import Derived.Test.YtdnccchcflaphaaEng10
import Derived.Test.YtdnccchcflaphaaEng11
import Derived.Test.YtdnccchcflaphaaEng12
import Derived.Test.YtdnccchcflaphaaChecked
open Go Go.Eng Go.Proofs
namespace Go.Proofs.Ytdnccchcflaphaa
theorem rootOf_spec (l : List UInt8) (a : Option Addr) (n c : Nat) (w : World) (hn : l.length = n) (h0 : 0 < n) (hbig : n ≤ 1048576) (hc : n ≤ c) (hsl : SlAt w a (bs l)) :
    Rtn Try.prog 5 [Value.slice a n c].toArray w (fun v w' => v = tup [.agg (bs (rootH (hashB 2) ((chunksL l).map (hashB 1)))).toArray, i64 ((chunksL l).length : Nat), i64 0] ∧ Kept w w') := by
  refine fn_body (l := [Value.slice a n c]) 27 [.cell 2 25, .tmp 3, .tmp 4] Try.func5 rfl Try.ntmps5 (Nat.le_of_ble_eq_true rfl) (by rw [Try.results5]) ?_
  refine go_seq ?_
  refine go_region 3 rfl rfl ?_
  refine s_do rfl rfl (w_alloc (bs (List.replicate 32 0)) Try.zeroValue25 (by kernel_rfl)) rfl ?_
  rintro _ w1 ⟨b2, rfl, hl_b2, hu_b2, p3, c_w1⟩
  have hs_w1 : w.heap.size ≤ w1.heap.size := Chg.size c_w1
  have C_w1 := Chg.pure (Chg.refl no w) c_w1
  have hn_b2 : w.heap.size ≤ b2 := by have := Chg.size C_w1; omega
  refine s_val rfl rfl (r_assign) rfl ?_
  refine s_val rfl rfl (r_assign) rfl ?_
  refine s_end ?_
  refine go_seq ?_
  refine go_region 7 rfl rfl ?_
  refine s_val rfl rfl (r_move) rfl ?_
  refine s_do rfl rfl (w_call Try.call27 rfl (chunksB_spec l _ n _ _ hn (by omega) (by omega) (by omega) (hsl.k C_w1))) rfl ?_
  rintro _ w4 ⟨A6, cap7, vs8, rfl, hc_cap7, o5, hok9, c_w4⟩
  have hs_w4 : w1.heap.size ≤ w4.heap.size := Chg.size c_w4
  replace p3 := p3.k c_w4
  have C_w4 := Chg.pure C_w1 c_w4
  replace hok9 := hok9 w hsl
  have hcl_o5 := (chunksL_len n l hn (by omega)).1
  refine s_val rfl rfl (r_move) rfl ?_
  refine s_val rfl rfl (r_extract rfl rfl) rfl ?_
  refine s_val rfl rfl (r_extract rfl rfl) rfl ?_
  refine s_val rfl rfl (r_assign) rfl ?_
  refine s_val rfl rfl (r_assign) rfl ?_
  refine s_end ?_
  refine go_seq ?_
  refine go_seq ?_
  refine go_region 2 rfl rfl ?_
  refine s_val rfl rfl (r_move) rfl ?_
  refine s_val rfl rfl (r_neq rfl rfl) rfl ?_
  refine s_end ?_
  refine go_ifb _ rfl (fun h10 => ?_) (fun h10 => ?_)
  · first | replace h10 := of_decide_eq_true h10 | replace h10 := of_decide_eq_false (nt h10) | skip
    exfalso
    omega
  · first | replace h10 := of_decide_eq_false h10 | replace h10 := of_decide_eq_true (nf h10) | skip
    refine go_skip ?_
    refine go_seq ?_
    refine go_region 9 rfl rfl ?_
    refine s_val rfl rfl (r_move) rfl ?_
    refine s_do rfl rfl (w_call Try.call29 rfl (leaves_spec (chunksL l) vs8 _ _ _ _ hok9.1.symm (by omega) (by omega) (fun k => by have := chunksL_small hn (by omega) k; omega) (Owns.sl o5) (hok9.k C_w4))) rfl ?_
    rintro _ w11 ⟨A13, cap14, rfl, hc_cap14, o12, c_w11⟩
    have hs_w11 : w4.heap.size ≤ w11.heap.size := Chg.size c_w11
    replace p3 := p3.k c_w11
    replace o5 := o5.k c_w11
    have C_w11 := Chg.pure C_w4 c_w11
    refine s_do rfl rfl (w_call Try.call28 rfl (root_spec ((chunksL l).map (hashB 1)) _ _ _ _ (by first | omega | (simp; done) | (simp; omega)) (by omega) (by omega) (by omega) (map32 (hashB_length 1) _) (Owns.sl o12))) rfl ?_
    rintro _ w15 ⟨rfl, c_w15⟩
    have hs_w15 : w11.heap.size ≤ w15.heap.size := Chg.size c_w15
    replace p3 := p3.k c_w15
    replace o5 := o5.k c_w15
    replace o12 := o12.k c_w15
    have C_w15 := Chg.pure C_w11 c_w15
    have hr_w15 : (rootH (hashB 2) ((chunksL l).map (hashB 1))).length = 32 := rootH_len (hashB_length 2) (map32 (hashB_length 1) _) (by rw [List.length_map]; omega)
    refine s_val rfl rfl (r_move) rfl ?_
    refine s_val rfl rfl (r_extract rfl rfl) rfl ?_
    refine s_val rfl rfl (r_extract rfl rfl) rfl ?_
    refine s_do rfl rfl (w_alloc (bs (List.replicate 32 0)) Try.zeroValue25 (by kernel_rfl)) rfl ?_
    rintro _ w16 ⟨b17, rfl, hl_b17, hu_b17, p18, c_w16⟩
    have ne_b17_o5 := Owns.ne_ge o5 hl_b17
    have ne_b17_o12 := Owns.ne_ge o12 hl_b17
    have hs_w16 : w15.heap.size ≤ w16.heap.size := Chg.size c_w16
    replace p3 := p3.k c_w16
    replace o5 := o5.k c_w16
    replace o12 := o12.k c_w16
    have C_w16 := Chg.pure C_w15 c_w16
    have hn_b17 : w.heap.size ≤ b17 := by have := Chg.size C_w16; omega
    refine s_do rfl rfl (w_storeA (o := 0) Try.sizeOf25 rfl rfl (by first | exact bs_len (by omega) | exact bs_len (by simp; done) | exact bs_len (by simp; omega)) (flat_bs _) p18 (by first | exact bs_len (by omega) | exact bs_len (by simp; done) | exact bs_len (by simp; omega))) rfl ?_
    rintro _ w19 ⟨q_w19, c_w19⟩
    have hs_w19 : w16.heap.size ≤ w19.heap.size := Chg.size c_w19
    replace p3 := p3.kb c_w19 (by omega)
    replace o5 := o5.kb c_w19 ne_b17_o5
    replace o12 := o12.kb c_w19 ne_b17_o12
    have C_w19 := Chg.newRng C_w16 c_w19 (by omega)
    have p18 := q_w19
    refine s_val rfl rfl (r_assign) rfl ?_
    refine s_end ?_
    refine go_seq ?_
    refine go_region 7 rfl rfl ?_
    refine s_val rfl rfl (r_loadN Try.isAgg25 Try.sizeOf25 rfl p18.rd (by first | exact bs_len (by omega) | exact bs_len (by simp; done) | exact bs_len (by simp; omega))) rfl ?_
    refine s_val rfl rfl (r_move) rfl ?_
    refine s_val rfl rfl (r_len Try.runUnderlying37 rfl) rfl ?_
    refine s_val rfl rfl (r_move) rfl ?_
    refine s_do rfl rfl (w_storeA (o := 0) Try.sizeOf25 rfl rfl (by first | exact bs_len (by omega) | exact bs_len (by simp; done) | exact bs_len (by simp; omega)) (flat_bs _) p3 (by first | exact bs_len (by omega) | exact bs_len (by simp; done) | exact bs_len (by simp; omega))) rfl ?_
    rintro _ w20 ⟨q_w20, c_w20⟩
    have hs_w20 : w19.heap.size ≤ w20.heap.size := Chg.size c_w20
    replace o5 := o5.kb c_w20 (Owns.ne_lt o5 (by omega))
    replace o12 := o12.kb c_w20 (Owns.ne_lt o12 (by omega))
    replace p18 := p18.kb c_w20 (by omega)
    have C_w20 := Chg.newRng C_w19 c_w20 (by omega)
    have p3 := q_w20
    refine s_val rfl rfl (r_assign) rfl ?_
    refine s_val rfl rfl (r_assign) rfl ?_
    refine s_end ?_
    refine go_ret ?_
    refine ⟨_, .cons ⟨_, rfl, run_load_agg Try.isAgg25 Try.sizeOf25 (by first | exact bs_len (by omega) | exact bs_len (by simp; done) | exact bs_len (by simp; omega)) p3.rd⟩ (.cons rfl (.cons rfl (.nil))), ?_⟩
    exact ⟨rfl, C_w20⟩

theorem rootOfE_spec (a : Option Addr) (n c : Nat) (w : World) (hn : n = 0 ∨ 1048576 < n) :
    Rtn Try.prog 5 [Value.slice a n c].toArray w (fun v w' => v = tup [.agg (bs (List.replicate 32 0)).toArray, i64 0, i64 (if n = 0 then 10 else 5)] ∧ Kept w w') := by
  refine fn_body (l := [Value.slice a n c]) 27 [.cell 2 25, .tmp 3, .tmp 4] Try.func5 rfl Try.ntmps5 (Nat.le_of_ble_eq_true rfl) (by rw [Try.results5]) ?_
  refine go_seq ?_
  refine go_region 3 rfl rfl ?_
  refine s_do rfl rfl (w_alloc (bs (List.replicate 32 0)) Try.zeroValue25 (by kernel_rfl)) rfl ?_
  rintro _ w1 ⟨b2, rfl, hl_b2, hu_b2, p3, c_w1⟩
  have hs_w1 : w.heap.size ≤ w1.heap.size := Chg.size c_w1
  have C_w1 := Chg.pure (Chg.refl no w) c_w1
  have hn_b2 : w.heap.size ≤ b2 := by have := Chg.size C_w1; omega
  refine s_val rfl rfl (r_assign) rfl ?_
  refine s_val rfl rfl (r_assign) rfl ?_
  refine s_end ?_
  refine go_seq ?_
  refine go_region 7 rfl rfl ?_
  refine s_val rfl rfl (r_move) rfl ?_
  refine s_do rfl rfl (w_call Try.call27 rfl (chunksE_spec _ _ _ _ (by omega))) rfl ?_
  rintro _ w4 ⟨rfl, c_w4⟩
  have hs_w4 : w1.heap.size ≤ w4.heap.size := Chg.size c_w4
  replace p3 := p3.k c_w4
  have C_w4 := Chg.pure C_w1 c_w4
  refine s_val rfl rfl (r_move) rfl ?_
  refine s_val rfl rfl (r_extract rfl rfl) rfl ?_
  refine s_val rfl rfl (r_extract rfl rfl) rfl ?_
  refine s_val rfl rfl (r_assign) rfl ?_
  refine s_val rfl rfl (r_assign) rfl ?_
  refine s_end ?_
  refine go_seq ?_
  refine go_seq ?_
  refine go_region 2 rfl rfl ?_
  refine s_val rfl rfl (r_move) rfl ?_
  refine s_val rfl rfl (r_neq rfl rfl) rfl ?_
  refine s_end ?_
  refine go_ifb _ rfl (fun h5 => ?_) (fun h5 => ?_)
  · first | replace h5 := of_decide_eq_true h5 | replace h5 := of_decide_eq_false (nt h5) | skip
    refine go_seq ?_
    refine go_region 5 rfl rfl ?_
    refine s_val rfl rfl (r_buildA Try.zeroValue25 Try.runUnderlying25 Try.sizeOf5 (cs := bs (List.replicate 32 0)) (by kernel_rfl)) rfl ?_
    refine s_val rfl rfl (r_move) rfl ?_
    refine s_do rfl rfl (w_storeA (o := 0) Try.sizeOf25 rfl rfl (by first | exact bs_len (by omega) | exact bs_len (by simp; done) | exact bs_len (by simp; omega)) (flat_bs _) p3 (by first | exact bs_len (by omega) | exact bs_len (by simp; done) | exact bs_len (by simp; omega))) rfl ?_
    rintro _ w6 ⟨q_w6, c_w6⟩
    have hs_w6 : w4.heap.size ≤ w6.heap.size := Chg.size c_w6
    have C_w6 := Chg.newRng C_w4 c_w6 (by omega)
    have p3 := q_w6
    refine s_val rfl rfl (r_assign) rfl ?_
    refine s_val rfl rfl (r_assign) rfl ?_
    refine s_end ?_
    refine go_ret ?_
    refine ⟨_, .cons ⟨_, rfl, run_load_agg Try.isAgg25 Try.sizeOf25 (by first | exact bs_len (by omega) | exact bs_len (by simp; done) | exact bs_len (by simp; omega)) p3.rd⟩ (.cons rfl (.cons rfl (.nil))), ?_⟩
    exact ⟨rfl, C_w6⟩
  · first | replace h5 := of_decide_eq_false h5 | replace h5 := of_decide_eq_true (nf h5) | skip
    exfalso
    by_cases h_ : n = 0
    · rw [if_pos h_] at *; omega
    · rw [if_neg h_] at *; omega

end Go.Proofs.Ytdnccchcflaphaa
