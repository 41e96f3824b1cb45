/- M19: contracts of functions of the program: called in any world that meets a contract's premises, the function returns what the contract says and changes no more than it says. -/
import Derived.Test.YtdnccchcflaphaaM18
import Derived.Test.YtdnccchcflaphaaEng8
import Derived.Test.YtdnccchcflaphaaEng9
import Derived.Test.YtdnccchcflaphaaEng10
import Derived.Test.YtdnccchcflaphaaEng11
import Derived.Test.YtdnccchcflaphaaEng12
import Derived.Test.YtdnccchcflaphaaChecked
open Go Go.Eng Go.Proofs
namespace Go.Proofs.Ytdnccchcflaphaa
theorem chunkE_spec (k : Int) (a : Option Addr) (n c : Nat) (w : World) (hn : n = 0 ∨ 1048576 < n) :
    Rtn Try.prog 6 [Value.slice a n c, i64 k].toArray w (fun v w' => v = tup [Value.slice none 0 0, .agg ([i64 0] ++ ([i64 0] ++ [Value.slice none 0 0])).toArray, i64 (if n = 0 then 10 else 5)] ∧ Kept w w') := by
  refine fn_body (l := [Value.slice a n c, i64 k]) 45 [.tmp 4, .cell 5 31, .tmp 6] Try.func6 rfl Try.ntmps6 (Nat.le_of_ble_eq_true rfl) (by rw [Try.results6]) ?_
  refine go_seq ?_
  refine go_region 3 rfl rfl ?_
  refine s_val rfl rfl (r_assign) rfl ?_
  refine s_do rfl rfl (w_alloc ([i64 0] ++ ([i64 0] ++ ([.slice none 0 0]))) Try.zeroValue31 (by kernel_rfl)) rfl ?_
  rintro _ w1 ⟨b2, rfl, hl_b2, hu_b2, p3, c_w1⟩
  have hs_w1 : w.heap.size ≤ w1.heap.size := Chg.size c_w1
  have C_w1 := Chg.pure (Chg.refl no w) c_w1
  have hn_b2 : w.heap.size ≤ b2 := by have := Chg.size C_w1; omega
  refine s_val rfl rfl (r_assign) rfl ?_
  refine s_end ?_
  refine go_seq ?_
  refine go_region 7 rfl rfl ?_
  refine s_val rfl rfl (r_move) rfl ?_
  refine s_do rfl rfl (w_call Try.call27 rfl (chunksE_spec _ _ _ _ (by omega))) rfl ?_
  rintro _ w4 ⟨rfl, c_w4⟩
  have hs_w4 : w1.heap.size ≤ w4.heap.size := Chg.size c_w4
  replace p3 := p3.k c_w4
  have C_w4 := Chg.pure C_w1 c_w4
  refine s_val rfl rfl (r_move) rfl ?_
  refine s_val rfl rfl (r_extract rfl rfl) rfl ?_
  refine s_val rfl rfl (r_extract rfl rfl) rfl ?_
  refine s_val rfl rfl (r_assign) rfl ?_
  refine s_val rfl rfl (r_assign) rfl ?_
  refine s_end ?_
  refine go_seq ?_
  refine go_seq ?_
  refine go_region 2 rfl rfl ?_
  refine s_val rfl rfl (r_move) rfl ?_
  refine s_val rfl rfl (r_neq rfl rfl) rfl ?_
  refine s_end ?_
  refine go_ifb _ rfl (fun h5 => ?_) (fun h5 => ?_)
  · first | replace h5 := of_decide_eq_true h5 | replace h5 := of_decide_eq_false (nt h5) | skip
    refine go_seq ?_
    refine go_region 5 rfl rfl ?_
    refine s_val rfl rfl (r_buildP (cells := ([i64 0] ++ ([i64 0] ++ ([.slice none 0 0])))) (by kernel_rfl)) rfl ?_
    refine s_val rfl rfl (r_move) rfl ?_
    refine s_val rfl rfl (r_assign) rfl ?_
    refine s_do rfl rfl (w_storeA (o := 0) Try.sizeOf31 rfl rfl rfl (flat_cons rfl (flat_cons rfl (flat_one rfl))) p3 rfl) rfl ?_
    rintro _ w6 ⟨q_w6, c_w6⟩
    have hs_w6 : w4.heap.size ≤ w6.heap.size := Chg.size c_w6
    have C_w6 := Chg.newRng C_w4 c_w6 (by omega)
    have p3 := q_w6
    refine s_val rfl rfl (r_assign) rfl ?_
    refine s_end ?_
    refine go_ret ?_
    refine ⟨_, .cons rfl (.cons ⟨_, rfl, run_load_agg Try.isAgg31 Try.sizeOf31 rfl p3.rd⟩ (.cons rfl (.nil))), ?_⟩
    exact ⟨rfl, C_w6⟩
  · first | replace h5 := of_decide_eq_false h5 | replace h5 := of_decide_eq_true (nf h5) | skip
    exfalso
    by_cases h_ : n = 0
    · rw [if_pos h_] at *; omega
    · rw [if_neg h_] at *; omega

theorem chunkR_spec (k : Int) (l : List UInt8) (a : Option Addr) (n c : Nat) (w : World) (hn : l.length = n) (h0 : 0 < n) (hbig : n ≤ 1048576) (hc : n ≤ c) (hsl : SlAt w a (bs l)) (hk : k < 0 ∨ ((chunksL l).length : Int) ≤ k) :
    Rtn Try.prog 6 [Value.slice a n c, i64 k].toArray w (fun v w' => v = tup [Value.slice none 0 0, .agg ([i64 0] ++ ([i64 0] ++ [Value.slice none 0 0])).toArray, i64 4] ∧ Kept w w') := by
  refine fn_body (l := [Value.slice a n c, i64 k]) 45 [.tmp 4, .cell 5 31, .tmp 6] Try.func6 rfl Try.ntmps6 (Nat.le_of_ble_eq_true rfl) (by rw [Try.results6]) ?_
  refine go_seq ?_
  refine go_region 3 rfl rfl ?_
  refine s_val rfl rfl (r_assign) rfl ?_
  refine s_do rfl rfl (w_alloc ([i64 0] ++ ([i64 0] ++ ([.slice none 0 0]))) Try.zeroValue31 (by kernel_rfl)) rfl ?_
  rintro _ w1 ⟨b2, rfl, hl_b2, hu_b2, p3, c_w1⟩
  have hs_w1 : w.heap.size ≤ w1.heap.size := Chg.size c_w1
  have C_w1 := Chg.pure (Chg.refl no w) c_w1
  have hn_b2 : w.heap.size ≤ b2 := by have := Chg.size C_w1; omega
  refine s_val rfl rfl (r_assign) rfl ?_
  refine s_end ?_
  refine go_seq ?_
  refine go_region 7 rfl rfl ?_
  refine s_val rfl rfl (r_move) rfl ?_
  refine s_do rfl rfl (w_call Try.call27 rfl (chunksB_spec l _ n _ _ hn (by omega) (by omega) (by omega) (hsl.k C_w1))) rfl ?_
  rintro _ w4 ⟨A6, cap7, vs8, rfl, hc_cap7, o5, hok9, c_w4⟩
  have hs_w4 : w1.heap.size ≤ w4.heap.size := Chg.size c_w4
  replace p3 := p3.k c_w4
  have C_w4 := Chg.pure C_w1 c_w4
  replace hok9 := hok9 w hsl
  have hcl_o5 := (chunksL_len n l hn (by omega)).1
  refine s_val rfl rfl (r_move) rfl ?_
  refine s_val rfl rfl (r_extract rfl rfl) rfl ?_
  refine s_val rfl rfl (r_extract rfl rfl) rfl ?_
  refine s_val rfl rfl (r_assign) rfl ?_
  refine s_val rfl rfl (r_assign) rfl ?_
  refine s_end ?_
  refine go_seq ?_
  refine go_seq ?_
  refine go_region 2 rfl rfl ?_
  refine s_val rfl rfl (r_move) rfl ?_
  refine s_val rfl rfl (r_neq rfl rfl) rfl ?_
  refine s_end ?_
  refine go_ifb _ rfl (fun h10 => ?_) (fun h10 => ?_)
  · first | replace h10 := of_decide_eq_true h10 | replace h10 := of_decide_eq_false (nt h10) | skip
    exfalso
    omega
  · first | replace h10 := of_decide_eq_false h10 | replace h10 := of_decide_eq_true (nf h10) | skip
    refine go_skip ?_
    refine go_seq ?_
    refine go_seq ?_
    refine go_region 8 rfl rfl ?_
    refine s_val rfl rfl (r_move) rfl ?_
    refine s_val rfl rfl (r_lss rfl rfl) rfl ?_
    refine s_valB rfl rfl (r_move) rfl (fun h11 => ?_) (fun h11 => ?_)
    · first | replace h11 := of_decide_eq_true h11 | replace h11 := of_decide_eq_false (nt h11) | skip
      refine s_val_not rfl rfl ?_
      refine s_val_not rfl rfl ?_
      refine s_val_not rfl rfl ?_
      refine s_val_not rfl rfl ?_
      refine s_val rfl rfl (r_pick true rfl) rfl ?_
      refine s_end ?_
      refine go_true rfl ?_
      refine go_seq ?_
      refine go_region 4 rfl rfl ?_
      refine s_val rfl rfl (r_buildP (cells := ([i64 0] ++ ([i64 0] ++ ([.slice none 0 0])))) (by kernel_rfl)) rfl ?_
      refine s_val rfl rfl (r_assign) rfl ?_
      refine s_do rfl rfl (w_storeA (o := 0) Try.sizeOf31 rfl rfl rfl (flat_cons rfl (flat_cons rfl (flat_one rfl))) p3 rfl) rfl ?_
      rintro _ w12 ⟨q_w12, c_w12⟩
      have hs_w12 : w4.heap.size ≤ w12.heap.size := Chg.size c_w12
      replace o5 := o5.kb c_w12 (Owns.ne_lt o5 (by omega))
      have C_w12 := Chg.newRng C_w4 c_w12 (by omega)
      have p3 := q_w12
      refine s_val rfl rfl (r_assign) rfl ?_
      refine s_end ?_
      refine go_ret ?_
      refine ⟨_, .cons rfl (.cons ⟨_, rfl, run_load_agg Try.isAgg31 Try.sizeOf31 rfl p3.rd⟩ (.cons rfl (.nil))), ?_⟩
      exact ⟨rfl, C_w12⟩
    · first | replace h11 := of_decide_eq_false h11 | replace h11 := of_decide_eq_true (nf h11) | skip
      refine s_val_g rfl rfl (r_move) rfl ?_
      refine s_val_g rfl rfl (r_move) rfl ?_
      refine s_val_g rfl rfl (r_len Try.runUnderlying37 rfl) rfl ?_
      refine s_val_g rfl rfl (r_geq rfl rfl) rfl ?_
      refine s_val rfl rfl (r_pick false rfl) rfl ?_
      refine s_end ?_
      refine go_ifb _ rfl (fun h13 => ?_) (fun h13 => ?_)
      · first | replace h13 := of_decide_eq_true h13 | replace h13 := of_decide_eq_false (nt h13) | skip
        refine go_seq ?_
        refine go_region 4 rfl rfl ?_
        refine s_val rfl rfl (r_buildP (cells := ([i64 0] ++ ([i64 0] ++ ([.slice none 0 0])))) (by kernel_rfl)) rfl ?_
        refine s_val rfl rfl (r_assign) rfl ?_
        refine s_do rfl rfl (w_storeA (o := 0) Try.sizeOf31 rfl rfl rfl (flat_cons rfl (flat_cons rfl (flat_one rfl))) p3 rfl) rfl ?_
        rintro _ w14 ⟨q_w14, c_w14⟩
        have hs_w14 : w4.heap.size ≤ w14.heap.size := Chg.size c_w14
        replace o5 := o5.kb c_w14 (Owns.ne_lt o5 (by omega))
        have C_w14 := Chg.newRng C_w4 c_w14 (by omega)
        have p3 := q_w14
        refine s_val rfl rfl (r_assign) rfl ?_
        refine s_end ?_
        refine go_ret ?_
        refine ⟨_, .cons rfl (.cons ⟨_, rfl, run_load_agg Try.isAgg31 Try.sizeOf31 rfl p3.rd⟩ (.cons rfl (.nil))), ?_⟩
        exact ⟨rfl, C_w14⟩
      · first | replace h13 := of_decide_eq_false h13 | replace h13 := of_decide_eq_true (nf h13) | skip
        exfalso
        omega

set_option maxHeartbeats 2000000 in
theorem chunkO_spec (k : Int) (l : List UInt8) (a : Option Addr) (n c : Nat) (w : World) (hn : l.length = n) (h0 : 0 < n) (hbig : n ≤ 1048576) (hc : n ≤ c) (hsl : SlAt w a (bs l)) (hk0 : 0 ≤ k) (hk : k < ((chunksL l).length : Int)) :
    Rtn Try.prog 6 [Value.slice a n c, i64 k].toArray w (fun v w' => ∃ a1 c1 n1 a2 c2 n2, v = tup [Value.slice a1 n1 c1, .agg ([i64 k] ++ ([i64 ((chunksL l).length : Nat)] ++ [Value.slice a2 n2 c2])).toArray, i64 0] ∧ n1 ≤ c1 ∧ n2 ≤ c2 ∧ ((chunksL l).getD k.toNat []).length = n1 ∧ 0 < n1 ∧ n1 ≤ 1024 ∧ SlAt w' a1 (bs ((chunksL l).getD k.toNat [])) ∧ (pathH (hashB 2) ((chunksL l).map (hashB 1)) k.toNat).length = n2 ∧ SlAt w' a2 (bs (pathH (hashB 2) ((chunksL l).map (hashB 1)) k.toNat).flatten) ∧ Kept w w') := by
  refine fn_body (l := [Value.slice a n c, i64 k]) 45 [.tmp 4, .cell 5 31, .tmp 6] Try.func6 rfl Try.ntmps6 (Nat.le_of_ble_eq_true rfl) (by rw [Try.results6]) ?_
  refine go_seq ?_
  refine go_region 3 rfl rfl ?_
  refine s_val rfl rfl (r_assign) rfl ?_
  refine s_do rfl rfl (w_alloc ([i64 0] ++ ([i64 0] ++ ([.slice none 0 0]))) Try.zeroValue31 (by kernel_rfl)) rfl ?_
  rintro _ w1 ⟨b2, rfl, hl_b2, hu_b2, p3, c_w1⟩
  have hs_w1 : w.heap.size ≤ w1.heap.size := Chg.size c_w1
  have C_w1 := Chg.pure (Chg.refl no w) c_w1
  have hn_b2 : w.heap.size ≤ b2 := by have := Chg.size C_w1; omega
  refine s_val rfl rfl (r_assign) rfl ?_
  refine s_end ?_
  refine go_seq ?_
  refine go_region 7 rfl rfl ?_
  refine s_val rfl rfl (r_move) rfl ?_
  refine s_do rfl rfl (w_call Try.call27 rfl (chunksB_spec l _ n _ _ hn (by omega) (by omega) (by omega) (hsl.k C_w1))) rfl ?_
  rintro _ w4 ⟨A6, cap7, vs8, rfl, hc_cap7, o5, hok9, c_w4⟩
  have hs_w4 : w1.heap.size ≤ w4.heap.size := Chg.size c_w4
  replace p3 := p3.k c_w4
  have C_w4 := Chg.pure C_w1 c_w4
  replace hok9 := hok9 w hsl
  have hcl_o5 := (chunksL_len n l hn (by omega)).1
  refine s_val rfl rfl (r_move) rfl ?_
  refine s_val rfl rfl (r_extract rfl rfl) rfl ?_
  refine s_val rfl rfl (r_extract rfl rfl) rfl ?_
  refine s_val rfl rfl (r_assign) rfl ?_
  refine s_val rfl rfl (r_assign) rfl ?_
  refine s_end ?_
  refine go_seq ?_
  refine go_seq ?_
  refine go_region 2 rfl rfl ?_
  refine s_val rfl rfl (r_move) rfl ?_
  refine s_val rfl rfl (r_neq rfl rfl) rfl ?_
  refine s_end ?_
  refine go_ifb _ rfl (fun h10 => ?_) (fun h10 => ?_)
  · first | replace h10 := of_decide_eq_true h10 | replace h10 := of_decide_eq_false (nt h10) | skip
    exfalso
    omega
  · first | replace h10 := of_decide_eq_false h10 | replace h10 := of_decide_eq_true (nf h10) | skip
    refine go_skip ?_
    refine go_seq ?_
    refine go_seq ?_
    refine go_region 8 rfl rfl ?_
    refine s_val rfl rfl (r_move) rfl ?_
    refine s_val rfl rfl (r_lss rfl rfl) rfl ?_
    refine s_valB rfl rfl (r_move) rfl (fun h11 => ?_) (fun h11 => ?_)
    · first | replace h11 := of_decide_eq_true h11 | replace h11 := of_decide_eq_false (nt h11) | skip
      exfalso
      omega
    · first | replace h11 := of_decide_eq_false h11 | replace h11 := of_decide_eq_true (nf h11) | skip
      refine s_val_g rfl rfl (r_move) rfl ?_
      refine s_val_g rfl rfl (r_move) rfl ?_
      refine s_val_g rfl rfl (r_len Try.runUnderlying37 rfl) rfl ?_
      refine s_val_g rfl rfl (r_geq rfl rfl) rfl ?_
      refine s_val rfl rfl (r_pick false rfl) rfl ?_
      refine s_end ?_
      refine go_ifb _ rfl (fun h12 => ?_) (fun h12 => ?_)
      · first | replace h12 := of_decide_eq_true h12 | replace h12 := of_decide_eq_false (nt h12) | skip
        exfalso
        omega
      · first | replace h12 := of_decide_eq_false h12 | replace h12 := of_decide_eq_true (nf h12) | skip
        obtain ⟨ak, nk, ck, hvk, hlk, h0k, hck, hak⟩ := hok9.2 k.toNat (by omega)
        have hlb := chunksL_small hn (by omega) k.toNat
        refine go_skip ?_
        refine go_seq ?_
        refine go_region 10 rfl rfl ?_
        refine s_val rfl rfl (r_move) rfl ?_
        refine s_do rfl rfl (w_call Try.call29 rfl (leaves_spec (chunksL l) vs8 _ _ _ _ hok9.1.symm (by omega) (by omega) (fun k => by have := chunksL_small hn (by omega) k; omega) (Owns.sl o5) (hok9.k C_w4))) rfl ?_
        rintro _ w13 ⟨A15, cap16, rfl, hc_cap16, o14, c_w13⟩
        have hs_w13 : w4.heap.size ≤ w13.heap.size := Chg.size c_w13
        replace p3 := p3.k c_w13
        replace o5 := o5.k c_w13
        have C_w13 := Chg.pure C_w4 c_w13
        refine s_val rfl rfl (r_move) rfl ?_
        refine s_do rfl rfl (w_call Try.call30 rfl (prove_spec ((chunksL l).map (hashB 1)) _ _ _ _ _ (by first | omega | (simp; done) | (simp; omega)) (by omega) (by omega) (by omega) (map32 (hashB_length 1) _) (Owns.sl o14) (by omega) (by omega))) rfl ?_
        rintro _ w17 ⟨A19, cap20, rfl, hc_cap20, o18, c_w17⟩
        have hs_w17 : w13.heap.size ≤ w17.heap.size := Chg.size c_w17
        replace p3 := p3.k c_w17
        replace o5 := o5.k c_w17
        replace o14 := o14.k c_w17
        have C_w17 := Chg.pure C_w13 c_w17
        refine s_val rfl rfl (r_move) rfl ?_
        refine s_val rfl rfl (r_extract rfl rfl) rfl ?_
        refine s_val rfl rfl (r_extract rfl rfl) rfl ?_
        refine s_do rfl rfl (w_alloc ([i64 0] ++ ([i64 0] ++ ([.slice none 0 0]))) Try.zeroValue31 (by kernel_rfl)) rfl ?_
        rintro _ w21 ⟨b22, rfl, hl_b22, hu_b22, p23, c_w21⟩
        have ne_b22_o5 := Owns.ne_ge o5 hl_b22
        have ne_b22_o14 := Owns.ne_ge o14 hl_b22
        have ne_b22_o18 := Owns.ne_ge o18 hl_b22
        have hs_w21 : w17.heap.size ≤ w21.heap.size := Chg.size c_w21
        replace p3 := p3.k c_w21
        replace o5 := o5.k c_w21
        replace o14 := o14.k c_w21
        replace o18 := o18.k c_w21
        have C_w21 := Chg.pure C_w17 c_w21
        have hn_b22 : w.heap.size ≤ b22 := by have := Chg.size C_w21; omega
        refine s_do rfl rfl (w_storeA (o := 0) Try.sizeOf31 rfl rfl rfl (flat_cons rfl (flat_cons rfl (flat_one rfl))) p23 rfl) rfl ?_
        rintro _ w24 ⟨q_w24, c_w24⟩
        have hs_w24 : w21.heap.size ≤ w24.heap.size := Chg.size c_w24
        replace p3 := p3.kb c_w24 (by omega)
        replace o5 := o5.kb c_w24 ne_b22_o5
        replace o14 := o14.kb c_w24 ne_b22_o14
        replace o18 := o18.kb c_w24 ne_b22_o18
        have C_w24 := Chg.newRng C_w21 c_w24 (by omega)
        have p23 := q_w24
        refine s_val rfl rfl (r_assign) rfl ?_
        refine s_end ?_
        refine go_seq ?_
        refine go_seq ?_
        refine go_region 2 rfl rfl ?_
        refine s_val rfl rfl (r_move) rfl ?_
        refine s_val rfl rfl (r_neq rfl rfl) rfl ?_
        refine s_end ?_
        refine go_ifb _ rfl (fun h25 => ?_) (fun h25 => ?_)
        · first | replace h25 := of_decide_eq_true h25 | replace h25 := of_decide_eq_false (nt h25) | skip
          exfalso
          omega
        · first | replace h25 := of_decide_eq_false h25 | replace h25 := of_decide_eq_true (nf h25) | skip
          refine go_skip ?_
          refine go_seq ?_
          refine go_drawsK 7 (.take 0 (.take 1 (.take 2 (.take 3 (.take 5 (.eff 4 (.take 6 (.eff 7 (.eff 8 .done))))))))) (by kernel_rfl) (by kernel_rfl) fun w26 c_w26 => ?_
          have hs_w26 : w24.heap.size ≤ w26.heap.size := Chg.size c_w26
          replace p3 := p3.k c_w26
          replace o5 := o5.k c_w26
          replace o14 := o14.k c_w26
          replace o18 := o18.k c_w26
          replace p23 := p23.k c_w26
          have C_w26 := Chg.pure C_w24 c_w26
          have p3_0 := p3
          have o5_0 := o5
          have o14_0 := o14
          have o18_0 := o18
          have p23_0 := p23
          refine s_takeK rfl rfl (w0 := w26) (fun x_ c_ => r_move) ?_
          refine s_takeK rfl rfl (w0 := w26) (fun x_ c_ => r_move) ?_
          refine s_takeK rfl rfl (w0 := w26) (fun x_ c_ => r_indexSl (k := k.toNat) Try.runUnderlying37 Try.sizeOf22 rfl (Owns.sl (o5_0.k c_)) (by intro h_; have h2_ := hok9.1; rw [h_, List.length_nil] at h2_; omega) rfl (by first | rfl | omega) (by omega)) ?_
          refine s_takeK rfl rfl (w0 := w26) (fun x_ c_ => r_loadSl1 Try.isAgg22 rfl (Owns.sl (o5_0.k c_)) hvk) ?_
          refine s_takeK rfl rfl (w0 := w26) (fun x_ c_ => r_loadN Try.isAgg31 Try.sizeOf31 rfl (p23_0.k c_).rd rfl) ?_
          refine s_fxK rfl rfl (w_call Try.call18 rfl (clone_spec ((chunksL l).getD k.toNat []) _ _ _ _ (by first | omega | (simp; done) | (simp; omega)) (by first | omega | (simp; done) | (simp; omega)) (by first | omega | (simp; done) | (simp; omega)) (hak.k C_w26))) ?_
          rintro v29 w27 ⟨o28, c_w27⟩
          have hs_w27 : w26.heap.size ≤ w27.heap.size := Chg.size c_w27
          replace p3 := p3.k c_w27
          replace o5 := o5.k c_w27
          replace o14 := o14.k c_w27
          replace o18 := o18.k c_w27
          replace p23 := p23.k c_w27
          have C_w27 := Chg.pure C_w26 c_w27
          have hfo_o28 := Owns.form2 o28
          obtain ⟨A30, cap31, e_o28, hc_cap31⟩ := hfo_o28
          subst e_o28
          have K_w27 := Chg.pure (Chg.refl no w26) c_w27
          refine ⟨K_w27, ?_⟩
          refine s_takeK rfl rfl (w0 := w26) (fun x_ c_ => r_assign) ?_
          refine s_do rfl rfl (w_storeA (o := 0) Try.sizeOf31 rfl rfl rfl (flat_cons rfl (flat_cons rfl (flat_one rfl))) p3 rfl) rfl ?_
          rintro _ w32 ⟨q_w32, c_w32⟩
          have hs_w32 : w27.heap.size ≤ w32.heap.size := Chg.size c_w32
          replace o5 := o5.kb c_w32 (Owns.ne_lt o5 (by omega))
          replace o14 := o14.kb c_w32 (Owns.ne_lt o14 (by omega))
          replace o18 := o18.kb c_w32 (Owns.ne_lt o18 (by omega))
          replace p23 := p23.kb c_w32 (by omega)
          replace o28 := o28.kb c_w32 (Owns.ne_lt o28 (by omega))
          have C_w32 := Chg.newRng C_w27 c_w32 (by omega)
          have p3 := q_w32
          refine s_val rfl rfl (r_assign) rfl ?_
          refine s_end ?_
          refine go_ret ?_
          refine ⟨_, .cons rfl (.cons ⟨_, rfl, run_load_agg Try.isAgg31 Try.sizeOf31 rfl p3.rd⟩ (.cons rfl (.nil))), ?_⟩
          exact ⟨_, _, _, _, _, _, rfl, hc_cap31, hc_cap20, hlk, h0k, by omega, Owns.sl o28, rfl, Owns.sl o18, C_w32⟩

theorem vaults_spec (w : World) :
    Rtn Try.prog 9 [].toArray w (fun v w' => v = .bool true ∧ Kept w w') := by
  have hcl := (chunksL_len 1025 (List.replicate 1025 0) List.length_replicate (by decide)).1
  have hr_ := rootH_len (hashB_length 2) (map32 (hashB_length 1) (chunksL (List.replicate 1025 0))) (by rw [List.length_map]; omega)
  refine fn_body (l := []) 16 [.tmp 0] Try.func9 rfl Try.ntmps9 (Nat.le_of_ble_eq_true rfl) (by rw [Try.results9]) ?_
  refine go_seq ?_
  refine go_region 1 rfl rfl ?_
  refine s_val rfl rfl (r_assign) rfl ?_
  refine s_end ?_
  refine go_seq ?_
  refine go_region 10 rfl rfl ?_
  refine s_do rfl rfl (w_make (n := 1025) (c := 1025) (E := 5) Try.underlying22 (i := Try.t5) (by kernel_rfl) rfl rfl rfl rfl rfl (by first | rfl | omega) (by first | rfl | omega) (by omega) (by first | decide | (show _ * 1 ≤ _; omega) | (show _ * 8 ≤ _; omega)) (by omega)) rfl ?_
  rintro _ w1 ⟨b2, rfl, hl_b2, hu_b2, o4, p3, c_w1⟩
  have hs_w1 : w.heap.size ≤ w1.heap.size := Chg.size c_w1
  have C_w1 := Chg.pure (Chg.refl no w) c_w1
  have hn_b2 : w.heap.size ≤ b2 := by have := Chg.size C_w1; omega
  replace p3 : Pc w1 b2 0 (bs (List.replicate 1025 0)) := by rw [bs_rep]; exact p3
  refine s_do rfl rfl (w_call Try.call5 rfl (rootOf_spec (List.replicate 1025 0) _ _ _ _ (by first | exact List.length_replicate | omega) (by omega) (by omega) (by omega) (SlAt.some p3.rd))) rfl ?_
  rintro _ w5 ⟨rfl, c_w5⟩
  have hs_w5 : w1.heap.size ≤ w5.heap.size := Chg.size c_w5
  replace p3 := p3.k c_w5
  have C_w5 := Chg.pure C_w1 c_w5
  refine s_val rfl rfl (r_move) rfl ?_
  refine s_val rfl rfl (r_extract rfl rfl) rfl ?_
  refine s_val rfl rfl (r_extract rfl rfl) rfl ?_
  refine s_val rfl rfl (r_extract rfl rfl) rfl ?_
  refine s_do rfl rfl (w_alloc (bs (List.replicate 32 0)) Try.zeroValue25 (by kernel_rfl)) rfl ?_
  rintro _ w6 ⟨b7, rfl, hl_b7, hu_b7, p8, c_w6⟩
  have hs_w6 : w5.heap.size ≤ w6.heap.size := Chg.size c_w6
  replace p3 := p3.k c_w6
  have C_w6 := Chg.pure C_w5 c_w6
  have hn_b7 : w.heap.size ≤ b7 := by have := Chg.size C_w6; omega
  refine s_do rfl rfl (w_storeA (o := 0) Try.sizeOf25 rfl rfl (by first | exact bs_len (by omega) | exact bs_len (by simp; done) | exact bs_len (by simp; omega)) (flat_bs _) p8 (by first | exact bs_len (by omega) | exact bs_len (by simp; done) | exact bs_len (by simp; omega))) rfl ?_
  rintro _ w9 ⟨q_w9, c_w9⟩
  have hs_w9 : w6.heap.size ≤ w9.heap.size := Chg.size c_w9
  replace p3 := p3.kb c_w9 (by omega)
  have C_w9 := Chg.newRng C_w6 c_w9 (by omega)
  have p8 := q_w9
  refine s_val rfl rfl (r_assign) rfl ?_
  refine s_val rfl rfl (r_assign) rfl ?_
  refine s_end ?_
  refine go_seq ?_
  refine go_region 7 rfl rfl ?_
  refine s_val rfl rfl (r_move) rfl ?_
  refine s_val rfl rfl (r_eql rfl rfl) rfl ?_
  refine s_valB rfl rfl (r_move) rfl (fun h10 => ?_) (fun h10 => ?_)
  · first | replace h10 := of_decide_eq_true h10 | replace h10 := of_decide_eq_false (nt h10) | skip
    have h1 := h10
    refine s_val_g rfl rfl (r_move) rfl ?_
    refine s_val_g rfl rfl (r_eql rfl rfl) rfl ?_
    refine s_val rfl rfl (r_pick true rfl) rfl ?_
    refine s_val rfl rfl (r_assign) rfl ?_
    refine s_end ?_
    refine go_ret ?_
    refine ⟨_, .cons rfl (.nil), ?_⟩
    exact ⟨congrArg Value.bool (decide_eq_true (by omega)), C_w9⟩
  · first | replace h10 := of_decide_eq_false h10 | replace h10 := of_decide_eq_true (nf h10) | skip
    exfalso
    omega

end Go.Proofs.Ytdnccchcflaphaa
