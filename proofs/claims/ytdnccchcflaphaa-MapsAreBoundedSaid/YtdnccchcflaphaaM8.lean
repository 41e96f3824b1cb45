/- M8: contracts of functions of the program: called in any world that meets a contract's premises, the function returns what the contract says and changes no more than it says. -/
import Derived.Test.YtdnccchcflaphaaM7
import Derived.Test.YtdnccchcflaphaaEng8
import Derived.Test.YtdnccchcflaphaaEng9
import Derived.Test.YtdnccchcflaphaaChecked
open Go Go.Eng Go.Proofs
namespace Go.Proofs.Ytdnccchcflaphaa
set_option maxHeartbeats 2000000 in
theorem nodeB_spec (x y : List UInt8) (w : World) (hx : x.length = 32) (hy : y.length = 32) :
    Rtn Try.prog 52 [.agg (bs x).toArray, .agg (bs y).toArray].toArray w (fun v w' => v = .agg (bs (hashB 2 (x ++ y))).toArray ∧ Kept w w') := by
  refine fn_body (l := [.agg (bs x).toArray, .agg (bs y).toArray]) 16 [.cell 4 25] Try.func52 rfl Try.ntmps52 (Nat.le_of_ble_eq_true rfl) (by rw [Try.results52]) ?_
  refine go_seq ?_
  refine go_region 3 rfl rfl ?_
  refine s_do rfl rfl (w_boxA rfl) rfl ?_
  rintro _ w1 ⟨b2, rfl, hl_b2, hu_b2, p3, c_w1⟩
  have hs_w1 : w.heap.size ≤ w1.heap.size := Chg.size c_w1
  have C_w1 := Chg.pure (Chg.refl no w) c_w1
  have hn_b2 : w.heap.size ≤ b2 := by have := Chg.size C_w1; omega
  refine s_do rfl rfl (w_boxA rfl) rfl ?_
  rintro _ w4 ⟨b5, rfl, hl_b5, hu_b5, p6, c_w4⟩
  have hs_w4 : w1.heap.size ≤ w4.heap.size := Chg.size c_w4
  replace p3 := p3.k c_w4
  have C_w4 := Chg.pure C_w1 c_w4
  have hn_b5 : w.heap.size ≤ b5 := by have := Chg.size C_w4; omega
  refine s_do rfl rfl (w_alloc (bs (List.replicate 32 0)) Try.zeroValue25 (by kernel_rfl)) rfl ?_
  rintro _ w7 ⟨b8, rfl, hl_b8, hu_b8, p9, c_w7⟩
  have hs_w7 : w4.heap.size ≤ w7.heap.size := Chg.size c_w7
  replace p3 := p3.k c_w7
  replace p6 := p6.k c_w7
  have C_w7 := Chg.pure C_w4 c_w7
  have hn_b8 : w.heap.size ≤ b8 := by have := Chg.size C_w7; omega
  refine s_end ?_
  refine go_seq ?_
  refine go_drawsK 10 (.take 0 (.take 1 (.alts (.eff 2 (.alts (.eff 3 (.alts (.eff 4 (.take 5 (.take 6 (.take 7 (.eff 8 (.eff 9 (.eff 10 .done))))))) (.eff 8 (.eff 4 (.take 5 (.take 6 (.take 7 (.eff 9 (.eff 10 .done))))))))) (.eff 8 (.eff 3 (.eff 4 (.take 5 (.take 6 (.take 7 (.eff 9 (.eff 10 .done)))))))))) (.eff 8 (.eff 2 (.eff 3 (.eff 4 (.take 5 (.take 6 (.take 7 (.eff 9 (.eff 10 .done)))))))))))) (by kernel_rfl) (by kernel_rfl) fun w10 c_w10 => ?_
  have hs_w10 : w7.heap.size ≤ w10.heap.size := Chg.size c_w10
  replace p3 := p3.k c_w10
  replace p6 := p6.k c_w10
  replace p9 := p9.k c_w10
  have C_w10 := Chg.pure C_w7 c_w10
  have p3_0 := p3
  have p6_0 := p6
  have p9_0 := p9
  refine s_takeK rfl rfl (w0 := w10) (fun x_ c_ => r_sliceA (l := 0) (h := 32) (m := 32) Try.runUnderlying25 Try.sizeOf5 rfl rfl rfl rfl (by first | decide | (intro h_; cases h_)) (by first | decide | omega) (by first | decide | omega | (intro _; omega)) (by first | decide | omega) (by first | decide | omega)) ?_
  refine s_takeK rfl rfl (w0 := w10) (fun x_ c_ => r_sliceA (l := 0) (h := 32) (m := 32) Try.runUnderlying25 Try.sizeOf5 rfl rfl rfl rfl (by first | decide | (intro h_; cases h_)) (by first | decide | omega) (by first | decide | omega | (intro _; omega)) (by first | decide | omega) (by first | decide | omega)) ?_
  refine s_alts ?_ ?_
  ·
    refine s_fxK rfl rfl (w_build2 (E := 22) Try.underlying37 (i := Try.t22) (by kernel_rfl) rfl rfl rfl rfl rfl rfl rfl) ?_
    rintro _ w11 ⟨b12, rfl, hl_b12, hu_b12, o14, p13, c_w11⟩
    have hs_w11 : w10.heap.size ≤ w11.heap.size := Chg.size c_w11
    replace p3 := p3.k c_w11
    replace p6 := p6.k c_w11
    replace p9 := p9.k c_w11
    have C_w11 := Chg.pure C_w10 c_w11
    have hn_b12 : w.heap.size ≤ b12 := by have := Chg.size C_w11; omega
    have K_w11 := Chg.pure (Chg.refl no w10) c_w11
    refine ⟨K_w11, ?_⟩
    refine s_alts ?_ ?_
    ·
      refine s_fxK rfl rfl (w_call Try.call65 rfl (concat_spec [x, y] [_, _] _ _ _ _ rfl (by decide) (by decide) (by simp; omega) (by simp; omega) (SlAt.some p13.rd) (SlsOk.two (by first | omega | (simp; done) | (simp; omega)) (by first | omega | (simp; done) | (simp; omega)) (by first | omega | (simp; done) | (simp; omega)) (SlAt.some p3.rd) (by first | omega | (simp; done) | (simp; omega)) (by first | omega | (simp; done) | (simp; omega)) (by first | omega | (simp; done) | (simp; omega)) (SlAt.some p6.rd)))) ?_
      rintro _ w15 ⟨A17, cap18, rfl, hc_cap18, o16, c_w15⟩
      have hs_w15 : w11.heap.size ≤ w15.heap.size := Chg.size c_w15
      replace p3 := p3.k c_w15
      replace p6 := p6.k c_w15
      replace p9 := p9.k c_w15
      replace p13 := p13.k c_w15
      have C_w15 := Chg.pure C_w11 c_w15
      have hl_o16 : [x, y].flatten.length ≤ 1048576 := by simp; omega
      have hg_o16 : 0 < [x, y].flatten.length := by simp; omega
      have K_w15 := Chg.pure K_w11 c_w15
      refine ⟨K_w15, ?_⟩
      refine s_alts ?_ ?_
      ·
        refine s_fxK rfl rfl (w_call Try.call48 rfl (sumOf_spec (2) [x, y].flatten _ _ _ _ (by omega) (by omega) (by first | omega | (simp; done) | (simp; omega)) (by first | omega | (simp; done) | (simp; omega)) (by first | omega | (simp; done) | (simp; omega)) (by first | omega | (simp; done) | (simp; omega)) (Owns.sl o16))) ?_
        rintro _ w19 ⟨rfl, c_w19⟩
        have hs_w19 : w15.heap.size ≤ w19.heap.size := Chg.size c_w19
        replace p3 := p3.k c_w19
        replace p6 := p6.k c_w19
        replace p9 := p9.k c_w19
        replace p13 := p13.k c_w19
        replace o16 := o16.k c_w19
        have C_w19 := Chg.pure C_w15 c_w19
        have K_w19 := Chg.pure K_w15 c_w19
        refine ⟨K_w19, ?_⟩
        refine s_takeK rfl rfl (w0 := w10) (fun x_ c_ => r_move) ?_
        refine s_takeK rfl rfl (w0 := w10) (fun x_ c_ => r_extract rfl rfl) ?_
        refine s_takeK rfl rfl (w0 := w10) (fun x_ c_ => r_extract rfl rfl) ?_
        refine s_fxK rfl rfl (w_alloc (bs (List.replicate 32 0)) Try.zeroValue25 (by kernel_rfl)) ?_
        rintro _ w20 ⟨b21, rfl, hl_b21, hu_b21, p22, c_w20⟩
        have ne_b21_o16 := Owns.ne_ge o16 hl_b21
        have hs_w20 : w19.heap.size ≤ w20.heap.size := Chg.size c_w20
        replace p3 := p3.k c_w20
        replace p6 := p6.k c_w20
        replace p9 := p9.k c_w20
        replace p13 := p13.k c_w20
        replace o16 := o16.k c_w20
        have C_w20 := Chg.pure C_w19 c_w20
        have hn_b21 : w.heap.size ≤ b21 := by have := Chg.size C_w20; omega
        have K_w20 := Chg.pure K_w19 c_w20
        refine ⟨K_w20, ?_⟩
        refine s_fxK rfl rfl (w_storeA (o := 0) Try.sizeOf25 rfl rfl (by first | exact bs_len (by omega) | exact bs_len (by simp; done) | exact bs_len (by simp; omega)) (flat_bs _) p22 (by first | exact bs_len (by omega) | exact bs_len (by simp; done) | exact bs_len (by simp; omega))) ?_
        rintro _ w23 ⟨q_w23, c_w23⟩
        have hs_w23 : w20.heap.size ≤ w23.heap.size := Chg.size c_w23
        replace p3 := p3.kb c_w23 (by omega)
        replace p6 := p6.kb c_w23 (by omega)
        replace p9 := p9.kb c_w23 (by omega)
        replace p13 := p13.kb c_w23 (by omega)
        replace o16 := o16.kb c_w23 ne_b21_o16
        have C_w23 := Chg.newRng C_w20 c_w23 (by omega)
        have p22 := q_w23
        have K_w23 := Chg.newRng K_w20 c_w23 (by omega)
        refine ⟨K_w23, ?_⟩
        refine s_val rfl rfl (r_assign) rfl ?_
        refine s_end ?_
        refine go_seq ?_
        refine go_region 2 rfl rfl ?_
        refine s_val rfl rfl (r_loadN Try.isAgg25 Try.sizeOf25 rfl p22.rd (by first | exact bs_len (by omega) | exact bs_len (by simp; done) | exact bs_len (by simp; omega))) rfl ?_
        refine s_do rfl rfl (w_storeA (o := 0) Try.sizeOf25 rfl rfl (by first | exact bs_len (by omega) | exact bs_len (by simp; done) | exact bs_len (by simp; omega)) (flat_bs _) p9 (by first | exact bs_len (by omega) | exact bs_len (by simp; done) | exact bs_len (by simp; omega))) rfl ?_
        rintro _ w24 ⟨q_w24, c_w24⟩
        have hs_w24 : w23.heap.size ≤ w24.heap.size := Chg.size c_w24
        replace p3 := p3.kb c_w24 (by omega)
        replace p6 := p6.kb c_w24 (by omega)
        replace p13 := p13.kb c_w24 (by omega)
        replace o16 := o16.kb c_w24 (Owns.ne_lt o16 (by omega))
        replace p22 := p22.kb c_w24 (by omega)
        have C_w24 := Chg.newRng C_w23 c_w24 (by omega)
        have p9 := q_w24
        refine s_end ?_
        refine go_ret ?_
        refine ⟨_, .cons ⟨_, rfl, run_load_agg Try.isAgg25 Try.sizeOf25 (by first | exact bs_len (by omega) | exact bs_len (by simp; done) | exact bs_len (by simp; omega)) p9.rd⟩ (.nil), ?_⟩
        have e_ : [x, y].flatten = x ++ y := by simp
        exact ⟨congrArg (fun x => Value.agg (bs x).toArray) (congrArg (hashB 2) e_), C_w24⟩
      ·
        refine s_fxK rfl rfl (w_alloc (bs (List.replicate 32 0)) Try.zeroValue25 (by kernel_rfl)) ?_
        rintro _ w25 ⟨b26, rfl, hl_b26, hu_b26, p27, c_w25⟩
        have ne_b26_o16 := Owns.ne_ge o16 hl_b26
        have hs_w25 : w15.heap.size ≤ w25.heap.size := Chg.size c_w25
        replace p3 := p3.k c_w25
        replace p6 := p6.k c_w25
        replace p9 := p9.k c_w25
        replace p13 := p13.k c_w25
        replace o16 := o16.k c_w25
        have C_w25 := Chg.pure C_w15 c_w25
        have hn_b26 : w.heap.size ≤ b26 := by have := Chg.size C_w25; omega
        have K_w25 := Chg.pure K_w15 c_w25
        refine ⟨K_w25, ?_⟩
        refine s_fxK rfl rfl (w_call Try.call48 rfl (sumOf_spec (2) [x, y].flatten _ _ _ _ (by omega) (by omega) (by first | omega | (simp; done) | (simp; omega)) (by first | omega | (simp; done) | (simp; omega)) (by first | omega | (simp; done) | (simp; omega)) (by first | omega | (simp; done) | (simp; omega)) (Owns.sl o16))) ?_
        rintro _ w28 ⟨rfl, c_w28⟩
        have hs_w28 : w25.heap.size ≤ w28.heap.size := Chg.size c_w28
        replace p3 := p3.k c_w28
        replace p6 := p6.k c_w28
        replace p9 := p9.k c_w28
        replace p13 := p13.k c_w28
        replace o16 := o16.k c_w28
        replace p27 := p27.k c_w28
        have C_w28 := Chg.pure C_w25 c_w28
        have K_w28 := Chg.pure K_w25 c_w28
        refine ⟨K_w28, ?_⟩
        refine s_takeK rfl rfl (w0 := w10) (fun x_ c_ => r_move) ?_
        refine s_takeK rfl rfl (w0 := w10) (fun x_ c_ => r_extract rfl rfl) ?_
        refine s_takeK rfl rfl (w0 := w10) (fun x_ c_ => r_extract rfl rfl) ?_
        refine s_fxK rfl rfl (w_storeA (o := 0) Try.sizeOf25 rfl rfl (by first | exact bs_len (by omega) | exact bs_len (by simp; done) | exact bs_len (by simp; omega)) (flat_bs _) p27 (by first | exact bs_len (by omega) | exact bs_len (by simp; done) | exact bs_len (by simp; omega))) ?_
        rintro _ w29 ⟨q_w29, c_w29⟩
        have hs_w29 : w28.heap.size ≤ w29.heap.size := Chg.size c_w29
        replace p3 := p3.kb c_w29 (by omega)
        replace p6 := p6.kb c_w29 (by omega)
        replace p9 := p9.kb c_w29 (by omega)
        replace p13 := p13.kb c_w29 (by omega)
        replace o16 := o16.kb c_w29 ne_b26_o16
        have C_w29 := Chg.newRng C_w28 c_w29 (by omega)
        have p27 := q_w29
        have K_w29 := Chg.newRng K_w28 c_w29 (by omega)
        refine ⟨K_w29, ?_⟩
        refine s_val rfl rfl (r_assign) rfl ?_
        refine s_end ?_
        refine go_seq ?_
        refine go_region 2 rfl rfl ?_
        refine s_val rfl rfl (r_loadN Try.isAgg25 Try.sizeOf25 rfl p27.rd (by first | exact bs_len (by omega) | exact bs_len (by simp; done) | exact bs_len (by simp; omega))) rfl ?_
        refine s_do rfl rfl (w_storeA (o := 0) Try.sizeOf25 rfl rfl (by first | exact bs_len (by omega) | exact bs_len (by simp; done) | exact bs_len (by simp; omega)) (flat_bs _) p9 (by first | exact bs_len (by omega) | exact bs_len (by simp; done) | exact bs_len (by simp; omega))) rfl ?_
        rintro _ w30 ⟨q_w30, c_w30⟩
        have hs_w30 : w29.heap.size ≤ w30.heap.size := Chg.size c_w30
        replace p3 := p3.kb c_w30 (by omega)
        replace p6 := p6.kb c_w30 (by omega)
        replace p13 := p13.kb c_w30 (by omega)
        replace o16 := o16.kb c_w30 (Owns.ne_lt o16 (by omega))
        replace p27 := p27.kb c_w30 (by omega)
        have C_w30 := Chg.newRng C_w29 c_w30 (by omega)
        have p9 := q_w30
        refine s_end ?_
        refine go_ret ?_
        refine ⟨_, .cons ⟨_, rfl, run_load_agg Try.isAgg25 Try.sizeOf25 (by first | exact bs_len (by omega) | exact bs_len (by simp; done) | exact bs_len (by simp; omega)) p9.rd⟩ (.nil), ?_⟩
        have e_ : [x, y].flatten = x ++ y := by simp
        exact ⟨congrArg (fun x => Value.agg (bs x).toArray) (congrArg (hashB 2) e_), C_w30⟩
    ·
      refine s_fxK rfl rfl (w_alloc (bs (List.replicate 32 0)) Try.zeroValue25 (by kernel_rfl)) ?_
      rintro _ w31 ⟨b32, rfl, hl_b32, hu_b32, p33, c_w31⟩
      have hs_w31 : w11.heap.size ≤ w31.heap.size := Chg.size c_w31
      replace p3 := p3.k c_w31
      replace p6 := p6.k c_w31
      replace p9 := p9.k c_w31
      replace p13 := p13.k c_w31
      have C_w31 := Chg.pure C_w11 c_w31
      have hn_b32 : w.heap.size ≤ b32 := by have := Chg.size C_w31; omega
      have K_w31 := Chg.pure K_w11 c_w31
      refine ⟨K_w31, ?_⟩
      refine s_fxK rfl rfl (w_call Try.call65 rfl (concat_spec [x, y] [_, _] _ _ _ _ rfl (by decide) (by decide) (by simp; omega) (by simp; omega) (SlAt.some p13.rd) (SlsOk.two (by first | omega | (simp; done) | (simp; omega)) (by first | omega | (simp; done) | (simp; omega)) (by first | omega | (simp; done) | (simp; omega)) (SlAt.some p3.rd) (by first | omega | (simp; done) | (simp; omega)) (by first | omega | (simp; done) | (simp; omega)) (by first | omega | (simp; done) | (simp; omega)) (SlAt.some p6.rd)))) ?_
      rintro _ w34 ⟨A36, cap37, rfl, hc_cap37, o35, c_w34⟩
      have hs_w34 : w31.heap.size ≤ w34.heap.size := Chg.size c_w34
      replace p3 := p3.k c_w34
      replace p6 := p6.k c_w34
      replace p9 := p9.k c_w34
      replace p13 := p13.k c_w34
      replace p33 := p33.k c_w34
      have C_w34 := Chg.pure C_w31 c_w34
      have hl_o35 : [x, y].flatten.length ≤ 1048576 := by simp; omega
      have hg_o35 : 0 < [x, y].flatten.length := by simp; omega
      have K_w34 := Chg.pure K_w31 c_w34
      refine ⟨K_w34, ?_⟩
      refine s_fxK rfl rfl (w_call Try.call48 rfl (sumOf_spec (2) [x, y].flatten _ _ _ _ (by omega) (by omega) (by first | omega | (simp; done) | (simp; omega)) (by first | omega | (simp; done) | (simp; omega)) (by first | omega | (simp; done) | (simp; omega)) (by first | omega | (simp; done) | (simp; omega)) (Owns.sl o35))) ?_
      rintro _ w38 ⟨rfl, c_w38⟩
      have hs_w38 : w34.heap.size ≤ w38.heap.size := Chg.size c_w38
      replace p3 := p3.k c_w38
      replace p6 := p6.k c_w38
      replace p9 := p9.k c_w38
      replace p13 := p13.k c_w38
      replace p33 := p33.k c_w38
      replace o35 := o35.k c_w38
      have C_w38 := Chg.pure C_w34 c_w38
      have K_w38 := Chg.pure K_w34 c_w38
      refine ⟨K_w38, ?_⟩
      refine s_takeK rfl rfl (w0 := w10) (fun x_ c_ => r_move) ?_
      refine s_takeK rfl rfl (w0 := w10) (fun x_ c_ => r_extract rfl rfl) ?_
      refine s_takeK rfl rfl (w0 := w10) (fun x_ c_ => r_extract rfl rfl) ?_
      refine s_fxK rfl rfl (w_storeA (o := 0) Try.sizeOf25 rfl rfl (by first | exact bs_len (by omega) | exact bs_len (by simp; done) | exact bs_len (by simp; omega)) (flat_bs _) p33 (by first | exact bs_len (by omega) | exact bs_len (by simp; done) | exact bs_len (by simp; omega))) ?_
      rintro _ w39 ⟨q_w39, c_w39⟩
      have hs_w39 : w38.heap.size ≤ w39.heap.size := Chg.size c_w39
      replace p3 := p3.kb c_w39 (by omega)
      replace p6 := p6.kb c_w39 (by omega)
      replace p9 := p9.kb c_w39 (by omega)
      replace p13 := p13.kb c_w39 (by omega)
      replace o35 := o35.kb c_w39 (Owns.ne_lt o35 (by omega))
      have C_w39 := Chg.newRng C_w38 c_w39 (by omega)
      have p33 := q_w39
      have K_w39 := Chg.newRng K_w38 c_w39 (by omega)
      refine ⟨K_w39, ?_⟩
      refine s_val rfl rfl (r_assign) rfl ?_
      refine s_end ?_
      refine go_seq ?_
      refine go_region 2 rfl rfl ?_
      refine s_val rfl rfl (r_loadN Try.isAgg25 Try.sizeOf25 rfl p33.rd (by first | exact bs_len (by omega) | exact bs_len (by simp; done) | exact bs_len (by simp; omega))) rfl ?_
      refine s_do rfl rfl (w_storeA (o := 0) Try.sizeOf25 rfl rfl (by first | exact bs_len (by omega) | exact bs_len (by simp; done) | exact bs_len (by simp; omega)) (flat_bs _) p9 (by first | exact bs_len (by omega) | exact bs_len (by simp; done) | exact bs_len (by simp; omega))) rfl ?_
      rintro _ w40 ⟨q_w40, c_w40⟩
      have hs_w40 : w39.heap.size ≤ w40.heap.size := Chg.size c_w40
      replace p3 := p3.kb c_w40 (by omega)
      replace p6 := p6.kb c_w40 (by omega)
      replace p13 := p13.kb c_w40 (by omega)
      replace o35 := o35.kb c_w40 (Owns.ne_lt o35 (by omega))
      replace p33 := p33.kb c_w40 (by omega)
      have C_w40 := Chg.newRng C_w39 c_w40 (by omega)
      have p9 := q_w40
      refine s_end ?_
      refine go_ret ?_
      refine ⟨_, .cons ⟨_, rfl, run_load_agg Try.isAgg25 Try.sizeOf25 (by first | exact bs_len (by omega) | exact bs_len (by simp; done) | exact bs_len (by simp; omega)) p9.rd⟩ (.nil), ?_⟩
      have e_ : [x, y].flatten = x ++ y := by simp
      exact ⟨congrArg (fun x => Value.agg (bs x).toArray) (congrArg (hashB 2) e_), C_w40⟩
  ·
    refine s_fxK rfl rfl (w_alloc (bs (List.replicate 32 0)) Try.zeroValue25 (by kernel_rfl)) ?_
    rintro _ w41 ⟨b42, rfl, hl_b42, hu_b42, p43, c_w41⟩
    have hs_w41 : w10.heap.size ≤ w41.heap.size := Chg.size c_w41
    replace p3 := p3.k c_w41
    replace p6 := p6.k c_w41
    replace p9 := p9.k c_w41
    have C_w41 := Chg.pure C_w10 c_w41
    have hn_b42 : w.heap.size ≤ b42 := by have := Chg.size C_w41; omega
    have K_w41 := Chg.pure (Chg.refl no w10) c_w41
    refine ⟨K_w41, ?_⟩
    refine s_fxK rfl rfl (w_build2 (E := 22) Try.underlying37 (i := Try.t22) (by kernel_rfl) rfl rfl rfl rfl rfl rfl rfl) ?_
    rintro _ w44 ⟨b45, rfl, hl_b45, hu_b45, o47, p46, c_w44⟩
    have hs_w44 : w41.heap.size ≤ w44.heap.size := Chg.size c_w44
    replace p3 := p3.k c_w44
    replace p6 := p6.k c_w44
    replace p9 := p9.k c_w44
    replace p43 := p43.k c_w44
    have C_w44 := Chg.pure C_w41 c_w44
    have hn_b45 : w.heap.size ≤ b45 := by have := Chg.size C_w44; omega
    have K_w44 := Chg.pure K_w41 c_w44
    refine ⟨K_w44, ?_⟩
    refine s_fxK rfl rfl (w_call Try.call65 rfl (concat_spec [x, y] [_, _] _ _ _ _ rfl (by decide) (by decide) (by simp; omega) (by simp; omega) (SlAt.some p46.rd) (SlsOk.two (by first | omega | (simp; done) | (simp; omega)) (by first | omega | (simp; done) | (simp; omega)) (by first | omega | (simp; done) | (simp; omega)) (SlAt.some p3.rd) (by first | omega | (simp; done) | (simp; omega)) (by first | omega | (simp; done) | (simp; omega)) (by first | omega | (simp; done) | (simp; omega)) (SlAt.some p6.rd)))) ?_
    rintro _ w48 ⟨A50, cap51, rfl, hc_cap51, o49, c_w48⟩
    have hs_w48 : w44.heap.size ≤ w48.heap.size := Chg.size c_w48
    replace p3 := p3.k c_w48
    replace p6 := p6.k c_w48
    replace p9 := p9.k c_w48
    replace p43 := p43.k c_w48
    replace p46 := p46.k c_w48
    have C_w48 := Chg.pure C_w44 c_w48
    have hl_o49 : [x, y].flatten.length ≤ 1048576 := by simp; omega
    have hg_o49 : 0 < [x, y].flatten.length := by simp; omega
    have K_w48 := Chg.pure K_w44 c_w48
    refine ⟨K_w48, ?_⟩
    refine s_fxK rfl rfl (w_call Try.call48 rfl (sumOf_spec (2) [x, y].flatten _ _ _ _ (by omega) (by omega) (by first | omega | (simp; done) | (simp; omega)) (by first | omega | (simp; done) | (simp; omega)) (by first | omega | (simp; done) | (simp; omega)) (by first | omega | (simp; done) | (simp; omega)) (Owns.sl o49))) ?_
    rintro _ w52 ⟨rfl, c_w52⟩
    have hs_w52 : w48.heap.size ≤ w52.heap.size := Chg.size c_w52
    replace p3 := p3.k c_w52
    replace p6 := p6.k c_w52
    replace p9 := p9.k c_w52
    replace p43 := p43.k c_w52
    replace p46 := p46.k c_w52
    replace o49 := o49.k c_w52
    have C_w52 := Chg.pure C_w48 c_w52
    have K_w52 := Chg.pure K_w48 c_w52
    refine ⟨K_w52, ?_⟩
    refine s_takeK rfl rfl (w0 := w10) (fun x_ c_ => r_move) ?_
    refine s_takeK rfl rfl (w0 := w10) (fun x_ c_ => r_extract rfl rfl) ?_
    refine s_takeK rfl rfl (w0 := w10) (fun x_ c_ => r_extract rfl rfl) ?_
    refine s_fxK rfl rfl (w_storeA (o := 0) Try.sizeOf25 rfl rfl (by first | exact bs_len (by omega) | exact bs_len (by simp; done) | exact bs_len (by simp; omega)) (flat_bs _) p43 (by first | exact bs_len (by omega) | exact bs_len (by simp; done) | exact bs_len (by simp; omega))) ?_
    rintro _ w53 ⟨q_w53, c_w53⟩
    have hs_w53 : w52.heap.size ≤ w53.heap.size := Chg.size c_w53
    replace p3 := p3.kb c_w53 (by omega)
    replace p6 := p6.kb c_w53 (by omega)
    replace p9 := p9.kb c_w53 (by omega)
    replace p46 := p46.kb c_w53 (by omega)
    replace o49 := o49.kb c_w53 (Owns.ne_lt o49 (by omega))
    have C_w53 := Chg.newRng C_w52 c_w53 (by omega)
    have p43 := q_w53
    have K_w53 := Chg.newRng K_w52 c_w53 (by omega)
    refine ⟨K_w53, ?_⟩
    refine s_val rfl rfl (r_assign) rfl ?_
    refine s_end ?_
    refine go_seq ?_
    refine go_region 2 rfl rfl ?_
    refine s_val rfl rfl (r_loadN Try.isAgg25 Try.sizeOf25 rfl p43.rd (by first | exact bs_len (by omega) | exact bs_len (by simp; done) | exact bs_len (by simp; omega))) rfl ?_
    refine s_do rfl rfl (w_storeA (o := 0) Try.sizeOf25 rfl rfl (by first | exact bs_len (by omega) | exact bs_len (by simp; done) | exact bs_len (by simp; omega)) (flat_bs _) p9 (by first | exact bs_len (by omega) | exact bs_len (by simp; done) | exact bs_len (by simp; omega))) rfl ?_
    rintro _ w54 ⟨q_w54, c_w54⟩
    have hs_w54 : w53.heap.size ≤ w54.heap.size := Chg.size c_w54
    replace p3 := p3.kb c_w54 (by omega)
    replace p6 := p6.kb c_w54 (by omega)
    replace p46 := p46.kb c_w54 (by omega)
    replace o49 := o49.kb c_w54 (Owns.ne_lt o49 (by omega))
    replace p43 := p43.kb c_w54 (by omega)
    have C_w54 := Chg.newRng C_w53 c_w54 (by omega)
    have p9 := q_w54
    refine s_end ?_
    refine go_ret ?_
    refine ⟨_, .cons ⟨_, rfl, run_load_agg Try.isAgg25 Try.sizeOf25 (by first | exact bs_len (by omega) | exact bs_len (by simp; done) | exact bs_len (by simp; omega)) p9.rd⟩ (.nil), ?_⟩
    have e_ : [x, y].flatten = x ++ y := by simp
    exact ⟨congrArg (fun x => Value.agg (bs x).toArray) (congrArg (hashB 2) e_), C_w54⟩

end Go.Proofs.Ytdnccchcflaphaa
