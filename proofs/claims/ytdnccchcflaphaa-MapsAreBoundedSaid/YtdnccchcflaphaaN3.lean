/- N3: contracts of functions of the program: called in any world that meets a contract's premises, the function returns what the contract says and changes no more than it says. -/
import Derived.Test.YtdnccchcflaphaaN2
import Derived.Test.YtdnccchcflaphaaEng8
import Derived.Test.YtdnccchcflaphaaEng9
import Derived.Test.YtdnccchcflaphaaEng10
import Derived.Test.YtdnccchcflaphaaEng11
import Derived.Test.YtdnccchcflaphaaEng12
import Derived.Test.YtdnccchcflaphaaChecked
open Go Go.Eng Go.Proofs
namespace Go.Proofs.Ytdnccchcflaphaa
set_option maxHeartbeats 1000000 in
theorem setP_spec (kv : Kv) (k v_ : List UInt8) (p mb : Nat) (w : World) (hk : k.length = 32) (hv_ : v_.length = 32) (hv0 : v_ ≠ List.replicate 32 0) (hp : Pc w p 0 [.map (some mb)]) (hm : MapS 32 w mb kv) (hpm : p ≠ mb) (hv : ∀ x ∈ kv, x.2.length = 32) (hfit : (lookS kv k).isSome = true ∨ kv.length < 1000) :
    Rtn Try.prog 23 [.pointer (some ⟨p, 0, none⟩), .agg (bs k).toArray, .agg (bs v_).toArray].toArray w (fun v w' => v = i64 0 ∧ Pc w' p 0 [.map (some mb)] ∧ MapS 32 w' mb (putS kv k v_) ∧ Chg (blk mb) w w') := by
  refine fn_body (l := [.pointer (some ⟨p, 0, none⟩), .agg (bs k).toArray, .agg (bs v_).toArray]) 37 [.tmp 6] Try.func23 rfl Try.ntmps23 (Nat.le_of_ble_eq_true rfl) (by rw [Try.results23]) ?_
  have hmlt := hm.lt
  have hplt := cell_lt (hp.rd 0 _ rfl)
  refine go_seq ?_
  refine go_region 3 rfl rfl ?_
  refine s_do rfl rfl (w_boxA rfl) rfl ?_
  rintro _ w1 ⟨b2, rfl, hl_b2, hu_b2, p3, c_w1⟩
  have hs_w1 : w.heap.size ≤ w1.heap.size := Chg.size c_w1
  replace hp := hp.k c_w1
  replace hm := hm.k c_w1
  have C_w1 := Chg.pure (Chg.refl (blk mb) w) c_w1
  have hn_b2 : w.heap.size ≤ b2 := by have := Chg.size C_w1; omega
  refine s_do rfl rfl (w_boxA rfl) rfl ?_
  rintro _ w4 ⟨b5, rfl, hl_b5, hu_b5, p6, c_w4⟩
  have hs_w4 : w1.heap.size ≤ w4.heap.size := Chg.size c_w4
  replace hp := hp.k c_w4
  replace hm := hm.k c_w4
  replace p3 := p3.k c_w4
  have C_w4 := Chg.pure C_w1 c_w4
  have hn_b5 : w.heap.size ≤ b5 := by have := Chg.size C_w4; omega
  refine s_val rfl rfl (r_assign) rfl ?_
  refine s_end ?_
  refine go_seq ?_
  refine go_seq ?_
  refine go_region 3 rfl rfl ?_
  refine s_val rfl rfl (r_loadN Try.isAgg25 Try.sizeOf25 rfl p6.rd (by first | exact bs_len (by omega) | exact bs_len (by simp; done) | exact bs_len (by simp; omega))) rfl ?_
  refine s_val rfl rfl (r_buildA Try.zeroValue25 Try.runUnderlying25 Try.sizeOf5 (cs := bs (List.replicate 32 0)) (by kernel_rfl)) rfl ?_
  refine s_val rfl rfl (r_eqArr Try.underlying25 Try.underlying5 Try.sizeOf5 rfl rfl (by first | omega | (simp; done) | (simp; omega)) (by first | omega | (simp; done) | (simp; omega)) (by kernel_rfl)) rfl ?_
  refine s_end ?_
  refine go_ifb _ rfl (fun h7 => ?_) (fun h7 => ?_)
  · first | replace h7 := of_decide_eq_true h7 | replace h7 := of_decide_eq_false (nt h7) | skip
    exfalso
    exact hv0 (by simpa using h7)
  · first | replace h7 := of_decide_eq_false h7 | replace h7 := of_decide_eq_true (nf h7) | skip
    refine go_skip ?_
    refine go_seq ?_
    refine go_seq ?_
    refine go_drawsK 11 (.take 0 (.take 1 (.take 2 (.take 3 (.take 4 (.alts (.eff 5 (.take 6 (.take 7 (.take 8 (.eff 9 (.eff 10 (.eff 11 .done))))))) (.eff 9 (.eff 5 (.take 6 (.take 7 (.take 8 (.eff 10 (.eff 11 .done))))))))))))) (by kernel_rfl) (by kernel_rfl) fun w8 c_w8 => ?_
    have hs_w8 : w4.heap.size ≤ w8.heap.size := Chg.size c_w8
    replace hp := hp.k c_w8
    replace hm := hm.k c_w8
    replace p3 := p3.k c_w8
    replace p6 := p6.k c_w8
    have C_w8 := Chg.pure C_w4 c_w8
    have hp_0 := hp
    have hm_0 := hm
    have p3_0 := p3
    have p6_0 := p6
    refine s_takeK rfl rfl (w0 := w8) (fun x_ c_ => r_move) ?_
    refine s_takeK rfl rfl (w0 := w8) (fun x_ c_ => r_nilCheck rfl) ?_
    refine s_takeK rfl rfl (w0 := w8) (fun x_ c_ => r_fieldAddr Try.runUnderlying79 rfl Try.sizeOf77 rfl rfl) ?_
    refine s_takeK rfl rfl (w0 := w8) (fun x_ c_ => r_load1 Try.isAgg77 rfl (hp_0.k c_).rd) ?_
    refine s_takeK rfl rfl (w0 := w8) (fun x_ c_ => r_loadN Try.isAgg25 Try.sizeOf25 rfl (p3_0.k c_).rd (by first | exact bs_len (by omega) | exact bs_len (by simp; done) | exact bs_len (by simp; omega))) ?_
    refine s_alts ?_ ?_
    ·
      have hg_9 : ((lookS kv k).getD (List.replicate 32 0)).length = 32 := getS_len hv _
      refine s_valS rfl rfl (r_lookupS2 Try.underlying77 kt25 z25 rfl rfl hm (by first | assumption | omega | (simp; done)) rfl) (Chg.refl no w8) ?_
      refine s_takeK rfl rfl (w0 := w8) (fun x_ c_ => r_move) ?_
      refine s_takeK rfl rfl (w0 := w8) (fun x_ c_ => r_extract rfl rfl) ?_
      refine s_takeK rfl rfl (w0 := w8) (fun x_ c_ => r_extract rfl rfl) ?_
      refine s_fxK rfl rfl (w_alloc (bs (List.replicate 32 0)) Try.zeroValue25 (by kernel_rfl)) ?_
      rintro _ w10 ⟨b11, rfl, hl_b11, hu_b11, p12, c_w10⟩
      have hs_w10 : w8.heap.size ≤ w10.heap.size := Chg.size c_w10
      replace hp := hp.k c_w10
      replace hm := hm.k c_w10
      replace p3 := p3.k c_w10
      replace p6 := p6.k c_w10
      have C_w10 := Chg.pure C_w8 c_w10
      have hn_b11 : w.heap.size ≤ b11 := by have := Chg.size C_w10; omega
      have K_w10 := Chg.pure (Chg.refl no w8) c_w10
      refine ⟨K_w10, ?_⟩
      refine s_fxK rfl rfl (w_storeA (o := 0) Try.sizeOf25 rfl rfl (by first | exact bs_len (by omega) | exact bs_len (by simp; done) | exact bs_len (by simp; omega)) (flat_bs _) p12 (by first | exact bs_len (by omega) | exact bs_len (by simp; done) | exact bs_len (by simp; omega))) ?_
      rintro _ w13 ⟨q_w13, c_w13⟩
      have hs_w13 : w10.heap.size ≤ w13.heap.size := Chg.size c_w13
      replace hp := hp.kb c_w13 (by omega)
      replace hm := hm.kb c_w13 (by omega)
      replace p3 := p3.kb c_w13 (by omega)
      replace p6 := p6.kb c_w13 (by omega)
      have C_w13 := Chg.newRng C_w10 c_w13 (by omega)
      have p12 := q_w13
      have K_w13 := Chg.newRng K_w10 c_w13 (by omega)
      refine ⟨K_w13, ?_⟩
      refine s_val rfl rfl (r_assign) rfl ?_
      refine s_end ?_
      refine go_seq ?_
      refine go_region 10 rfl rfl ?_
      refine s_val rfl rfl (r_move) rfl ?_
      refine s_val rfl rfl (r_not rfl) rfl ?_
      refine s_valB rfl rfl (r_move) rfl (fun h14 => ?_) (fun h14 => ?_)
      · first | replace h14 := of_decide_eq_true h14 | replace h14 := of_decide_eq_false (nt h14) | skip
        have h3_ := h14
        refine s_val_g rfl rfl (r_move) rfl ?_
        refine s_val_g rfl rfl (r_nilCheck rfl) rfl ?_
        refine s_val_g rfl rfl (r_fieldAddr Try.runUnderlying79 rfl Try.sizeOf77 rfl rfl) rfl ?_
        refine s_val_g rfl rfl (r_load1 Try.isAgg77 rfl hp.rd) rfl ?_
        refine s_val_g rfl rfl (r_lenMapS Try.runUnderlying77 rfl hm) rfl ?_
        refine s_val_g rfl rfl (r_geq rfl rfl) rfl ?_
        refine s_val rfl rfl (r_pick true rfl) rfl ?_
        refine s_end ?_
        refine go_ifb _ rfl (fun h15 => ?_) (fun h15 => ?_)
        · first | replace h15 := of_decide_eq_true h15 | replace h15 := of_decide_eq_false (nt h15) | skip
          exfalso
          have hno_ : ¬ (lookS kv k).isSome = true := by simpa using h3_
          rcases hfit with h_ | h_
          · exact hno_ h_
          · omega
        · first | replace h15 := of_decide_eq_false h15 | replace h15 := of_decide_eq_true (nf h15) | skip
          refine go_skip ?_
          refine go_seq ?_
          refine go_drawsE 6 (.take 0 (.take 1 (.take 2 (.take 3 (.take 4 (.take 5 (.eff 6 .done))))))) (by kernel_rfl) (by kernel_rfl) fun w16 c_w16 => ?_
          have hs_w16 : w13.heap.size ≤ w16.heap.size := Chg.size c_w16
          replace hp := hp.k c_w16
          replace hm := hm.k c_w16
          replace p3 := p3.k c_w16
          replace p6 := p6.k c_w16
          replace p12 := p12.k c_w16
          have C_w16 := Chg.pure C_w13 c_w16
          refine s_takeE rfl rfl (r_move) ?_
          refine s_takeE rfl rfl (r_nilCheck rfl) ?_
          refine s_takeE rfl rfl (r_fieldAddr Try.runUnderlying79 rfl Try.sizeOf77 rfl rfl) ?_
          refine s_takeE rfl rfl (r_load1 Try.isAgg77 rfl hp.rd) ?_
          refine s_takeE rfl rfl (r_loadN Try.isAgg25 Try.sizeOf25 rfl p3.rd (by first | exact bs_len (by omega) | exact bs_len (by simp; done) | exact bs_len (by simp; omega))) ?_
          refine s_takeE rfl rfl (r_loadN Try.isAgg25 Try.sizeOf25 rfl p6.rd (by first | exact bs_len (by omega) | exact bs_len (by simp; done) | exact bs_len (by simp; omega))) ?_
          refine s_do rfl rfl (w_mapPutS Try.underlying77 kt25 rfl rfl rfl hm (by first | assumption | omega | (simp; done))) rfl ?_
          rintro _ w17 ⟨q_w17, c_w17⟩
          have hs_w17 : w16.heap.size ≤ w17.heap.size := Chg.size c_w17
          replace hp := hp.kB c_w17 (by omega)
          replace p3 := p3.kB c_w17 (by omega)
          replace p6 := p6.kB c_w17 (by omega)
          replace p12 := p12.kB c_w17 (by omega)
          have C_w17 := Chg.into C_w16 c_w17 (fun _ _ _ m => m)
          have hm := q_w17
          refine s_end ?_
          refine go_seq ?_
          refine go_region 1 rfl rfl ?_
          refine s_val rfl rfl (r_assign) rfl ?_
          refine s_end ?_
          refine go_ret ?_
          refine ⟨_, .cons rfl (.nil), ?_⟩
          exact ⟨rfl, hp, hm, C_w17⟩
      · first | replace h14 := of_decide_eq_false h14 | replace h14 := of_decide_eq_true (nf h14) | skip
        refine s_val_not rfl rfl ?_
        refine s_val_not rfl rfl ?_
        refine s_val_not rfl rfl ?_
        refine s_val_not rfl rfl ?_
        refine s_val_not rfl rfl ?_
        refine s_val_not rfl rfl ?_
        refine s_val rfl rfl (r_pick false rfl) rfl ?_
        refine s_end ?_
        refine go_false rfl ?_
        refine go_skip ?_
        refine go_seq ?_
        refine go_drawsE 6 (.take 0 (.take 1 (.take 2 (.take 3 (.take 4 (.take 5 (.eff 6 .done))))))) (by kernel_rfl) (by kernel_rfl) fun w18 c_w18 => ?_
        have hs_w18 : w13.heap.size ≤ w18.heap.size := Chg.size c_w18
        replace hp := hp.k c_w18
        replace hm := hm.k c_w18
        replace p3 := p3.k c_w18
        replace p6 := p6.k c_w18
        replace p12 := p12.k c_w18
        have C_w18 := Chg.pure C_w13 c_w18
        refine s_takeE rfl rfl (r_move) ?_
        refine s_takeE rfl rfl (r_nilCheck rfl) ?_
        refine s_takeE rfl rfl (r_fieldAddr Try.runUnderlying79 rfl Try.sizeOf77 rfl rfl) ?_
        refine s_takeE rfl rfl (r_load1 Try.isAgg77 rfl hp.rd) ?_
        refine s_takeE rfl rfl (r_loadN Try.isAgg25 Try.sizeOf25 rfl p3.rd (by first | exact bs_len (by omega) | exact bs_len (by simp; done) | exact bs_len (by simp; omega))) ?_
        refine s_takeE rfl rfl (r_loadN Try.isAgg25 Try.sizeOf25 rfl p6.rd (by first | exact bs_len (by omega) | exact bs_len (by simp; done) | exact bs_len (by simp; omega))) ?_
        refine s_do rfl rfl (w_mapPutS Try.underlying77 kt25 rfl rfl rfl hm (by first | assumption | omega | (simp; done))) rfl ?_
        rintro _ w19 ⟨q_w19, c_w19⟩
        have hs_w19 : w18.heap.size ≤ w19.heap.size := Chg.size c_w19
        replace hp := hp.kB c_w19 (by omega)
        replace p3 := p3.kB c_w19 (by omega)
        replace p6 := p6.kB c_w19 (by omega)
        replace p12 := p12.kB c_w19 (by omega)
        have C_w19 := Chg.into C_w18 c_w19 (fun _ _ _ m => m)
        have hm := q_w19
        refine s_end ?_
        refine go_seq ?_
        refine go_region 1 rfl rfl ?_
        refine s_val rfl rfl (r_assign) rfl ?_
        refine s_end ?_
        refine go_ret ?_
        refine ⟨_, .cons rfl (.nil), ?_⟩
        exact ⟨rfl, hp, hm, C_w19⟩
    ·
      refine s_fxK rfl rfl (w_alloc (bs (List.replicate 32 0)) Try.zeroValue25 (by kernel_rfl)) ?_
      rintro _ w20 ⟨b21, rfl, hl_b21, hu_b21, p22, c_w20⟩
      have hs_w20 : w8.heap.size ≤ w20.heap.size := Chg.size c_w20
      replace hp := hp.k c_w20
      replace hm := hm.k c_w20
      replace p3 := p3.k c_w20
      replace p6 := p6.k c_w20
      have C_w20 := Chg.pure C_w8 c_w20
      have hn_b21 : w.heap.size ≤ b21 := by have := Chg.size C_w20; omega
      have K_w20 := Chg.pure (Chg.refl no w8) c_w20
      refine ⟨K_w20, ?_⟩
      have hg_23 : ((lookS kv k).getD (List.replicate 32 0)).length = 32 := getS_len hv _
      refine s_valS rfl rfl (r_lookupS2 Try.underlying77 kt25 z25 rfl rfl hm (by first | assumption | omega | (simp; done)) rfl) K_w20 ?_
      refine s_takeK rfl rfl (w0 := w8) (fun x_ c_ => r_move) ?_
      refine s_takeK rfl rfl (w0 := w8) (fun x_ c_ => r_extract rfl rfl) ?_
      refine s_takeK rfl rfl (w0 := w8) (fun x_ c_ => r_extract rfl rfl) ?_
      refine s_fxK rfl rfl (w_storeA (o := 0) Try.sizeOf25 rfl rfl (by first | exact bs_len (by omega) | exact bs_len (by simp; done) | exact bs_len (by simp; omega)) (flat_bs _) p22 (by first | exact bs_len (by omega) | exact bs_len (by simp; done) | exact bs_len (by simp; omega))) ?_
      rintro _ w24 ⟨q_w24, c_w24⟩
      have hs_w24 : w20.heap.size ≤ w24.heap.size := Chg.size c_w24
      replace hp := hp.kb c_w24 (by omega)
      replace hm := hm.kb c_w24 (by omega)
      replace p3 := p3.kb c_w24 (by omega)
      replace p6 := p6.kb c_w24 (by omega)
      have C_w24 := Chg.newRng C_w20 c_w24 (by omega)
      have p22 := q_w24
      have K_w24 := Chg.newRng K_w20 c_w24 (by omega)
      refine ⟨K_w24, ?_⟩
      refine s_val rfl rfl (r_assign) rfl ?_
      refine s_end ?_
      refine go_seq ?_
      refine go_region 10 rfl rfl ?_
      refine s_val rfl rfl (r_move) rfl ?_
      refine s_val rfl rfl (r_not rfl) rfl ?_
      refine s_valB rfl rfl (r_move) rfl (fun h25 => ?_) (fun h25 => ?_)
      · first | replace h25 := of_decide_eq_true h25 | replace h25 := of_decide_eq_false (nt h25) | skip
        have h3_ := h25
        refine s_val_g rfl rfl (r_move) rfl ?_
        refine s_val_g rfl rfl (r_nilCheck rfl) rfl ?_
        refine s_val_g rfl rfl (r_fieldAddr Try.runUnderlying79 rfl Try.sizeOf77 rfl rfl) rfl ?_
        refine s_val_g rfl rfl (r_load1 Try.isAgg77 rfl hp.rd) rfl ?_
        refine s_val_g rfl rfl (r_lenMapS Try.runUnderlying77 rfl hm) rfl ?_
        refine s_val_g rfl rfl (r_geq rfl rfl) rfl ?_
        refine s_val rfl rfl (r_pick true rfl) rfl ?_
        refine s_end ?_
        refine go_ifb _ rfl (fun h26 => ?_) (fun h26 => ?_)
        · first | replace h26 := of_decide_eq_true h26 | replace h26 := of_decide_eq_false (nt h26) | skip
          exfalso
          have hno_ : ¬ (lookS kv k).isSome = true := by simpa using h3_
          rcases hfit with h_ | h_
          · exact hno_ h_
          · omega
        · first | replace h26 := of_decide_eq_false h26 | replace h26 := of_decide_eq_true (nf h26) | skip
          refine go_skip ?_
          refine go_seq ?_
          refine go_drawsE 6 (.take 0 (.take 1 (.take 2 (.take 3 (.take 4 (.take 5 (.eff 6 .done))))))) (by kernel_rfl) (by kernel_rfl) fun w27 c_w27 => ?_
          have hs_w27 : w24.heap.size ≤ w27.heap.size := Chg.size c_w27
          replace hp := hp.k c_w27
          replace hm := hm.k c_w27
          replace p3 := p3.k c_w27
          replace p6 := p6.k c_w27
          replace p22 := p22.k c_w27
          have C_w27 := Chg.pure C_w24 c_w27
          refine s_takeE rfl rfl (r_move) ?_
          refine s_takeE rfl rfl (r_nilCheck rfl) ?_
          refine s_takeE rfl rfl (r_fieldAddr Try.runUnderlying79 rfl Try.sizeOf77 rfl rfl) ?_
          refine s_takeE rfl rfl (r_load1 Try.isAgg77 rfl hp.rd) ?_
          refine s_takeE rfl rfl (r_loadN Try.isAgg25 Try.sizeOf25 rfl p3.rd (by first | exact bs_len (by omega) | exact bs_len (by simp; done) | exact bs_len (by simp; omega))) ?_
          refine s_takeE rfl rfl (r_loadN Try.isAgg25 Try.sizeOf25 rfl p6.rd (by first | exact bs_len (by omega) | exact bs_len (by simp; done) | exact bs_len (by simp; omega))) ?_
          refine s_do rfl rfl (w_mapPutS Try.underlying77 kt25 rfl rfl rfl hm (by first | assumption | omega | (simp; done))) rfl ?_
          rintro _ w28 ⟨q_w28, c_w28⟩
          have hs_w28 : w27.heap.size ≤ w28.heap.size := Chg.size c_w28
          replace hp := hp.kB c_w28 (by omega)
          replace p3 := p3.kB c_w28 (by omega)
          replace p6 := p6.kB c_w28 (by omega)
          replace p22 := p22.kB c_w28 (by omega)
          have C_w28 := Chg.into C_w27 c_w28 (fun _ _ _ m => m)
          have hm := q_w28
          refine s_end ?_
          refine go_seq ?_
          refine go_region 1 rfl rfl ?_
          refine s_val rfl rfl (r_assign) rfl ?_
          refine s_end ?_
          refine go_ret ?_
          refine ⟨_, .cons rfl (.nil), ?_⟩
          exact ⟨rfl, hp, hm, C_w28⟩
      · first | replace h25 := of_decide_eq_false h25 | replace h25 := of_decide_eq_true (nf h25) | skip
        refine s_val_not rfl rfl ?_
        refine s_val_not rfl rfl ?_
        refine s_val_not rfl rfl ?_
        refine s_val_not rfl rfl ?_
        refine s_val_not rfl rfl ?_
        refine s_val_not rfl rfl ?_
        refine s_val rfl rfl (r_pick false rfl) rfl ?_
        refine s_end ?_
        refine go_false rfl ?_
        refine go_skip ?_
        refine go_seq ?_
        refine go_drawsE 6 (.take 0 (.take 1 (.take 2 (.take 3 (.take 4 (.take 5 (.eff 6 .done))))))) (by kernel_rfl) (by kernel_rfl) fun w29 c_w29 => ?_
        have hs_w29 : w24.heap.size ≤ w29.heap.size := Chg.size c_w29
        replace hp := hp.k c_w29
        replace hm := hm.k c_w29
        replace p3 := p3.k c_w29
        replace p6 := p6.k c_w29
        replace p22 := p22.k c_w29
        have C_w29 := Chg.pure C_w24 c_w29
        refine s_takeE rfl rfl (r_move) ?_
        refine s_takeE rfl rfl (r_nilCheck rfl) ?_
        refine s_takeE rfl rfl (r_fieldAddr Try.runUnderlying79 rfl Try.sizeOf77 rfl rfl) ?_
        refine s_takeE rfl rfl (r_load1 Try.isAgg77 rfl hp.rd) ?_
        refine s_takeE rfl rfl (r_loadN Try.isAgg25 Try.sizeOf25 rfl p3.rd (by first | exact bs_len (by omega) | exact bs_len (by simp; done) | exact bs_len (by simp; omega))) ?_
        refine s_takeE rfl rfl (r_loadN Try.isAgg25 Try.sizeOf25 rfl p6.rd (by first | exact bs_len (by omega) | exact bs_len (by simp; done) | exact bs_len (by simp; omega))) ?_
        refine s_do rfl rfl (w_mapPutS Try.underlying77 kt25 rfl rfl rfl hm (by first | assumption | omega | (simp; done))) rfl ?_
        rintro _ w30 ⟨q_w30, c_w30⟩
        have hs_w30 : w29.heap.size ≤ w30.heap.size := Chg.size c_w30
        replace hp := hp.kB c_w30 (by omega)
        replace p3 := p3.kB c_w30 (by omega)
        replace p6 := p6.kB c_w30 (by omega)
        replace p22 := p22.kB c_w30 (by omega)
        have C_w30 := Chg.into C_w29 c_w30 (fun _ _ _ m => m)
        have hm := q_w30
        refine s_end ?_
        refine go_seq ?_
        refine go_region 1 rfl rfl ?_
        refine s_val rfl rfl (r_assign) rfl ?_
        refine s_end ?_
        refine go_ret ?_
        refine ⟨_, .cons rfl (.nil), ?_⟩
        exact ⟨rfl, hp, hm, C_w30⟩

set_option maxHeartbeats 1000000 in
theorem setF_spec (kv : Kv) (k v_ : List UInt8) (p mb : Nat) (w : World) (hk : k.length = 32) (hv_ : v_.length = 32) (hv0 : v_ ≠ List.replicate 32 0) (hp : Pc w p 0 [.map (some mb)]) (hm : MapS 32 w mb kv) (hv : ∀ x ∈ kv, x.2.length = 32) (hno : lookS kv k = none) (hfull : 1000 ≤ kv.length) :
    Rtn Try.prog 23 [.pointer (some ⟨p, 0, none⟩), .agg (bs k).toArray, .agg (bs v_).toArray].toArray w (fun v w' => v = i64 5 ∧ Kept w w') := by
  refine fn_body (l := [.pointer (some ⟨p, 0, none⟩), .agg (bs k).toArray, .agg (bs v_).toArray]) 37 [.tmp 6] Try.func23 rfl Try.ntmps23 (Nat.le_of_ble_eq_true rfl) (by rw [Try.results23]) ?_
  have hmlt := hm.lt
  have hplt := cell_lt (hp.rd 0 _ rfl)
  refine go_seq ?_
  refine go_region 3 rfl rfl ?_
  refine s_do rfl rfl (w_boxA rfl) rfl ?_
  rintro _ w1 ⟨b2, rfl, hl_b2, hu_b2, p3, c_w1⟩
  have hs_w1 : w.heap.size ≤ w1.heap.size := Chg.size c_w1
  replace hp := hp.k c_w1
  replace hm := hm.k c_w1
  have C_w1 := Chg.pure (Chg.refl no w) c_w1
  have hn_b2 : w.heap.size ≤ b2 := by have := Chg.size C_w1; omega
  refine s_do rfl rfl (w_boxA rfl) rfl ?_
  rintro _ w4 ⟨b5, rfl, hl_b5, hu_b5, p6, c_w4⟩
  have hs_w4 : w1.heap.size ≤ w4.heap.size := Chg.size c_w4
  replace hp := hp.k c_w4
  replace hm := hm.k c_w4
  replace p3 := p3.k c_w4
  have C_w4 := Chg.pure C_w1 c_w4
  have hn_b5 : w.heap.size ≤ b5 := by have := Chg.size C_w4; omega
  refine s_val rfl rfl (r_assign) rfl ?_
  refine s_end ?_
  refine go_seq ?_
  refine go_seq ?_
  refine go_region 3 rfl rfl ?_
  refine s_val rfl rfl (r_loadN Try.isAgg25 Try.sizeOf25 rfl p6.rd (by first | exact bs_len (by omega) | exact bs_len (by simp; done) | exact bs_len (by simp; omega))) rfl ?_
  refine s_val rfl rfl (r_buildA Try.zeroValue25 Try.runUnderlying25 Try.sizeOf5 (cs := bs (List.replicate 32 0)) (by kernel_rfl)) rfl ?_
  refine s_val rfl rfl (r_eqArr Try.underlying25 Try.underlying5 Try.sizeOf5 rfl rfl (by first | omega | (simp; done) | (simp; omega)) (by first | omega | (simp; done) | (simp; omega)) (by kernel_rfl)) rfl ?_
  refine s_end ?_
  refine go_ifb _ rfl (fun h7 => ?_) (fun h7 => ?_)
  · first | replace h7 := of_decide_eq_true h7 | replace h7 := of_decide_eq_false (nt h7) | skip
    exfalso
    exact hv0 (by simpa using h7)
  · first | replace h7 := of_decide_eq_false h7 | replace h7 := of_decide_eq_true (nf h7) | skip
    refine go_skip ?_
    refine go_seq ?_
    refine go_seq ?_
    refine go_drawsK 11 (.take 0 (.take 1 (.take 2 (.take 3 (.take 4 (.alts (.eff 5 (.take 6 (.take 7 (.take 8 (.eff 9 (.eff 10 (.eff 11 .done))))))) (.eff 9 (.eff 5 (.take 6 (.take 7 (.take 8 (.eff 10 (.eff 11 .done))))))))))))) (by kernel_rfl) (by kernel_rfl) fun w8 c_w8 => ?_
    have hs_w8 : w4.heap.size ≤ w8.heap.size := Chg.size c_w8
    replace hp := hp.k c_w8
    replace hm := hm.k c_w8
    replace p3 := p3.k c_w8
    replace p6 := p6.k c_w8
    have C_w8 := Chg.pure C_w4 c_w8
    have hp_0 := hp
    have hm_0 := hm
    have p3_0 := p3
    have p6_0 := p6
    refine s_takeK rfl rfl (w0 := w8) (fun x_ c_ => r_move) ?_
    refine s_takeK rfl rfl (w0 := w8) (fun x_ c_ => r_nilCheck rfl) ?_
    refine s_takeK rfl rfl (w0 := w8) (fun x_ c_ => r_fieldAddr Try.runUnderlying79 rfl Try.sizeOf77 rfl rfl) ?_
    refine s_takeK rfl rfl (w0 := w8) (fun x_ c_ => r_load1 Try.isAgg77 rfl (hp_0.k c_).rd) ?_
    refine s_takeK rfl rfl (w0 := w8) (fun x_ c_ => r_loadN Try.isAgg25 Try.sizeOf25 rfl (p3_0.k c_).rd (by first | exact bs_len (by omega) | exact bs_len (by simp; done) | exact bs_len (by simp; omega))) ?_
    refine s_alts ?_ ?_
    ·
      have hg_9 : ((lookS kv k).getD (List.replicate 32 0)).length = 32 := getS_len hv _
      refine s_valS rfl rfl (r_lookupS2 Try.underlying77 kt25 z25 rfl rfl hm (by first | assumption | omega | (simp; done)) rfl) (Chg.refl no w8) ?_
      refine s_takeK rfl rfl (w0 := w8) (fun x_ c_ => r_move) ?_
      refine s_takeK rfl rfl (w0 := w8) (fun x_ c_ => r_extract rfl rfl) ?_
      refine s_takeK rfl rfl (w0 := w8) (fun x_ c_ => r_extract rfl rfl) ?_
      refine s_fxK rfl rfl (w_alloc (bs (List.replicate 32 0)) Try.zeroValue25 (by kernel_rfl)) ?_
      rintro _ w10 ⟨b11, rfl, hl_b11, hu_b11, p12, c_w10⟩
      have hs_w10 : w8.heap.size ≤ w10.heap.size := Chg.size c_w10
      replace hp := hp.k c_w10
      replace hm := hm.k c_w10
      replace p3 := p3.k c_w10
      replace p6 := p6.k c_w10
      have C_w10 := Chg.pure C_w8 c_w10
      have hn_b11 : w.heap.size ≤ b11 := by have := Chg.size C_w10; omega
      have K_w10 := Chg.pure (Chg.refl no w8) c_w10
      refine ⟨K_w10, ?_⟩
      refine s_fxK rfl rfl (w_storeA (o := 0) Try.sizeOf25 rfl rfl (by first | exact bs_len (by omega) | exact bs_len (by simp; done) | exact bs_len (by simp; omega)) (flat_bs _) p12 (by first | exact bs_len (by omega) | exact bs_len (by simp; done) | exact bs_len (by simp; omega))) ?_
      rintro _ w13 ⟨q_w13, c_w13⟩
      have hs_w13 : w10.heap.size ≤ w13.heap.size := Chg.size c_w13
      replace hp := hp.kb c_w13 (by omega)
      replace hm := hm.kb c_w13 (by omega)
      replace p3 := p3.kb c_w13 (by omega)
      replace p6 := p6.kb c_w13 (by omega)
      have C_w13 := Chg.newRng C_w10 c_w13 (by omega)
      have p12 := q_w13
      have K_w13 := Chg.newRng K_w10 c_w13 (by omega)
      refine ⟨K_w13, ?_⟩
      refine s_val rfl rfl (r_assign) rfl ?_
      refine s_end ?_
      refine go_seq ?_
      refine go_region 10 rfl rfl ?_
      refine s_val rfl rfl (r_move) rfl ?_
      refine s_val rfl rfl (r_not rfl) rfl ?_
      refine s_valB rfl rfl (r_move) rfl (fun h14 => ?_) (fun h14 => ?_)
      · first | replace h14 := of_decide_eq_true h14 | replace h14 := of_decide_eq_false (nt h14) | skip
        refine s_val_g rfl rfl (r_move) rfl ?_
        refine s_val_g rfl rfl (r_nilCheck rfl) rfl ?_
        refine s_val_g rfl rfl (r_fieldAddr Try.runUnderlying79 rfl Try.sizeOf77 rfl rfl) rfl ?_
        refine s_val_g rfl rfl (r_load1 Try.isAgg77 rfl hp.rd) rfl ?_
        refine s_val_g rfl rfl (r_lenMapS Try.runUnderlying77 rfl hm) rfl ?_
        refine s_val_g rfl rfl (r_geq rfl rfl) rfl ?_
        refine s_val rfl rfl (r_pick true rfl) rfl ?_
        refine s_end ?_
        refine go_ifb _ rfl (fun h15 => ?_) (fun h15 => ?_)
        · first | replace h15 := of_decide_eq_true h15 | replace h15 := of_decide_eq_false (nt h15) | skip
          refine go_seq ?_
          refine go_region 1 rfl rfl ?_
          refine s_val rfl rfl (r_assign) rfl ?_
          refine s_end ?_
          refine go_ret ?_
          refine ⟨_, .cons rfl (.nil), ?_⟩
          exact ⟨rfl, C_w13⟩
        · first | replace h15 := of_decide_eq_false h15 | replace h15 := of_decide_eq_true (nf h15) | skip
          exfalso
          omega
      · first | replace h14 := of_decide_eq_false h14 | replace h14 := of_decide_eq_true (nf h14) | skip
        exfalso
        rw [hno] at h14
        exact absurd h14 (by decide)
    ·
      refine s_fxK rfl rfl (w_alloc (bs (List.replicate 32 0)) Try.zeroValue25 (by kernel_rfl)) ?_
      rintro _ w16 ⟨b17, rfl, hl_b17, hu_b17, p18, c_w16⟩
      have hs_w16 : w8.heap.size ≤ w16.heap.size := Chg.size c_w16
      replace hp := hp.k c_w16
      replace hm := hm.k c_w16
      replace p3 := p3.k c_w16
      replace p6 := p6.k c_w16
      have C_w16 := Chg.pure C_w8 c_w16
      have hn_b17 : w.heap.size ≤ b17 := by have := Chg.size C_w16; omega
      have K_w16 := Chg.pure (Chg.refl no w8) c_w16
      refine ⟨K_w16, ?_⟩
      have hg_19 : ((lookS kv k).getD (List.replicate 32 0)).length = 32 := getS_len hv _
      refine s_valS rfl rfl (r_lookupS2 Try.underlying77 kt25 z25 rfl rfl hm (by first | assumption | omega | (simp; done)) rfl) K_w16 ?_
      refine s_takeK rfl rfl (w0 := w8) (fun x_ c_ => r_move) ?_
      refine s_takeK rfl rfl (w0 := w8) (fun x_ c_ => r_extract rfl rfl) ?_
      refine s_takeK rfl rfl (w0 := w8) (fun x_ c_ => r_extract rfl rfl) ?_
      refine s_fxK rfl rfl (w_storeA (o := 0) Try.sizeOf25 rfl rfl (by first | exact bs_len (by omega) | exact bs_len (by simp; done) | exact bs_len (by simp; omega)) (flat_bs _) p18 (by first | exact bs_len (by omega) | exact bs_len (by simp; done) | exact bs_len (by simp; omega))) ?_
      rintro _ w20 ⟨q_w20, c_w20⟩
      have hs_w20 : w16.heap.size ≤ w20.heap.size := Chg.size c_w20
      replace hp := hp.kb c_w20 (by omega)
      replace hm := hm.kb c_w20 (by omega)
      replace p3 := p3.kb c_w20 (by omega)
      replace p6 := p6.kb c_w20 (by omega)
      have C_w20 := Chg.newRng C_w16 c_w20 (by omega)
      have p18 := q_w20
      have K_w20 := Chg.newRng K_w16 c_w20 (by omega)
      refine ⟨K_w20, ?_⟩
      refine s_val rfl rfl (r_assign) rfl ?_
      refine s_end ?_
      refine go_seq ?_
      refine go_region 10 rfl rfl ?_
      refine s_val rfl rfl (r_move) rfl ?_
      refine s_val rfl rfl (r_not rfl) rfl ?_
      refine s_valB rfl rfl (r_move) rfl (fun h21 => ?_) (fun h21 => ?_)
      · first | replace h21 := of_decide_eq_true h21 | replace h21 := of_decide_eq_false (nt h21) | skip
        refine s_val_g rfl rfl (r_move) rfl ?_
        refine s_val_g rfl rfl (r_nilCheck rfl) rfl ?_
        refine s_val_g rfl rfl (r_fieldAddr Try.runUnderlying79 rfl Try.sizeOf77 rfl rfl) rfl ?_
        refine s_val_g rfl rfl (r_load1 Try.isAgg77 rfl hp.rd) rfl ?_
        refine s_val_g rfl rfl (r_lenMapS Try.runUnderlying77 rfl hm) rfl ?_
        refine s_val_g rfl rfl (r_geq rfl rfl) rfl ?_
        refine s_val rfl rfl (r_pick true rfl) rfl ?_
        refine s_end ?_
        refine go_ifb _ rfl (fun h22 => ?_) (fun h22 => ?_)
        · first | replace h22 := of_decide_eq_true h22 | replace h22 := of_decide_eq_false (nt h22) | skip
          refine go_seq ?_
          refine go_region 1 rfl rfl ?_
          refine s_val rfl rfl (r_assign) rfl ?_
          refine s_end ?_
          refine go_ret ?_
          refine ⟨_, .cons rfl (.nil), ?_⟩
          exact ⟨rfl, C_w20⟩
        · first | replace h22 := of_decide_eq_false h22 | replace h22 := of_decide_eq_true (nf h22) | skip
          exfalso
          omega
      · first | replace h21 := of_decide_eq_false h21 | replace h21 := of_decide_eq_true (nf h21) | skip
        exfalso
        rw [hno] at h21
        exact absurd h21 (by decide)

set_option maxHeartbeats 1000000 in
theorem drop_spec (kv : Kv) (k : List UInt8) (p mb : Nat) (w : World) (hk : k.length = 32) (hp : Pc w p 0 [.map (some mb)]) (hm : MapS 32 w mb kv) (hpm : p ≠ mb) (hv : ∀ x ∈ kv, x.2.length = 32) (hin : (lookS kv k).isSome = true) :
    Rtn Try.prog 25 [.pointer (some ⟨p, 0, none⟩), .agg (bs k).toArray].toArray w (fun v w' => v = i64 0 ∧ Pc w' p 0 [.map (some mb)] ∧ MapS 32 w' mb (delS kv k) ∧ Chg (blk mb) w w') := by
  refine fn_body (l := [.pointer (some ⟨p, 0, none⟩), .agg (bs k).toArray]) 23 [.tmp 4] Try.func25 rfl Try.ntmps25 (Nat.le_of_ble_eq_true rfl) (by rw [Try.results25]) ?_
  have hmlt := hm.lt
  have hplt := cell_lt (hp.rd 0 _ rfl)
  refine go_seq ?_
  refine go_region 2 rfl rfl ?_
  refine s_do rfl rfl (w_boxA rfl) rfl ?_
  rintro _ w1 ⟨b2, rfl, hl_b2, hu_b2, p3, c_w1⟩
  have hs_w1 : w.heap.size ≤ w1.heap.size := Chg.size c_w1
  replace hp := hp.k c_w1
  replace hm := hm.k c_w1
  have C_w1 := Chg.pure (Chg.refl (blk mb) w) c_w1
  have hn_b2 : w.heap.size ≤ b2 := by have := Chg.size C_w1; omega
  refine s_val rfl rfl (r_assign) rfl ?_
  refine s_end ?_
  refine go_seq ?_
  refine go_seq ?_
  refine go_drawsK 11 (.take 0 (.take 1 (.take 2 (.take 3 (.take 4 (.alts (.eff 5 (.take 6 (.take 7 (.take 8 (.eff 9 (.eff 10 (.eff 11 .done))))))) (.eff 9 (.eff 5 (.take 6 (.take 7 (.take 8 (.eff 10 (.eff 11 .done))))))))))))) (by kernel_rfl) (by kernel_rfl) fun w4 c_w4 => ?_
  have hs_w4 : w1.heap.size ≤ w4.heap.size := Chg.size c_w4
  replace hp := hp.k c_w4
  replace hm := hm.k c_w4
  replace p3 := p3.k c_w4
  have C_w4 := Chg.pure C_w1 c_w4
  have hp_0 := hp
  have hm_0 := hm
  have p3_0 := p3
  refine s_takeK rfl rfl (w0 := w4) (fun x_ c_ => r_move) ?_
  refine s_takeK rfl rfl (w0 := w4) (fun x_ c_ => r_nilCheck rfl) ?_
  refine s_takeK rfl rfl (w0 := w4) (fun x_ c_ => r_fieldAddr Try.runUnderlying79 rfl Try.sizeOf77 rfl rfl) ?_
  refine s_takeK rfl rfl (w0 := w4) (fun x_ c_ => r_load1 Try.isAgg77 rfl (hp_0.k c_).rd) ?_
  refine s_takeK rfl rfl (w0 := w4) (fun x_ c_ => r_loadN Try.isAgg25 Try.sizeOf25 rfl (p3_0.k c_).rd (by first | exact bs_len (by omega) | exact bs_len (by simp; done) | exact bs_len (by simp; omega))) ?_
  refine s_alts ?_ ?_
  ·
    have hg_5 : ((lookS kv k).getD (List.replicate 32 0)).length = 32 := getS_len hv _
    refine s_valS rfl rfl (r_lookupS2 Try.underlying77 kt25 z25 rfl rfl hm (by first | assumption | omega | (simp; done)) rfl) (Chg.refl no w4) ?_
    refine s_takeK rfl rfl (w0 := w4) (fun x_ c_ => r_move) ?_
    refine s_takeK rfl rfl (w0 := w4) (fun x_ c_ => r_extract rfl rfl) ?_
    refine s_takeK rfl rfl (w0 := w4) (fun x_ c_ => r_extract rfl rfl) ?_
    refine s_fxK rfl rfl (w_alloc (bs (List.replicate 32 0)) Try.zeroValue25 (by kernel_rfl)) ?_
    rintro _ w6 ⟨b7, rfl, hl_b7, hu_b7, p8, c_w6⟩
    have hs_w6 : w4.heap.size ≤ w6.heap.size := Chg.size c_w6
    replace hp := hp.k c_w6
    replace hm := hm.k c_w6
    replace p3 := p3.k c_w6
    have C_w6 := Chg.pure C_w4 c_w6
    have hn_b7 : w.heap.size ≤ b7 := by have := Chg.size C_w6; omega
    have K_w6 := Chg.pure (Chg.refl no w4) c_w6
    refine ⟨K_w6, ?_⟩
    refine s_fxK rfl rfl (w_storeA (o := 0) Try.sizeOf25 rfl rfl (by first | exact bs_len (by omega) | exact bs_len (by simp; done) | exact bs_len (by simp; omega)) (flat_bs _) p8 (by first | exact bs_len (by omega) | exact bs_len (by simp; done) | exact bs_len (by simp; omega))) ?_
    rintro _ w9 ⟨q_w9, c_w9⟩
    have hs_w9 : w6.heap.size ≤ w9.heap.size := Chg.size c_w9
    replace hp := hp.kb c_w9 (by omega)
    replace hm := hm.kb c_w9 (by omega)
    replace p3 := p3.kb c_w9 (by omega)
    have C_w9 := Chg.newRng C_w6 c_w9 (by omega)
    have p8 := q_w9
    have K_w9 := Chg.newRng K_w6 c_w9 (by omega)
    refine ⟨K_w9, ?_⟩
    refine s_val rfl rfl (r_assign) rfl ?_
    refine s_end ?_
    refine go_seq ?_
    refine go_region 2 rfl rfl ?_
    refine s_val rfl rfl (r_move) rfl ?_
    refine s_val rfl rfl (r_not rfl) rfl ?_
    refine s_end ?_
    refine go_ifb _ rfl (fun h10 => ?_) (fun h10 => ?_)
    · first | replace h10 := of_decide_eq_true h10 | replace h10 := of_decide_eq_false (nt h10) | skip
      exfalso
      rw [hin] at h10
      exact absurd h10 (by decide)
    · first | replace h10 := of_decide_eq_false h10 | replace h10 := of_decide_eq_true (nf h10) | skip
      refine go_skip ?_
      refine go_seq ?_
      refine go_drawsE 5 (.take 0 (.take 1 (.take 2 (.take 3 (.take 4 (.eff 5 .done)))))) (by kernel_rfl) (by kernel_rfl) fun w11 c_w11 => ?_
      have hs_w11 : w9.heap.size ≤ w11.heap.size := Chg.size c_w11
      replace hp := hp.k c_w11
      replace hm := hm.k c_w11
      replace p3 := p3.k c_w11
      replace p8 := p8.k c_w11
      have C_w11 := Chg.pure C_w9 c_w11
      refine s_takeE rfl rfl (r_move) ?_
      refine s_takeE rfl rfl (r_nilCheck rfl) ?_
      refine s_takeE rfl rfl (r_fieldAddr Try.runUnderlying79 rfl Try.sizeOf77 rfl rfl) ?_
      refine s_takeE rfl rfl (r_load1 Try.isAgg77 rfl hp.rd) ?_
      refine s_takeE rfl rfl (r_loadN Try.isAgg25 Try.sizeOf25 rfl p3.rd (by first | exact bs_len (by omega) | exact bs_len (by simp; done) | exact bs_len (by simp; omega))) ?_
      refine s_do rfl rfl (w_mapDelS Try.underlying77 kt25 rfl rfl hm (by first | assumption | omega | (simp; done))) rfl ?_
      rintro _ w12 ⟨q_w12, c_w12⟩
      have hs_w12 : w11.heap.size ≤ w12.heap.size := Chg.size c_w12
      replace hp := hp.kB c_w12 (by omega)
      replace p3 := p3.kB c_w12 (by omega)
      replace p8 := p8.kB c_w12 (by omega)
      have C_w12 := Chg.into C_w11 c_w12 (fun _ _ _ m => m)
      have hm := q_w12
      refine s_end ?_
      refine go_seq ?_
      refine go_region 1 rfl rfl ?_
      refine s_val rfl rfl (r_assign) rfl ?_
      refine s_end ?_
      refine go_ret ?_
      refine ⟨_, .cons rfl (.nil), ?_⟩
      exact ⟨rfl, hp, hm, C_w12⟩
  ·
    refine s_fxK rfl rfl (w_alloc (bs (List.replicate 32 0)) Try.zeroValue25 (by kernel_rfl)) ?_
    rintro _ w13 ⟨b14, rfl, hl_b14, hu_b14, p15, c_w13⟩
    have hs_w13 : w4.heap.size ≤ w13.heap.size := Chg.size c_w13
    replace hp := hp.k c_w13
    replace hm := hm.k c_w13
    replace p3 := p3.k c_w13
    have C_w13 := Chg.pure C_w4 c_w13
    have hn_b14 : w.heap.size ≤ b14 := by have := Chg.size C_w13; omega
    have K_w13 := Chg.pure (Chg.refl no w4) c_w13
    refine ⟨K_w13, ?_⟩
    have hg_16 : ((lookS kv k).getD (List.replicate 32 0)).length = 32 := getS_len hv _
    refine s_valS rfl rfl (r_lookupS2 Try.underlying77 kt25 z25 rfl rfl hm (by first | assumption | omega | (simp; done)) rfl) K_w13 ?_
    refine s_takeK rfl rfl (w0 := w4) (fun x_ c_ => r_move) ?_
    refine s_takeK rfl rfl (w0 := w4) (fun x_ c_ => r_extract rfl rfl) ?_
    refine s_takeK rfl rfl (w0 := w4) (fun x_ c_ => r_extract rfl rfl) ?_
    refine s_fxK rfl rfl (w_storeA (o := 0) Try.sizeOf25 rfl rfl (by first | exact bs_len (by omega) | exact bs_len (by simp; done) | exact bs_len (by simp; omega)) (flat_bs _) p15 (by first | exact bs_len (by omega) | exact bs_len (by simp; done) | exact bs_len (by simp; omega))) ?_
    rintro _ w17 ⟨q_w17, c_w17⟩
    have hs_w17 : w13.heap.size ≤ w17.heap.size := Chg.size c_w17
    replace hp := hp.kb c_w17 (by omega)
    replace hm := hm.kb c_w17 (by omega)
    replace p3 := p3.kb c_w17 (by omega)
    have C_w17 := Chg.newRng C_w13 c_w17 (by omega)
    have p15 := q_w17
    have K_w17 := Chg.newRng K_w13 c_w17 (by omega)
    refine ⟨K_w17, ?_⟩
    refine s_val rfl rfl (r_assign) rfl ?_
    refine s_end ?_
    refine go_seq ?_
    refine go_region 2 rfl rfl ?_
    refine s_val rfl rfl (r_move) rfl ?_
    refine s_val rfl rfl (r_not rfl) rfl ?_
    refine s_end ?_
    refine go_ifb _ rfl (fun h18 => ?_) (fun h18 => ?_)
    · first | replace h18 := of_decide_eq_true h18 | replace h18 := of_decide_eq_false (nt h18) | skip
      exfalso
      rw [hin] at h18
      exact absurd h18 (by decide)
    · first | replace h18 := of_decide_eq_false h18 | replace h18 := of_decide_eq_true (nf h18) | skip
      refine go_skip ?_
      refine go_seq ?_
      refine go_drawsE 5 (.take 0 (.take 1 (.take 2 (.take 3 (.take 4 (.eff 5 .done)))))) (by kernel_rfl) (by kernel_rfl) fun w19 c_w19 => ?_
      have hs_w19 : w17.heap.size ≤ w19.heap.size := Chg.size c_w19
      replace hp := hp.k c_w19
      replace hm := hm.k c_w19
      replace p3 := p3.k c_w19
      replace p15 := p15.k c_w19
      have C_w19 := Chg.pure C_w17 c_w19
      refine s_takeE rfl rfl (r_move) ?_
      refine s_takeE rfl rfl (r_nilCheck rfl) ?_
      refine s_takeE rfl rfl (r_fieldAddr Try.runUnderlying79 rfl Try.sizeOf77 rfl rfl) ?_
      refine s_takeE rfl rfl (r_load1 Try.isAgg77 rfl hp.rd) ?_
      refine s_takeE rfl rfl (r_loadN Try.isAgg25 Try.sizeOf25 rfl p3.rd (by first | exact bs_len (by omega) | exact bs_len (by simp; done) | exact bs_len (by simp; omega))) ?_
      refine s_do rfl rfl (w_mapDelS Try.underlying77 kt25 rfl rfl hm (by first | assumption | omega | (simp; done))) rfl ?_
      rintro _ w20 ⟨q_w20, c_w20⟩
      have hs_w20 : w19.heap.size ≤ w20.heap.size := Chg.size c_w20
      replace hp := hp.kB c_w20 (by omega)
      replace p3 := p3.kB c_w20 (by omega)
      replace p15 := p15.kB c_w20 (by omega)
      have C_w20 := Chg.into C_w19 c_w20 (fun _ _ _ m => m)
      have hm := q_w20
      refine s_end ?_
      refine go_seq ?_
      refine go_region 1 rfl rfl ?_
      refine s_val rfl rfl (r_assign) rfl ?_
      refine s_end ?_
      refine go_ret ?_
      refine ⟨_, .cons rfl (.nil), ?_⟩
      exact ⟨rfl, hp, hm, C_w20⟩

theorem newMap_spec (w : World) :
    Rtn Try.prog 21 [].toArray w (fun v w' => ∃ p mb, v = .pointer (some ⟨p, 0, none⟩) ∧ w.heap.size ≤ p ∧ w.heap.size ≤ mb ∧ p ≠ mb ∧ Pc w' p 0 [.map (some mb)] ∧ MapS 32 w' mb [] ∧ Kept w w') := by
  refine fn_body (l := []) 4 [.tmp 0] Try.func21 rfl Try.ntmps21 (Nat.le_of_ble_eq_true rfl) (by rw [Try.results21]) ?_
  refine go_seq ?_
  refine go_region 1 rfl rfl ?_
  refine s_val rfl rfl (r_assign) rfl ?_
  refine s_end ?_
  refine go_seq ?_
  refine go_region 4 rfl rfl ?_
  refine s_do rfl rfl (w_makeMapS 32) rfl ?_
  rintro _ w1 ⟨b2, rfl, hl_b2, hu_b2, mp3, c_w1⟩
  have hs_w1 : w.heap.size ≤ w1.heap.size := Chg.size c_w1
  have C_w1 := Chg.pure (Chg.refl no w) c_w1
  have hn_b2 : w.heap.size ≤ b2 := by have := Chg.size C_w1; omega
  refine s_val rfl rfl (r_buildP (cells := [Value.map (some b2)]) (by kernel_rfl)) rfl ?_
  refine s_do rfl rfl (w_boxA rfl) rfl ?_
  rintro _ w4 ⟨b5, rfl, hl_b5, hu_b5, p6, c_w4⟩
  have hs_w4 : w1.heap.size ≤ w4.heap.size := Chg.size c_w4
  replace mp3 := mp3.k c_w4
  have C_w4 := Chg.pure C_w1 c_w4
  have hn_b5 : w.heap.size ≤ b5 := by have := Chg.size C_w4; omega
  refine s_val rfl rfl (r_assign) rfl ?_
  refine s_end ?_
  refine go_ret ?_
  refine ⟨_, .cons rfl (.nil), ?_⟩
  exact ⟨_, _, rfl, hn_b5, hn_b2, by omega, p6, mp3, C_w4⟩

theorem place_spec (i ot : Int) (cb : Nat) (w : World) (hcp : Rd w cb 0 [i64 ot]) :
    Rtn Try.prog 22 [i64 i, .pointer (some ⟨cb, 0, none⟩)].toArray w (fun v w' => v = .agg (bs (plcI ot i)).toArray ∧ Kept w w') := by
  refine fn_body (l := [i64 i, .pointer (some ⟨cb, 0, none⟩)]) 16 [.cell 3 25] Try.func22 rfl Try.ntmps22 (Nat.le_of_ble_eq_true rfl) (by rw [Try.results22]) ?_
  have hcl_ := cell_lt (hcp 0 _ rfl)
  refine go_seq ?_
  refine go_region 1 rfl rfl ?_
  refine s_do rfl rfl (w_alloc (bs (List.replicate 32 0)) Try.zeroValue25 (by kernel_rfl)) rfl ?_
  rintro _ w1 ⟨b2, rfl, hl_b2, hu_b2, p3, c_w1⟩
  have hs_w1 : w.heap.size ≤ w1.heap.size := Chg.size c_w1
  have C_w1 := Chg.pure (Chg.refl no w) c_w1
  have hn_b2 : w.heap.size ≤ b2 := by have := Chg.size C_w1; omega
  refine s_end ?_
  refine go_seq ?_
  refine go_drawsM (M := (blk b2)) 11 (.take 0 (.take 1 (.take 2 (.take 3 (.take 4 (.take 5 (.take 6 (.take 7 (.eff 8 (.take 9 (.eff 10 (.eff 11 (.eff 12 .done))))))))))))) (by kernel_rfl) (by kernel_rfl) fun w4 c_w4 => ?_
  have hs_w4 : w1.heap.size ≤ w4.heap.size := Chg.size c_w4
  replace p3 := p3.k c_w4
  have C_w4 := Chg.pure C_w1 c_w4
  have p3_0 := p3
  refine s_takeM (M := (blk b2)) rfl rfl (w0 := w4) (fun x_ c_ => r_move) ?_
  refine s_takeM (M := (blk b2)) rfl rfl (w0 := w4) (fun x_ c_ => r_conv_u8 Try.runUnderlying3 Try.runUnderlying5 rfl) ?_
  refine s_takeM (M := (blk b2)) rfl rfl (w0 := w4) (fun x_ c_ => r_move) ?_
  refine s_takeM (M := (blk b2)) rfl rfl (w0 := w4) (fun x_ c_ => r_shri rfl rfl (by omega) (by omega)) ?_
  refine s_takeM (M := (blk b2)) rfl rfl (w0 := w4) (fun x_ c_ => r_conv_u8 Try.runUnderlying3 Try.runUnderlying5 rfl) ?_
  refine s_takeM (M := (blk b2)) rfl rfl (w0 := w4) (fun x_ c_ => r_load1 Try.isAgg3 rfl ((hcp.k C_w4).kB c_ (by omega))) ?_
  refine s_takeM (M := (blk b2)) rfl rfl (w0 := w4) (fun x_ c_ => r_conv_u8 Try.runUnderlying3 Try.runUnderlying5 rfl) ?_
  refine s_takeM (M := (blk b2)) rfl rfl (w0 := w4) (fun x_ c_ => r_indexArr (k := 0) Try.runUnderlying25 Try.sizeOf5 rfl rfl (by first | rfl | omega) (by first | decide | omega)) ?_
  refine s_fxM rfl rfl (w_set_b (o := 0) (k := 0) Try.sizeOf5 rfl rfl p3 (by first | omega | (simp; done) | (simp; omega))) ?_
  rintro _ w5 ⟨q_w5, c_w5⟩
  have hs_w5 : w4.heap.size ≤ w5.heap.size := Chg.size c_w5
  have C_w5 := Chg.newRng C_w4 c_w5 (by omega)
  have p3 := q_w5
  have K_w5 := Chg.into (Chg.refl (blk b2) w4) c_w5 (fun _ _ _ m => m.1)
  refine ⟨K_w5, ?_⟩
  refine s_takeM (M := (blk b2)) rfl rfl (w0 := w4) (fun x_ c_ => r_indexArr (k := 1) Try.runUnderlying25 Try.sizeOf5 rfl rfl (by first | rfl | omega) (by first | decide | omega)) ?_
  refine s_fxM rfl rfl (w_set_b (o := 0) (k := 1) Try.sizeOf5 rfl rfl p3 (by first | omega | (simp; done) | (simp; omega))) ?_
  rintro _ w6 ⟨q_w6, c_w6⟩
  have hs_w6 : w5.heap.size ≤ w6.heap.size := Chg.size c_w6
  have C_w6 := Chg.newRng C_w5 c_w6 (by omega)
  have p3 := q_w6
  have K_w6 := Chg.into K_w5 c_w6 (fun _ _ _ m => m.1)
  refine ⟨K_w6, ?_⟩
  refine s_val rfl rfl (r_indexArr (k := 31) Try.runUnderlying25 Try.sizeOf5 rfl rfl (by first | rfl | omega) (by first | decide | omega)) rfl ?_
  refine s_do rfl rfl (w_set_b (o := 0) (k := 31) Try.sizeOf5 rfl rfl p3 (by first | omega | (simp; done) | (simp; omega))) rfl ?_
  rintro _ w7 ⟨q_w7, c_w7⟩
  have hs_w7 : w6.heap.size ≤ w7.heap.size := Chg.size c_w7
  have C_w7 := Chg.newRng C_w6 c_w7 (by omega)
  have p3 := q_w7
  refine s_end ?_
  refine go_seq ?_
  refine go_region 2 rfl rfl ?_
  refine s_val rfl rfl (r_indexArr (k := 2) Try.runUnderlying25 Try.sizeOf5 rfl rfl (by first | rfl | omega) (by first | decide | omega)) rfl ?_
  refine s_do rfl rfl (w_set_b (o := 0) (k := 2) (v := 1) Try.sizeOf5 rfl rfl p3 (by first | omega | (simp; done) | (simp; omega))) rfl ?_
  rintro _ w8 ⟨q_w8, c_w8⟩
  have hs_w8 : w7.heap.size ≤ w8.heap.size := Chg.size c_w8
  have C_w8 := Chg.newRng C_w7 c_w8 (by omega)
  have p3 := q_w8
  refine s_end ?_
  refine go_seq ?_
  refine go_region 2 rfl rfl ?_
  refine s_val rfl rfl (r_loadN Try.isAgg25 Try.sizeOf25 rfl p3.rd (by first | exact bs_len (by omega) | exact bs_len (by simp; done) | exact bs_len (by simp; omega))) rfl ?_
  refine s_do rfl rfl (w_storeA (o := 0) Try.sizeOf25 rfl rfl (by first | exact bs_len (by omega) | exact bs_len (by simp; done) | exact bs_len (by simp; omega)) (flat_bs _) p3 (by first | exact bs_len (by omega) | exact bs_len (by simp; done) | exact bs_len (by simp; omega))) rfl ?_
  rintro _ w9 ⟨q_w9, c_w9⟩
  have hs_w9 : w8.heap.size ≤ w9.heap.size := Chg.size c_w9
  have C_w9 := Chg.newRng C_w8 c_w9 (by omega)
  have p3 := q_w9
  refine s_end ?_
  refine go_ret ?_
  refine ⟨_, .cons ⟨_, rfl, run_load_agg Try.isAgg25 Try.sizeOf25 (by first | exact bs_len (by omega) | exact bs_len (by simp; done) | exact bs_len (by simp; omega)) p3.rd⟩ (.nil), ?_⟩
  exact ⟨rfl, C_w9⟩

end Go.Proofs.Ytdnccchcflaphaa
