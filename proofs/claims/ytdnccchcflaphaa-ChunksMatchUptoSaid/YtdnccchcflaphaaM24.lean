/- M24: contracts of functions of the program: called in any world that meets a contract's premises, the function returns what the contract says and changes no more than it says. -/
import Derived.Test.YtdnccchcflaphaaBld
import Derived.Test.YtdnccchcflaphaaEng8
import Derived.Test.YtdnccchcflaphaaEng9
import Derived.Test.YtdnccchcflaphaaEng10
import Derived.Test.YtdnccchcflaphaaEng11
import Derived.Test.YtdnccchcflaphaaEng12
import Derived.Test.YtdnccchcflaphaaChecked
open Go Go.Eng Go.Proofs
namespace Go.Proofs.Ytdnccchcflaphaa
set_option maxHeartbeats 8000000 in
set_option maxRecDepth 100000 in
theorem assemblesE_spec (root : List UInt8) (many : Int) (ls : List (List UInt8)) (vs : List Value) (ps : List Prf) (al ap : Option Addr) (N cl cp : Nat) (w : World) (hrt : root.length = 32) (hN : ls.length = N) (hNp : ps.length = N) (hNb : N < 4611686018427387904) (hcl : N ≤ cl) (hcp : N ≤ cp) (hsl : SlAt w al vs) (hls : SlsOk w vs ls) (hsp : SlAt w ap (pcells ps)) (hps : ∀ (k : Nat) (q : Prf), ps[k]? = some q → q.Ok w) (hsm : ∀ k, (ls.getD k []).length ≤ 1024) (hrange : many < 1 ∨ 1024 < many) :
    Rtn Try.prog 19 [.agg (bs root).toArray, i64 many, Value.slice al N cl, Value.slice ap N cp].toArray w (fun v w' => v = .bool true ∧ Kept w w') := by
  refine fn_body (l := [.agg (bs root).toArray, i64 many, Value.slice al N cl, Value.slice ap N cp]) 155 [.tmp 8] Try.func19 rfl Try.ntmps19 (Nat.le_of_ble_eq_true rfl) (by rw [Try.results19]) ?_
  refine go_seq ?_
  refine go_region 2 rfl rfl ?_
  refine s_do rfl rfl (w_boxA rfl) rfl ?_
  rintro _ w1 ⟨b2, rfl, hl_b2, hu_b2, p3, c_w1⟩
  have hs_w1 : w.heap.size ≤ w1.heap.size := Chg.size c_w1
  have C_w1 := Chg.pure (Chg.refl no w) c_w1
  have hn_b2 : w.heap.size ≤ b2 := by have := Chg.size C_w1; omega
  refine s_val rfl rfl (r_assign) rfl ?_
  refine s_end ?_
  refine go_seq ?_
  refine go_region 10 rfl rfl ?_
  refine s_val rfl rfl (r_loadN Try.isAgg25 Try.sizeOf25 rfl p3.rd (by first | exact bs_len (by omega) | exact bs_len (by simp; done) | exact bs_len (by simp; omega))) rfl ?_
  refine s_val rfl rfl (r_move) rfl ?_
  refine s_val rfl rfl (r_move) rfl ?_
  refine s_val rfl rfl (r_move) rfl ?_
  refine s_do rfl rfl (w_call Try.call36 rfl (assemble_all root many ls vs ps al ap N cl cp _ hrt hN hNp hNb hcl hcp (hsl.k C_w1) (hls.k C_w1) (hsp.k C_w1) (fun k q hq => (hps k q hq).k C_w1) hsm)) rfl ?_
  rintro _ w4 ⟨aB, nB, cB, lB, rfl, hlB, hB, hB0, hB1, c_w4⟩
  have hs_w4 : w1.heap.size ≤ w4.heap.size := Chg.size c_w4
  replace p3 := p3.k c_w4
  have C_w4 := Chg.pure C_w1 c_w4
  have hiB := SlAt.blk hB
  refine s_val rfl rfl (r_move) rfl ?_
  refine s_val rfl rfl (r_extract rfl rfl) rfl ?_
  refine s_val rfl rfl (r_extract rfl rfl) rfl ?_
  refine s_val rfl rfl (r_assign) rfl ?_
  refine s_val rfl rfl (r_assign) rfl ?_
  refine s_end ?_
  refine go_seq ?_
  refine go_region 13 rfl rfl ?_
  refine s_val rfl rfl (r_move) rfl ?_
  refine s_do rfl rfl (w_call Try.call13 rfl (in_spec _ _ _ _)) rfl ?_
  rintro _ w5 ⟨rfl, c_w5⟩
  have hs_w5 : w4.heap.size ≤ w5.heap.size := Chg.size c_w5
  replace p3 := p3.k c_w5
  replace hB := hB.k c_w5
  have C_w5 := Chg.pure C_w4 c_w5
  refine s_valB rfl rfl (r_not rfl) rfl (fun h6 => ?_) (fun h6 => ?_)
  · first | replace h6 := of_decide_eq_true h6 | replace h6 := of_decide_eq_false (nt h6) | skip
    refine s_do rfl rfl (w_call Try.call8 rfl (when_t (4) _)) rfl ?_
    rintro _ w7 ⟨rfl, c_w7⟩
    have hs_w7 : w5.heap.size ≤ w7.heap.size := Chg.size c_w7
    replace p3 := p3.k c_w7
    replace hB := hB.k c_w7
    have C_w7 := Chg.pure C_w5 c_w7
    refine s_val rfl rfl (r_move) rfl ?_
    refine s_val rfl rfl (r_len Try.runUnderlying37 rfl) rfl ?_
    refine s_val rfl rfl (r_move) rfl ?_
    refine s_val rfl rfl (r_len Try.runUnderlying46 rfl) rfl ?_
    refine s_valB rfl rfl (r_neq rfl rfl) rfl (fun h8 => ?_) (fun h8 => ?_)
    · first | replace h8 := of_decide_eq_true h8 | replace h8 := of_decide_eq_false (nt h8) | skip
      exfalso
      omega
    · first | replace h8 := of_decide_eq_false h8 | replace h8 := of_decide_eq_true (nf h8) | skip
      refine s_do rfl rfl (w_call Try.call8 rfl (when_f (2) _)) rfl ?_
      rintro _ w9 ⟨rfl, c_w9⟩
      have hs_w9 : w7.heap.size ≤ w9.heap.size := Chg.size c_w9
      replace p3 := p3.k c_w9
      replace hB := hB.k c_w9
      have C_w9 := Chg.pure C_w7 c_w9
      refine s_do rfl rfl (w_build2 (E := 26) Try.underlying66 (i := Try.t26) (by kernel_rfl) rfl rfl rfl rfl rfl rfl rfl) rfl ?_
      rintro _ w10 ⟨b11, rfl, hl_b11, hu_b11, o13, p12, c_w10⟩
      have hs_w10 : w9.heap.size ≤ w10.heap.size := Chg.size c_w10
      replace p3 := p3.k c_w10
      replace hB := hB.k c_w10
      have C_w10 := Chg.pure C_w9 c_w10
      have hn_b11 : w.heap.size ≤ b11 := by have := Chg.size C_w10; omega
      clear o13
      replace p12 : Pc w10 b11 0 [(i64 (4)), (i64 (0))] := p12
      refine s_do rfl rfl (w_call Try.call7 rfl (first_spec [4, 0] _ _ _ _ rfl (by decide) (SlAt.some p12.rd))) rfl ?_
      rintro _ w14 ⟨rfl, c_w14⟩
      have hs_w14 : w10.heap.size ≤ w14.heap.size := Chg.size c_w14
      replace p3 := p3.k c_w14
      replace hB := hB.k c_w14
      replace p12 := p12.k c_w14
      have C_w14 := Chg.pure C_w10 c_w14
      refine s_val rfl rfl (r_assign) rfl ?_
      refine s_end ?_
      refine go_seq ?_
      refine go_region 2 rfl rfl ?_
      refine s_do rfl rfl (w_makeMap) rfl ?_
      rintro _ w15 ⟨b16, rfl, hl_b16, hu_b16, mp17, c_w15⟩
      have hs_w15 : w14.heap.size ≤ w15.heap.size := Chg.size c_w15
      replace p3 := p3.k c_w15
      replace hB := hB.k c_w15
      replace p12 := p12.k c_w15
      have C_w15 := Chg.pure C_w14 c_w15
      have hn_b16 : w.heap.size ≤ b16 := by have := Chg.size C_w15; omega
      refine s_val rfl rfl (r_assign) rfl ?_
      refine s_end ?_
      refine go_seq ?_
      refine go_seq ?_
      refine go_region 1 rfl rfl ?_
      refine s_val rfl rfl (r_assign) rfl ?_
      refine s_end ?_
      refine go_meet [(11, 11), (13, 15), (40, 103)] (fun e' w' => e' 11 = i64 4 ∧ MapI w' b16 [] ∧ b16 < w'.heap.size ∧ SlAt w' aB (bs lB) ∧ Chg no w w') ?_ ?_
      ·
        refine go_block ?_
        refine go_loopM (σ := Nat) [(11, 11), (13, 15), (40, 103)] (fun (k : Nat) e' w' => e' 13 = i64 (k : Nat) ∧ e' 11 = i64 4 ∧ MapI w' b16 [] ∧ b16 < w'.heap.size ∧ SlAt w' aB (bs lB) ∧ Chg no w w') (fun (k : Nat) => 0) 0 ?_ ?_
        · exact ⟨rfl, rfl, mp17, by omega, hB, C_w15⟩
        rintro k f21 w20 ⟨e22, e23, hmap, hub, hB, C_w20⟩
        have ob_25 : ∃ g_, f21 = upd g_ 13 (i64 (k : Nat)) := ⟨f21, upd_id e22⟩
        obtain ⟨f24, rfl⟩ := ob_25
        have ob_27 : ∃ g_, f24 = upd g_ 11 (i64 4) := ⟨f24, upd_id e23⟩
        obtain ⟨f26, rfl⟩ := ob_27
        clear e22 e23
        have hs_w20 : w.heap.size ≤ w20.heap.size := Chg.size C_w20
        refine go_seq ?_
        refine go_seq ?_
        refine go_region 8 rfl rfl ?_
        refine s_val rfl rfl (r_move) rfl ?_
        refine s_val rfl rfl (r_move) rfl ?_
        refine s_val rfl rfl (r_len Try.runUnderlying37 rfl) rfl ?_
        refine s_val rfl rfl (r_lss rfl rfl) rfl ?_
        refine s_valB rfl rfl (r_move) rfl (fun h28 => ?_) (fun h28 => ?_)
        · first | replace h28 := of_decide_eq_true h28 | replace h28 := of_decide_eq_false (nt h28) | skip
          refine s_val_g rfl rfl (r_move) rfl ?_
          refine s_val_g rfl rfl (r_eql rfl rfl) rfl ?_
          refine s_val rfl rfl (r_pick true rfl) rfl ?_
          refine s_end ?_
          refine go_ifb _ rfl (fun h29 => ?_) (fun h29 => ?_)
          · first | replace h29 := of_decide_eq_true h29 | replace h29 := of_decide_eq_false (nt h29) | skip
            exfalso
            omega
          · first | replace h29 := of_decide_eq_false h29 | replace h29 := of_decide_eq_true (nf h29) | skip
            refine go_exit (loop_exit (block_hit ?_))
            refine go_nil (loop_normal ⟨?_, (by repeat (first | exact same_refl | exact same_over | refine same_upd rfl ?_ | refine same_over2 rfl ?_))⟩)
            exact ⟨rfl, hmap, hub, hB, C_w20⟩
        · first | replace h28 := of_decide_eq_false h28 | replace h28 := of_decide_eq_true (nf h28) | skip
          refine s_val_not rfl rfl ?_
          refine s_val_not rfl rfl ?_
          refine s_val rfl rfl (r_pick false rfl) rfl ?_
          refine s_end ?_
          refine go_false rfl ?_
          refine go_exit (loop_exit (block_hit ?_))
          refine go_nil (loop_normal ⟨?_, (by repeat (first | exact same_refl | exact same_over | refine same_upd rfl ?_ | refine same_over2 rfl ?_))⟩)
          exact ⟨rfl, hmap, hub, hB, C_w20⟩
      rintro f19 w18 ⟨e30, hmap, hub, hB, C_w18⟩
      have ob_32 : ∃ g_, f19 = upd g_ 11 (i64 4) := ⟨f19, upd_id e30⟩
      obtain ⟨f31, rfl⟩ := ob_32
      clear e30
      have hs_w18 : w.heap.size ≤ w18.heap.size := Chg.size C_w18
      refine go_seq ?_
      refine go_region 9 rfl rfl ?_
      refine s_val rfl rfl (r_move) rfl ?_
      refine s_val rfl rfl (r_move) rfl ?_
      refine s_val rfl rfl (r_lenMap Try.runUnderlying74 rfl hmap) rfl ?_
      refine s_val rfl rfl (r_move) rfl ?_
      refine s_val rfl rfl (r_lss rfl rfl) rfl ?_
      refine s_do rfl rfl (w_call Try.call8 rfl (when_spec (decide ((([] : List (Int × Value)).length : Int) < many)) (7) _)) rfl ?_
      rintro _ w33 ⟨rfl, c_w33⟩
      have hs_w33 : w18.heap.size ≤ w33.heap.size := Chg.size c_w33
      replace hmap := hmap.k c_w33
      replace hB := hB.k c_w33
      have C_w33 := Chg.pure C_w18 c_w33
      refine s_do rfl rfl (w_build2 (E := 26) Try.underlying66 (i := Try.t26) (by kernel_rfl) rfl rfl rfl rfl rfl rfl rfl) rfl ?_
      rintro _ w34 ⟨b35, rfl, hl_b35, hu_b35, o37, p36, c_w34⟩
      have hs_w34 : w33.heap.size ≤ w34.heap.size := Chg.size c_w34
      replace hmap := hmap.k c_w34
      replace hB := hB.k c_w34
      have C_w34 := Chg.pure C_w33 c_w34
      have hn_b35 : w.heap.size ≤ b35 := by have := Chg.size C_w34; omega
      clear o37
      replace p36 : Pc w34 b35 0 [(i64 (4)), (i64 ((if (decide ((([] : List (Int × Value)).length : Int) < many)) = true then (7 : Int) else 0)))] := p36
      refine s_do rfl rfl (w_call Try.call7 rfl (first_spec [4, (if (decide ((([] : List (Int × Value)).length : Int) < many)) = true then (7 : Int) else 0)] _ _ _ _ rfl (by decide) (SlAt.some p36.rd))) rfl ?_
      rintro _ w38 ⟨rfl, c_w38⟩
      have hs_w38 : w34.heap.size ≤ w38.heap.size := Chg.size c_w38
      replace hmap := hmap.k c_w38
      replace hB := hB.k c_w38
      replace p36 := p36.k c_w38
      have C_w38 := Chg.pure C_w34 c_w38
      refine s_val rfl rfl (r_assign) rfl ?_
      refine s_end ?_
      refine go_seq ?_
      refine go_seq ?_
      refine go_region 1 rfl rfl ?_
      refine s_val rfl rfl (r_assign) rfl ?_
      refine s_end ?_
      refine go_meet [(11, 11), (16, 16), (112, 127)] (fun e' w' => e' 11 = i64 4 ∧ MapI w' b16 [] ∧ b16 < w'.heap.size ∧ SlAt w' aB (bs lB) ∧ Chg no w w') ?_ ?_
      ·
        refine go_block ?_
        refine go_loopM (σ := Nat) [(11, 11), (16, 16), (112, 127)] (fun (j : Nat) e' w' => e' 16 = i64 (j : Nat) ∧ e' 11 = i64 4 ∧ MapI w' b16 [] ∧ b16 < w'.heap.size ∧ SlAt w' aB (bs lB) ∧ Chg no w w') (fun (j : Nat) => 0) 0 ?_ ?_
        · exact ⟨rfl, rfl, hmap, by omega, hB, C_w38⟩
        rintro j f42 w41 ⟨e43, e44, hmap, hub, hB, C_w41⟩
        have ob_46 : ∃ g_, f42 = upd g_ 16 (i64 (j : Nat)) := ⟨f42, upd_id e43⟩
        obtain ⟨f45, rfl⟩ := ob_46
        have ob_48 : ∃ g_, f45 = upd g_ 11 (i64 4) := ⟨f45, upd_id e44⟩
        obtain ⟨f47, rfl⟩ := ob_48
        clear e43 e44
        have hs_w41 : w.heap.size ≤ w41.heap.size := Chg.size C_w41
        refine go_seq ?_
        refine go_seq ?_
        refine go_region 8 rfl rfl ?_
        refine s_val rfl rfl (r_move) rfl ?_
        refine s_val rfl rfl (r_move) rfl ?_
        refine s_val rfl rfl (r_sub rfl rfl) rfl ?_
        refine s_val rfl rfl (r_lss rfl rfl) rfl ?_
        refine s_valB rfl rfl (r_move) rfl (fun h49 => ?_) (fun h49 => ?_)
        · first | replace h49 := of_decide_eq_true h49 | replace h49 := of_decide_eq_false (nt h49) | skip
          refine s_val_g rfl rfl (r_move) rfl ?_
          refine s_val_g rfl rfl (r_eql rfl rfl) rfl ?_
          refine s_val rfl rfl (r_pick true rfl) rfl ?_
          refine s_end ?_
          refine go_ifb _ rfl (fun h50 => ?_) (fun h50 => ?_)
          · first | replace h50 := of_decide_eq_true h50 | replace h50 := of_decide_eq_false (nt h50) | skip
            exfalso
            omega
          · first | replace h50 := of_decide_eq_false h50 | replace h50 := of_decide_eq_true (nf h50) | skip
            refine go_exit (loop_exit (block_hit ?_))
            refine go_nil (loop_normal ⟨?_, (by repeat (first | exact same_refl | exact same_over | refine same_upd rfl ?_ | refine same_over2 rfl ?_))⟩)
            exact ⟨rfl, hmap, hub, hB, C_w41⟩
        · first | replace h49 := of_decide_eq_false h49 | replace h49 := of_decide_eq_true (nf h49) | skip
          refine s_val_not rfl rfl ?_
          refine s_val_not rfl rfl ?_
          refine s_val rfl rfl (r_pick false rfl) rfl ?_
          refine s_end ?_
          refine go_false rfl ?_
          refine go_exit (loop_exit (block_hit ?_))
          refine go_nil (loop_normal ⟨?_, (by repeat (first | exact same_refl | exact same_over | refine same_upd rfl ?_ | refine same_over2 rfl ?_))⟩)
          exact ⟨rfl, hmap, hub, hB, C_w41⟩
      rintro f40 w39 ⟨e51, hmap, hub, hB, C_w39⟩
      have ob_53 : ∃ g_, f40 = upd g_ 11 (i64 4) := ⟨f40, upd_id e51⟩
      obtain ⟨f52, rfl⟩ := ob_53
      clear e51
      have hs_w39 : w.heap.size ≤ w39.heap.size := Chg.size C_w39
      refine go_seq ?_
      refine go_seq ?_
      refine go_region 2 rfl rfl ?_
      refine s_val rfl rfl (r_move) rfl ?_
      refine s_val rfl rfl (r_neq rfl rfl) rfl ?_
      refine s_end ?_
      refine go_ifb _ rfl (fun h54 => ?_) (fun h54 => ?_)
      · first | replace h54 := of_decide_eq_true h54 | replace h54 := of_decide_eq_false (nt h54) | skip
        refine go_seq ?_
        refine go_region 9 rfl rfl ?_
        refine s_val rfl rfl (r_move) rfl ?_
        refine s_val rfl rfl (r_len Try.runUnderlying22 rfl) rfl ?_
        refine s_val rfl rfl (r_eql rfl rfl) rfl ?_
        refine s_valB rfl rfl (r_move) rfl (fun h55 => ?_) (fun h55 => ?_)
        · first | replace h55 := of_decide_eq_true h55 | replace h55 := of_decide_eq_false (nt h55) | skip
          refine s_val_g rfl rfl (r_move) rfl ?_
          refine s_val_g rfl rfl (r_move) rfl ?_
          refine s_val_g rfl rfl (r_eql rfl rfl) rfl ?_
          refine s_val rfl rfl (r_pick true rfl) rfl ?_
          refine s_val rfl rfl (r_assign) rfl ?_
          refine s_end ?_
          refine go_ret ?_
          refine ⟨_, .cons rfl (.nil), ?_⟩
          exact ⟨congrArg Value.bool (decide_eq_true (by rw [asmE, if_pos (by omega)])), C_w39⟩
        · first | replace h55 := of_decide_eq_false h55 | replace h55 := of_decide_eq_true (nf h55) | skip
          exfalso
          have ha_ : asmE root many ls ps = 4 := by rw [asmE, if_pos (by omega)]
          have h_ := hB0 (by omega)
          omega
      · first | replace h54 := of_decide_eq_false h54 | replace h54 := of_decide_eq_true (nf h54) | skip
        exfalso
        omega
  · first | replace h6 := of_decide_eq_false h6 | replace h6 := of_decide_eq_true (nf h6) | skip
    exfalso
    omega


theorem assembles_spec (root : List UInt8) (many : Int) (ls : List (List UInt8)) (vs : List Value) (ps : List Prf) (al ap : Option Addr) (N cl cp : Nat) (w : World) (hrt : root.length = 32) (hN : ls.length = N) (hNp : ps.length = N) (hNb : N < 4611686018427387904) (hcl : N ≤ cl) (hcp : N ≤ cp) (hsl : SlAt w al vs) (hls : SlsOk w vs ls) (hsp : SlAt w ap (pcells ps)) (hps : ∀ (k : Nat) (q : Prf), ps[k]? = some q → q.Ok w) (hsm : ∀ k, (ls.getD k []).length ≤ 1024) :
    Rtn Try.prog 19 [.agg (bs root).toArray, i64 many, Value.slice al N cl, Value.slice ap N cp].toArray w (fun v w' => v = .bool true ∧ Kept w w') := by
  by_cases h : 1 ≤ many ∧ many ≤ 1024
  · exact assemblesO_spec root many ls vs ps al ap N cl cp w hrt hN hNp hNb hcl hcp hsl hls hsp hps hsm h
  · exact assemblesE_spec root many ls vs ps al ap N cl cp w hrt hN hNp hNb hcl hcp hsl hls hsp hps hsm (by omega)

end Go.Proofs.Ytdnccchcflaphaa
