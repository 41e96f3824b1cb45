/- M23: contracts of functions of the program: called in any world that meets a contract's premises, the function returns what the contract says and changes no more than it says. -/
import Derived.Test.YtdnccchcflaphaaM22
import Derived.Test.YtdnccchcflaphaaEng8
import Derived.Test.YtdnccchcflaphaaEng9
import Derived.Test.YtdnccchcflaphaaEng10
import Derived.Test.YtdnccchcflaphaaEng11
import Derived.Test.YtdnccchcflaphaaEng12
import Derived.Test.YtdnccchcflaphaaChecked
open Go Go.Eng Go.Proofs
namespace Go.Proofs.Ytdnccchcflaphaa
set_option maxHeartbeats 8000000 in
set_option maxRecDepth 100000 in
theorem assemblesO_spec (root : List UInt8) (many : Int) (ls : List (List UInt8)) (vs : List Value) (ps : List Prf) (al ap : Option Addr) (N cl cp : Nat) (w : World) (hrt : root.length = 32) (hN : ls.length = N) (hNp : ps.length = N) (hNb : N < 4611686018427387904) (hcl : N ≤ cl) (hcp : N ≤ cp) (hsl : SlAt w al vs) (hls : SlsOk w vs ls) (hsp : SlAt w ap (pcells ps)) (hps : ∀ (k : Nat) (q : Prf), ps[k]? = some q → q.Ok w) (hsm : ∀ k, (ls.getD k []).length ≤ 1024) (hrange : 1 ≤ many ∧ many ≤ 1024) :
    Rtn Try.prog 19 [.agg (bs root).toArray, i64 many, Value.slice al N cl, Value.slice ap N cp].toArray w (fun v w' => v = .bool true ∧ Kept w w') := by
  refine fn_body (l := [.agg (bs root).toArray, i64 many, Value.slice al N cl, Value.slice ap N cp]) 155 [.tmp 8] Try.func19 rfl Try.ntmps19 (Nat.le_of_ble_eq_true rfl) (by rw [Try.results19]) ?_
  refine go_seq ?_
  refine go_region 2 rfl rfl ?_
  refine s_do rfl rfl (w_boxA rfl) rfl ?_
  rintro _ w1 ⟨b2, rfl, hl_b2, hu_b2, p3, c_w1⟩
  have hs_w1 : w.heap.size ≤ w1.heap.size := Chg.size c_w1
  have C_w1 := Chg.pure (Chg.refl no w) c_w1
  have hn_b2 : w.heap.size ≤ b2 := by have := Chg.size C_w1; omega
  refine s_val rfl rfl (r_assign) rfl ?_
  refine s_end ?_
  refine go_seq ?_
  refine go_region 10 rfl rfl ?_
  refine s_val rfl rfl (r_loadN Try.isAgg25 Try.sizeOf25 rfl p3.rd (by first | exact bs_len (by omega) | exact bs_len (by simp; done) | exact bs_len (by simp; omega))) rfl ?_
  refine s_val rfl rfl (r_move) rfl ?_
  refine s_val rfl rfl (r_move) rfl ?_
  refine s_val rfl rfl (r_move) rfl ?_
  refine s_do rfl rfl (w_call Try.call36 rfl (assemble_all root many ls vs ps al ap N cl cp _ hrt hN hNp hNb hcl hcp (hsl.k C_w1) (hls.k C_w1) (hsp.k C_w1) (fun k q hq => (hps k q hq).k C_w1) hsm)) rfl ?_
  rintro _ w4 ⟨aB, nB, cB, lB, rfl, hlB, hB, hB0, hB1, c_w4⟩
  have hs_w4 : w1.heap.size ≤ w4.heap.size := Chg.size c_w4
  replace p3 := p3.k c_w4
  have C_w4 := Chg.pure C_w1 c_w4
  have hiB := SlAt.blk hB
  refine s_val rfl rfl (r_move) rfl ?_
  refine s_val rfl rfl (r_extract rfl rfl) rfl ?_
  refine s_val rfl rfl (r_extract rfl rfl) rfl ?_
  refine s_val rfl rfl (r_assign) rfl ?_
  refine s_val rfl rfl (r_assign) rfl ?_
  refine s_end ?_
  refine go_seq ?_
  refine go_region 13 rfl rfl ?_
  refine s_val rfl rfl (r_move) rfl ?_
  refine s_do rfl rfl (w_call Try.call13 rfl (in_spec _ _ _ _)) rfl ?_
  rintro _ w5 ⟨rfl, c_w5⟩
  have hs_w5 : w4.heap.size ≤ w5.heap.size := Chg.size c_w5
  replace p3 := p3.k c_w5
  replace hB := hB.k c_w5
  have C_w5 := Chg.pure C_w4 c_w5
  refine s_valB rfl rfl (r_not rfl) rfl (fun h6 => ?_) (fun h6 => ?_)
  · first | replace h6 := of_decide_eq_true h6 | replace h6 := of_decide_eq_false (nt h6) | skip
    exfalso
    omega
  · first | replace h6 := of_decide_eq_false h6 | replace h6 := of_decide_eq_true (nf h6) | skip
    refine s_do rfl rfl (w_call Try.call8 rfl (when_f (4) _)) rfl ?_
    rintro _ w7 ⟨rfl, c_w7⟩
    have hs_w7 : w5.heap.size ≤ w7.heap.size := Chg.size c_w7
    replace p3 := p3.k c_w7
    replace hB := hB.k c_w7
    have C_w7 := Chg.pure C_w5 c_w7
    refine s_val rfl rfl (r_move) rfl ?_
    refine s_val rfl rfl (r_len Try.runUnderlying37 rfl) rfl ?_
    refine s_val rfl rfl (r_move) rfl ?_
    refine s_val rfl rfl (r_len Try.runUnderlying46 rfl) rfl ?_
    refine s_valB rfl rfl (r_neq rfl rfl) rfl (fun h8 => ?_) (fun h8 => ?_)
    · first | replace h8 := of_decide_eq_true h8 | replace h8 := of_decide_eq_false (nt h8) | skip
      exfalso
      omega
    · first | replace h8 := of_decide_eq_false h8 | replace h8 := of_decide_eq_true (nf h8) | skip
      refine s_do rfl rfl (w_call Try.call8 rfl (when_f (2) _)) rfl ?_
      rintro _ w9 ⟨rfl, c_w9⟩
      have hs_w9 : w7.heap.size ≤ w9.heap.size := Chg.size c_w9
      replace p3 := p3.k c_w9
      replace hB := hB.k c_w9
      have C_w9 := Chg.pure C_w7 c_w9
      refine s_do rfl rfl (w_build2 (E := 26) Try.underlying66 (i := Try.t26) (by kernel_rfl) rfl rfl rfl rfl rfl rfl rfl) rfl ?_
      rintro _ w10 ⟨b11, rfl, hl_b11, hu_b11, o13, p12, c_w10⟩
      have hs_w10 : w9.heap.size ≤ w10.heap.size := Chg.size c_w10
      replace p3 := p3.k c_w10
      replace hB := hB.k c_w10
      have C_w10 := Chg.pure C_w9 c_w10
      have hn_b11 : w.heap.size ≤ b11 := by have := Chg.size C_w10; omega
      clear o13
      replace p12 : Pc w10 b11 0 [(i64 (0)), (i64 (0))] := p12
      refine s_do rfl rfl (w_call Try.call7 rfl (first_spec [0, 0] _ _ _ _ rfl (by decide) (SlAt.some p12.rd))) rfl ?_
      rintro _ w14 ⟨rfl, c_w14⟩
      have hs_w14 : w10.heap.size ≤ w14.heap.size := Chg.size c_w14
      replace p3 := p3.k c_w14
      replace hB := hB.k c_w14
      replace p12 := p12.k c_w14
      have C_w14 := Chg.pure C_w10 c_w14
      refine s_val rfl rfl (r_assign) rfl ?_
      refine s_end ?_
      refine go_seq ?_
      refine go_region 2 rfl rfl ?_
      refine s_do rfl rfl (w_makeMap) rfl ?_
      rintro _ w15 ⟨b16, rfl, hl_b16, hu_b16, mp17, c_w15⟩
      have hs_w15 : w14.heap.size ≤ w15.heap.size := Chg.size c_w15
      replace p3 := p3.k c_w15
      replace hB := hB.k c_w15
      replace p12 := p12.k c_w15
      have C_w15 := Chg.pure C_w14 c_w15
      have hn_b16 : w.heap.size ≤ b16 := by have := Chg.size C_w15; omega
      refine s_val rfl rfl (r_assign) rfl ?_
      refine s_end ?_
      refine go_seq ?_
      refine go_seq ?_
      refine go_region 1 rfl rfl ?_
      refine s_val rfl rfl (r_assign) rfl ?_
      refine s_end ?_
      refine go_meet [(11, 11), (13, 15), (40, 103)] (fun e' w' => ∃ (e : Int) (es : List (Int × Value)), e' 11 = i64 e ∧ (asmTo root many ls ps ps.length).1 = e ∧ (e = 0 → es = gmap vs (asmTo root many ls ps ps.length).2) ∧ MapI w' b16 es ∧ b16 < w'.heap.size ∧ SlAt w' aB (bs lB) ∧ Chg no w w') ?_ ?_
      ·
        refine go_block ?_
        refine go_loopM (σ := Nat × Int) [(11, 11), (13, 15), (40, 103)] (fun (x_ : Nat × Int) e' w' => match x_ with | (k, e) => e' 13 = i64 (k : Nat) ∧ e' 11 = i64 e ∧ k ≤ N ∧ (asmTo root many ls ps k).1 = e ∧ MapI w' b16 (gmap vs (asmTo root many ls ps k).2) ∧ b16 < w'.heap.size ∧ Pc w' b2 0 (bs root) ∧ b2 < w'.heap.size ∧ SlAt w' aB (bs lB) ∧ Chg no w w') (fun (x_ : Nat × Int) => match x_ with | (k, e) => N - k) (0, 0) ?_ ?_
        · exact ⟨rfl, rfl, by omega, rfl, mp17, by omega, p3, by omega, hB, C_w15⟩
        rintro ⟨k, e⟩ f21 w20 ⟨e22, e23, hk, he, hmap, hub, p3, hu_b2, hB, C_w20⟩
        have ob_25 : ∃ g_, f21 = upd g_ 13 (i64 (k : Nat)) := ⟨f21, upd_id e22⟩
        obtain ⟨f24, rfl⟩ := ob_25
        have ob_27 : ∃ g_, f24 = upd g_ 11 (i64 e) := ⟨f24, upd_id e23⟩
        obtain ⟨f26, rfl⟩ := ob_27
        clear e22 e23
        have hs_w20 : w.heap.size ≤ w20.heap.size := Chg.size C_w20
        refine go_seq ?_
        refine go_seq ?_
        refine go_region 8 rfl rfl ?_
        refine s_val rfl rfl (r_move) rfl ?_
        refine s_val rfl rfl (r_move) rfl ?_
        refine s_val rfl rfl (r_len Try.runUnderlying37 rfl) rfl ?_
        refine s_val rfl rfl (r_lss rfl rfl) rfl ?_
        refine s_valB rfl rfl (r_move) rfl (fun h28 => ?_) (fun h28 => ?_)
        · first | replace h28 := of_decide_eq_true h28 | replace h28 := of_decide_eq_false (nt h28) | skip
          have hkN := h28
          refine s_val_g rfl rfl (r_move) rfl ?_
          refine s_val_g rfl rfl (r_eql rfl rfl) rfl ?_
          refine s_val rfl rfl (r_pick true rfl) rfl ?_
          refine s_end ?_
          refine go_ifb _ rfl (fun h0 => ?_) (fun h0 => ?_)
          · first | replace h0 := of_decide_eq_true h0 | replace h0 := of_decide_eq_false (nt h0) | skip
            have ob_29 := hls.2 k (by omega)
            obtain ⟨ak, nk, ck, hvk, hlk, h0k, hck, hak⟩ := ob_29
            have hsmk := hsm k
            have ob_30 : ∃ q, ps[k]? = some q := ⟨_, List.getElem?_eq_getElem (by omega)⟩
            obtain ⟨q, hq⟩ := ob_30
            have hqo_ : q.P.length = q.np ∧ q.np ≤ q.cp ∧ q.np < 4611686018427387904 ∧ All32 q.P ∧ SlAt w q.a (bs q.P.flatten) := hps k q hq
            have hqP := hqo_.1
            have hqc := hqo_.2.1
            have hqb := hqo_.2.2.1
            have hq32 := hqo_.2.2.2.1
            have hqs := hqo_.2.2.2.2
            have hpne : pcells ps ≠ [] := by intro h_; have h2_ := pcells_length ps; rw [h_, List.length_nil] at h2_; omega
            have hpos_ := SlAt.pos hsp hpne
            obtain ⟨pb, po, hap, hrd⟩ := hpos_
            subst hap
            have ob_31 := Rd.prf hrd hq
            obtain ⟨hq0, hqi, hqn⟩ := ob_31
            have ob_32 := lookVal hls (G := (asmTo root many ls ps k).2) (fun i j h_ => by have := asmTo_lt k i j h_; omega) q.i
            obtain ⟨av, nv, cv, hval, hvl, hvc, hva⟩ := ob_32
            have hst0 : (asmTo root many ls ps k).1 = 0 := by omega
            refine go_skip ?_
            refine go_seq ?_
            refine go_block ?_
            refine go_seq ?_
            refine go_region 9 rfl rfl ?_
            refine s_val rfl rfl (r_move) rfl ?_
            refine s_val rfl rfl (r_move) rfl ?_
            refine s_val rfl rfl (r_indexSlP (k := k) Try.runUnderlying46 Try.sizeOf31 rfl (hrd.k C_w20) hpne rfl (by first | rfl | omega) (by omega)) rfl ?_
            refine s_val rfl rfl (r_fieldAddr Try.runUnderlying31 rfl Try.sizeOf3 rfl rfl) rfl ?_
            refine s_val rfl rfl (r_load1 Try.isAgg3 rfl (hqn.k C_w20)) rfl ?_
            refine s_val rfl rfl (r_move) rfl ?_
            refine s_valB rfl rfl (r_neq rfl rfl) rfl (fun h33 => ?_) (fun h33 => ?_)
            · first | replace h33 := of_decide_eq_true h33 | replace h33 := of_decide_eq_false (nt h33) | skip
              have h1 := h33
              refine s_do rfl rfl (w_call Try.call8 rfl (when_t (12) _)) rfl ?_
              rintro _ w34 ⟨rfl, c_w34⟩
              have hs_w34 : w20.heap.size ≤ w34.heap.size := Chg.size c_w34
              replace hmap := hmap.k c_w34
              replace p3 := p3.k c_w34
              replace hB := hB.k c_w34
              have C_w34 := Chg.pure C_w20 c_w34
              refine s_val rfl rfl (r_assign) rfl ?_
              refine s_end ?_
              refine go_seq ?_
              refine go_seq ?_
              refine go_region 2 rfl rfl ?_
              refine s_val rfl rfl (r_move) rfl ?_
              refine s_val rfl rfl (r_eql rfl rfl) rfl ?_
              refine s_end ?_
              refine go_ifb _ rfl (fun h35 => ?_) (fun h35 => ?_)
              · first | replace h35 := of_decide_eq_true h35 | replace h35 := of_decide_eq_false (nt h35) | skip
                exfalso
                omega
              · first | replace h35 := of_decide_eq_false h35 | replace h35 := of_decide_eq_true (nf h35) | skip
                refine go_skip ?_
                refine go_seq ?_
                refine go_region 12 rfl rfl ?_
                refine s_val rfl rfl (r_move) rfl ?_
                refine s_val rfl rfl (r_move) rfl ?_
                refine s_val rfl rfl (r_move) rfl ?_
                refine s_val rfl rfl (r_indexSlP (k := k) Try.runUnderlying46 Try.sizeOf31 rfl (hrd.k C_w34) hpne rfl (by first | rfl | omega) (by omega)) rfl ?_
                refine s_val rfl rfl (r_fieldAddr Try.runUnderlying31 rfl Try.sizeOf3 rfl rfl) rfl ?_
                refine s_val rfl rfl (r_load1 Try.isAgg3 rfl (hqi.k C_w34)) rfl ?_
                refine s_val rfl rfl (r_lookupV2 Try.underlying74 Try.underlying3 Try.zeroValue22 rfl rfl hmap hval rfl) rfl ?_
                refine s_val rfl rfl (r_move) rfl ?_
                refine s_val rfl rfl (r_extract rfl rfl) rfl ?_
                refine s_val rfl rfl (r_extract rfl rfl) rfl ?_
                refine s_val rfl rfl (r_assign) rfl ?_
                refine s_val rfl rfl (r_assign) rfl ?_
                refine s_end ?_
                refine go_seq ?_
                refine go_region 15 rfl rfl ?_
                refine s_val rfl rfl (r_move) rfl ?_
                refine s_val rfl rfl (r_move) rfl ?_
                refine s_valB rfl rfl (r_move) rfl (fun h36 => ?_) (fun h36 => ?_)
                · first | replace h36 := of_decide_eq_true h36 | replace h36 := of_decide_eq_false (nt h36) | skip
                  have hs_ := h36
                  rw [lookI_some] at hs_
                  refine s_val_g rfl rfl (r_move) rfl ?_
                  refine s_val_g rfl rfl (r_move) rfl ?_
                  refine s_val_g rfl rfl (r_move) rfl ?_
                  refine s_val_g rfl rfl (r_indexSl (k := k) Try.runUnderlying37 Try.sizeOf22 rfl (hsl.k C_w34) (by intro h_; have h2_ := hls.1; rw [h_, List.length_nil] at h2_; omega) rfl (by first | rfl | omega) (by omega)) rfl ?_
                  refine s_val_g rfl rfl (r_loadSl1 Try.isAgg22 rfl (hsl.k C_w34) hvk) rfl ?_
                  refine s_do_g rfl rfl (w_call Try.call14 rfl (bytesEq_spec (cont ls (asmTo root many ls ps k).2 q.i) (ls.getD k []) _ _ _ _ _ _ _ (by first | omega | (simp; done) | (simp; omega)) (by first | omega | (simp; done) | (simp; omega)) (hva.k C_w34) (hak.k C_w34))) rfl ?_
                  rintro _ w37 ⟨rfl, c_w37⟩
                  have hs_w37 : w34.heap.size ≤ w37.heap.size := Chg.size c_w37
                  replace hmap := hmap.k c_w37
                  replace p3 := p3.k c_w37
                  replace hB := hB.k c_w37
                  have C_w37 := Chg.pure C_w34 c_w37
                  refine s_val_g rfl rfl (r_not rfl) rfl ?_
                  refine s_val rfl rfl (r_pick true rfl) rfl ?_
                  refine s_do rfl rfl (w_call Try.call8 rfl (when_spec (!decide (cont ls (asmTo root many ls ps k).2 q.i = ls.getD k [])) (17) _)) rfl ?_
                  rintro _ w38 ⟨rfl, c_w38⟩
                  have hs_w38 : w37.heap.size ≤ w38.heap.size := Chg.size c_w38
                  replace hmap := hmap.k c_w38
                  replace p3 := p3.k c_w38
                  replace hB := hB.k c_w38
                  have C_w38 := Chg.pure C_w37 c_w38
                  refine s_do rfl rfl (w_build2 (E := 26) Try.underlying66 (i := Try.t26) (by kernel_rfl) rfl rfl rfl rfl rfl rfl rfl) rfl ?_
                  rintro _ w39 ⟨b40, rfl, hl_b40, hu_b40, o42, p41, c_w39⟩
                  have hs_w39 : w38.heap.size ≤ w39.heap.size := Chg.size c_w39
                  replace hmap := hmap.k c_w39
                  replace p3 := p3.k c_w39
                  replace hB := hB.k c_w39
                  have C_w39 := Chg.pure C_w38 c_w39
                  have hn_b40 : w.heap.size ≤ b40 := by have := Chg.size C_w39; omega
                  clear o42
                  replace p41 : Pc w39 b40 0 [(i64 (12)), (i64 ((if (!decide (cont ls (asmTo root many ls ps k).2 q.i = ls.getD k [])) = true then (17 : Int) else 0)))] := p41
                  refine s_do rfl rfl (w_call Try.call7 rfl (first_spec [12, (if (!decide (cont ls (asmTo root many ls ps k).2 q.i = ls.getD k [])) = true then (17 : Int) else 0)] _ _ _ _ rfl (by decide) (SlAt.some p41.rd))) rfl ?_
                  rintro _ w43 ⟨rfl, c_w43⟩
                  have hs_w43 : w39.heap.size ≤ w43.heap.size := Chg.size c_w43
                  replace hmap := hmap.k c_w43
                  replace p3 := p3.k c_w43
                  replace hB := hB.k c_w43
                  replace p41 := p41.k c_w43
                  have C_w43 := Chg.pure C_w39 c_w43
                  refine s_val rfl rfl (r_assign) rfl ?_
                  refine s_end ?_
                  refine go_drawsE 10 (.take 0 (.take 1 (.take 2 (.take 3 (.take 4 (.take 5 (.take 6 (.take 7 (.take 8 (.take 9 (.eff 10 .done))))))))))) (by kernel_rfl) (by kernel_rfl) fun w44 c_w44 => ?_
                  have hs_w44 : w43.heap.size ≤ w44.heap.size := Chg.size c_w44
                  replace hmap := hmap.k c_w44
                  replace p3 := p3.k c_w44
                  replace hB := hB.k c_w44
                  replace p41 := p41.k c_w44
                  have C_w44 := Chg.pure C_w43 c_w44
                  refine s_takeE rfl rfl (r_move) ?_
                  refine s_takeE rfl rfl (r_move) ?_
                  refine s_takeE rfl rfl (r_move) ?_
                  refine s_takeE rfl rfl (r_indexSlP (k := k) Try.runUnderlying46 Try.sizeOf31 rfl (hrd.k C_w44) hpne rfl (by first | rfl | omega) (by omega)) ?_
                  refine s_takeE rfl rfl (r_fieldAddr Try.runUnderlying31 rfl Try.sizeOf3 rfl rfl) ?_
                  refine s_takeE rfl rfl (r_load1 Try.isAgg3 rfl (hqi.k C_w44)) ?_
                  refine s_takeE rfl rfl (r_move) ?_
                  refine s_takeE rfl rfl (r_move) ?_
                  refine s_takeE rfl rfl (r_indexSl (k := k) Try.runUnderlying37 Try.sizeOf22 rfl (hsl.k C_w44) (by intro h_; have h2_ := hls.1; rw [h_, List.length_nil] at h2_; omega) rfl (by first | rfl | omega) (by omega)) ?_
                  refine s_takeE rfl rfl (r_loadSl1 Try.isAgg22 rfl (hsl.k C_w44) hvk) ?_
                  refine s_do rfl rfl (w_mapPut Try.underlying74 Try.underlying3 rfl rfl hmap) rfl ?_
                  rintro _ w45 ⟨q_w45, c_w45⟩
                  have hs_w45 : w44.heap.size ≤ w45.heap.size := Chg.size c_w45
                  replace p3 := p3.kB c_w45 (by omega)
                  replace hB := SlAt.keptE hB c_w45 (fun hc_ b_ o_ ha_ o2_ m_ => by have h1_ := hiB hc_ _ ha_; have h2_ : b_ = b16 := m_; simp only at h1_; omega)
                  replace p41 := p41.kB c_w45 (by omega)
                  have C_w45 := Chg.newB C_w44 c_w45 (by omega)
                  have hmap := q_w45
                  have hput_ : vs.getD k (.slice none 0 0) = Value.slice ak nk ck := by rw [List.getD_eq_getElem?_getD, hvk]; rfl
                  replace hmap : MapI w45 b16 (gmap vs (putN (asmTo root many ls ps k).2 q.i k)) := by rw [← putI_gmap, hput_]; exact hmap
                  refine s_end ?_
                  refine go_nil (block_normal ?_)
                  refine go_region 3 rfl rfl ?_
                  refine s_val rfl rfl (r_move) rfl ?_
                  refine s_val rfl rfl (r_addi rfl rfl (by omega)) rfl ?_
                  refine s_val rfl rfl (r_assign) rfl ?_
                  refine s_end ?_
                  refine go_nil (loop_normal ⟨⟨(k + 1, (firstE [12, (if (!decide (cont ls (asmTo root many ls ps k).2 q.i = ls.getD k [])) = true then (17 : Int) else 0)])), by first | omega | (dsimp only; omega), ⟨rfl, rfl, by omega, by rw [asmTo_succ hq hst0]; first | exact asmErr_12 h1 _ | exact asmErr_c h1 _ (by rw [confl_some hs_]; simp) | exact asmErr_c h1 _ (by rw [confl_none hs_]; rfl), by rw [asmTo_succ hq hst0]; exact hmap, by omega, p3, by omega, hB, C_w45⟩⟩, (by repeat (first | exact same_refl | exact same_over | refine same_upd rfl ?_ | refine same_over2 rfl ?_))⟩)
                · first | replace h36 := of_decide_eq_false h36 | replace h36 := of_decide_eq_true (nf h36) | skip
                  have hs_ := h36
                  rw [lookI_some] at hs_
                  refine s_val_not rfl rfl ?_
                  refine s_val_not rfl rfl ?_
                  refine s_val_not rfl rfl ?_
                  refine s_val_not rfl rfl ?_
                  refine s_val_not rfl rfl ?_
                  refine s_val_not rfl rfl ?_
                  refine s_val_not rfl rfl ?_
                  refine s_val rfl rfl (r_pick false rfl) rfl ?_
                  refine s_do rfl rfl (w_call Try.call8 rfl (when_f (17) _)) rfl ?_
                  rintro _ w46 ⟨rfl, c_w46⟩
                  have hs_w46 : w34.heap.size ≤ w46.heap.size := Chg.size c_w46
                  replace hmap := hmap.k c_w46
                  replace p3 := p3.k c_w46
                  replace hB := hB.k c_w46
                  have C_w46 := Chg.pure C_w34 c_w46
                  refine s_do rfl rfl (w_build2 (E := 26) Try.underlying66 (i := Try.t26) (by kernel_rfl) rfl rfl rfl rfl rfl rfl rfl) rfl ?_
                  rintro _ w47 ⟨b48, rfl, hl_b48, hu_b48, o50, p49, c_w47⟩
                  have hs_w47 : w46.heap.size ≤ w47.heap.size := Chg.size c_w47
                  replace hmap := hmap.k c_w47
                  replace p3 := p3.k c_w47
                  replace hB := hB.k c_w47
                  have C_w47 := Chg.pure C_w46 c_w47
                  have hn_b48 : w.heap.size ≤ b48 := by have := Chg.size C_w47; omega
                  clear o50
                  replace p49 : Pc w47 b48 0 [(i64 (12)), (i64 (0))] := p49
                  refine s_do rfl rfl (w_call Try.call7 rfl (first_spec [12, 0] _ _ _ _ rfl (by decide) (SlAt.some p49.rd))) rfl ?_
                  rintro _ w51 ⟨rfl, c_w51⟩
                  have hs_w51 : w47.heap.size ≤ w51.heap.size := Chg.size c_w51
                  replace hmap := hmap.k c_w51
                  replace p3 := p3.k c_w51
                  replace hB := hB.k c_w51
                  replace p49 := p49.k c_w51
                  have C_w51 := Chg.pure C_w47 c_w51
                  refine s_val rfl rfl (r_assign) rfl ?_
                  refine s_end ?_
                  refine go_drawsE 10 (.take 0 (.take 1 (.take 2 (.take 3 (.take 4 (.take 5 (.take 6 (.take 7 (.take 8 (.take 9 (.eff 10 .done))))))))))) (by kernel_rfl) (by kernel_rfl) fun w52 c_w52 => ?_
                  have hs_w52 : w51.heap.size ≤ w52.heap.size := Chg.size c_w52
                  replace hmap := hmap.k c_w52
                  replace p3 := p3.k c_w52
                  replace hB := hB.k c_w52
                  replace p49 := p49.k c_w52
                  have C_w52 := Chg.pure C_w51 c_w52
                  refine s_takeE rfl rfl (r_move) ?_
                  refine s_takeE rfl rfl (r_move) ?_
                  refine s_takeE rfl rfl (r_move) ?_
                  refine s_takeE rfl rfl (r_indexSlP (k := k) Try.runUnderlying46 Try.sizeOf31 rfl (hrd.k C_w52) hpne rfl (by first | rfl | omega) (by omega)) ?_
                  refine s_takeE rfl rfl (r_fieldAddr Try.runUnderlying31 rfl Try.sizeOf3 rfl rfl) ?_
                  refine s_takeE rfl rfl (r_load1 Try.isAgg3 rfl (hqi.k C_w52)) ?_
                  refine s_takeE rfl rfl (r_move) ?_
                  refine s_takeE rfl rfl (r_move) ?_
                  refine s_takeE rfl rfl (r_indexSl (k := k) Try.runUnderlying37 Try.sizeOf22 rfl (hsl.k C_w52) (by intro h_; have h2_ := hls.1; rw [h_, List.length_nil] at h2_; omega) rfl (by first | rfl | omega) (by omega)) ?_
                  refine s_takeE rfl rfl (r_loadSl1 Try.isAgg22 rfl (hsl.k C_w52) hvk) ?_
                  refine s_do rfl rfl (w_mapPut Try.underlying74 Try.underlying3 rfl rfl hmap) rfl ?_
                  rintro _ w53 ⟨q_w53, c_w53⟩
                  have hs_w53 : w52.heap.size ≤ w53.heap.size := Chg.size c_w53
                  replace p3 := p3.kB c_w53 (by omega)
                  replace hB := SlAt.keptE hB c_w53 (fun hc_ b_ o_ ha_ o2_ m_ => by have h1_ := hiB hc_ _ ha_; have h2_ : b_ = b16 := m_; simp only at h1_; omega)
                  replace p49 := p49.kB c_w53 (by omega)
                  have C_w53 := Chg.newB C_w52 c_w53 (by omega)
                  have hmap := q_w53
                  have hput_ : vs.getD k (.slice none 0 0) = Value.slice ak nk ck := by rw [List.getD_eq_getElem?_getD, hvk]; rfl
                  replace hmap : MapI w53 b16 (gmap vs (putN (asmTo root many ls ps k).2 q.i k)) := by rw [← putI_gmap, hput_]; exact hmap
                  refine s_end ?_
                  refine go_nil (block_normal ?_)
                  refine go_region 3 rfl rfl ?_
                  refine s_val rfl rfl (r_move) rfl ?_
                  refine s_val rfl rfl (r_addi rfl rfl (by omega)) rfl ?_
                  refine s_val rfl rfl (r_assign) rfl ?_
                  refine s_end ?_
                  refine go_nil (loop_normal ⟨⟨(k + 1, (firstE [12, 0])), by first | omega | (dsimp only; omega), ⟨rfl, rfl, by omega, by rw [asmTo_succ hq hst0]; first | exact asmErr_12 h1 _ | exact asmErr_c h1 _ (by rw [confl_some hs_]; simp) | exact asmErr_c h1 _ (by rw [confl_none hs_]; rfl), by rw [asmTo_succ hq hst0]; exact hmap, by omega, p3, by omega, hB, C_w53⟩⟩, (by repeat (first | exact same_refl | exact same_over | refine same_upd rfl ?_ | refine same_over2 rfl ?_))⟩)
            · first | replace h33 := of_decide_eq_false h33 | replace h33 := of_decide_eq_true (nf h33) | skip
              have h1 := h33
              refine s_do rfl rfl (w_call Try.call8 rfl (when_f (12) _)) rfl ?_
              rintro _ w54 ⟨rfl, c_w54⟩
              have hs_w54 : w20.heap.size ≤ w54.heap.size := Chg.size c_w54
              replace hmap := hmap.k c_w54
              replace p3 := p3.k c_w54
              replace hB := hB.k c_w54
              have C_w54 := Chg.pure C_w20 c_w54
              refine s_val rfl rfl (r_assign) rfl ?_
              refine s_end ?_
              refine go_seq ?_
              refine go_seq ?_
              refine go_region 2 rfl rfl ?_
              refine s_val rfl rfl (r_move) rfl ?_
              refine s_val rfl rfl (r_eql rfl rfl) rfl ?_
              refine s_end ?_
              refine go_ifb _ rfl (fun h55 => ?_) (fun h55 => ?_)
              · first | replace h55 := of_decide_eq_true h55 | replace h55 := of_decide_eq_false (nt h55) | skip
                refine go_drawsE 9 (.take 0 (.take 1 (.take 2 (.take 3 (.take 4 (.take 5 (.take 6 (.take 7 (.take 8 (.eff 9 (.eff 10 .done))))))))))) (by kernel_rfl) (by kernel_rfl) fun w56 c_w56 => ?_
                have hs_w56 : w54.heap.size ≤ w56.heap.size := Chg.size c_w56
                replace hmap := hmap.k c_w56
                replace p3 := p3.k c_w56
                replace hB := hB.k c_w56
                have C_w56 := Chg.pure C_w54 c_w56
                refine s_takeE rfl rfl (r_loadN Try.isAgg25 Try.sizeOf25 rfl p3.rd (by first | exact bs_len (by omega) | exact bs_len (by simp; done) | exact bs_len (by simp; omega))) ?_
                refine s_takeE rfl rfl (r_move) ?_
                refine s_takeE rfl rfl (r_move) ?_
                refine s_takeE rfl rfl (r_indexSl (k := k) Try.runUnderlying37 Try.sizeOf22 rfl (hsl.k C_w56) (by intro h_; have h2_ := hls.1; rw [h_, List.length_nil] at h2_; omega) rfl (by first | rfl | omega) (by omega)) ?_
                refine s_takeE rfl rfl (r_loadSl1 Try.isAgg22 rfl (hsl.k C_w56) hvk) ?_
                refine s_takeE rfl rfl (r_move) ?_
                refine s_takeE rfl rfl (r_move) ?_
                refine s_takeE rfl rfl (r_indexSlP (k := k) Try.runUnderlying46 Try.sizeOf31 rfl (hrd.k C_w56) hpne rfl (by first | rfl | omega) (by omega)) ?_
                refine s_takeE rfl rfl (r_loadN Try.isAgg31 Try.sizeOf31 rfl (hq0.k C_w56) rfl) ?_
                refine s_do rfl rfl (w_call Try.call17 rfl (check_spec root (ls.getD k []) ak nk ck q.i q.n q.P q.a q.np q.cp _ hrt hlk h0k (by omega) hck (hak.k C_w56) hqP hqc hqb hq32 (hqs.k C_w56))) rfl ?_
                rintro _ w57 ⟨rfl, c_w57⟩
                have hs_w57 : w56.heap.size ≤ w57.heap.size := Chg.size c_w57
                replace hmap := hmap.k c_w57
                replace p3 := p3.k c_w57
                replace hB := hB.k c_w57
                have C_w57 := Chg.pure C_w56 c_w57
                refine s_val rfl rfl (r_assign) rfl ?_
                refine s_end ?_
                refine go_seq ?_
                refine go_region 12 rfl rfl ?_
                refine s_val rfl rfl (r_move) rfl ?_
                refine s_val rfl rfl (r_move) rfl ?_
                refine s_val rfl rfl (r_move) rfl ?_
                refine s_val rfl rfl (r_indexSlP (k := k) Try.runUnderlying46 Try.sizeOf31 rfl (hrd.k C_w57) hpne rfl (by first | rfl | omega) (by omega)) rfl ?_
                refine s_val rfl rfl (r_fieldAddr Try.runUnderlying31 rfl Try.sizeOf3 rfl rfl) rfl ?_
                refine s_val rfl rfl (r_load1 Try.isAgg3 rfl (hqi.k C_w57)) rfl ?_
                refine s_val rfl rfl (r_lookupV2 Try.underlying74 Try.underlying3 Try.zeroValue22 rfl rfl hmap hval rfl) rfl ?_
                refine s_val rfl rfl (r_move) rfl ?_
                refine s_val rfl rfl (r_extract rfl rfl) rfl ?_
                refine s_val rfl rfl (r_extract rfl rfl) rfl ?_
                refine s_val rfl rfl (r_assign) rfl ?_
                refine s_val rfl rfl (r_assign) rfl ?_
                refine s_end ?_
                refine go_seq ?_
                refine go_region 15 rfl rfl ?_
                refine s_val rfl rfl (r_move) rfl ?_
                refine s_val rfl rfl (r_move) rfl ?_
                refine s_valB rfl rfl (r_move) rfl (fun h58 => ?_) (fun h58 => ?_)
                · first | replace h58 := of_decide_eq_true h58 | replace h58 := of_decide_eq_false (nt h58) | skip
                  have hs_ := h58
                  rw [lookI_some] at hs_
                  refine s_val_g rfl rfl (r_move) rfl ?_
                  refine s_val_g rfl rfl (r_move) rfl ?_
                  refine s_val_g rfl rfl (r_move) rfl ?_
                  refine s_val_g rfl rfl (r_indexSl (k := k) Try.runUnderlying37 Try.sizeOf22 rfl (hsl.k C_w57) (by intro h_; have h2_ := hls.1; rw [h_, List.length_nil] at h2_; omega) rfl (by first | rfl | omega) (by omega)) rfl ?_
                  refine s_val_g rfl rfl (r_loadSl1 Try.isAgg22 rfl (hsl.k C_w57) hvk) rfl ?_
                  refine s_do_g rfl rfl (w_call Try.call14 rfl (bytesEq_spec (cont ls (asmTo root many ls ps k).2 q.i) (ls.getD k []) _ _ _ _ _ _ _ (by first | omega | (simp; done) | (simp; omega)) (by first | omega | (simp; done) | (simp; omega)) (hva.k C_w57) (hak.k C_w57))) rfl ?_
                  rintro _ w59 ⟨rfl, c_w59⟩
                  have hs_w59 : w57.heap.size ≤ w59.heap.size := Chg.size c_w59
                  replace hmap := hmap.k c_w59
                  replace p3 := p3.k c_w59
                  replace hB := hB.k c_w59
                  have C_w59 := Chg.pure C_w57 c_w59
                  refine s_val_g rfl rfl (r_not rfl) rfl ?_
                  refine s_val rfl rfl (r_pick true rfl) rfl ?_
                  refine s_do rfl rfl (w_call Try.call8 rfl (when_spec (!decide (cont ls (asmTo root many ls ps k).2 q.i = ls.getD k [])) (17) _)) rfl ?_
                  rintro _ w60 ⟨rfl, c_w60⟩
                  have hs_w60 : w59.heap.size ≤ w60.heap.size := Chg.size c_w60
                  replace hmap := hmap.k c_w60
                  replace p3 := p3.k c_w60
                  replace hB := hB.k c_w60
                  have C_w60 := Chg.pure C_w59 c_w60
                  refine s_do rfl rfl (w_build2 (E := 26) Try.underlying66 (i := Try.t26) (by kernel_rfl) rfl rfl rfl rfl rfl rfl rfl) rfl ?_
                  rintro _ w61 ⟨b62, rfl, hl_b62, hu_b62, o64, p63, c_w61⟩
                  have hs_w61 : w60.heap.size ≤ w61.heap.size := Chg.size c_w61
                  replace hmap := hmap.k c_w61
                  replace p3 := p3.k c_w61
                  replace hB := hB.k c_w61
                  have C_w61 := Chg.pure C_w60 c_w61
                  have hn_b62 : w.heap.size ≤ b62 := by have := Chg.size C_w61; omega
                  clear o64
                  replace p63 : Pc w61 b62 0 [(i64 ((checkF root (ls.getD k []) q.i q.n q.P))), (i64 ((if (!decide (cont ls (asmTo root many ls ps k).2 q.i = ls.getD k [])) = true then (17 : Int) else 0)))] := p63
                  refine s_do rfl rfl (w_call Try.call7 rfl (first_spec [(checkF root (ls.getD k []) q.i q.n q.P), (if (!decide (cont ls (asmTo root many ls ps k).2 q.i = ls.getD k [])) = true then (17 : Int) else 0)] _ _ _ _ rfl (by decide) (SlAt.some p63.rd))) rfl ?_
                  rintro _ w65 ⟨rfl, c_w65⟩
                  have hs_w65 : w61.heap.size ≤ w65.heap.size := Chg.size c_w65
                  replace hmap := hmap.k c_w65
                  replace p3 := p3.k c_w65
                  replace hB := hB.k c_w65
                  replace p63 := p63.k c_w65
                  have C_w65 := Chg.pure C_w61 c_w65
                  refine s_val rfl rfl (r_assign) rfl ?_
                  refine s_end ?_
                  refine go_drawsE 10 (.take 0 (.take 1 (.take 2 (.take 3 (.take 4 (.take 5 (.take 6 (.take 7 (.take 8 (.take 9 (.eff 10 .done))))))))))) (by kernel_rfl) (by kernel_rfl) fun w66 c_w66 => ?_
                  have hs_w66 : w65.heap.size ≤ w66.heap.size := Chg.size c_w66
                  replace hmap := hmap.k c_w66
                  replace p3 := p3.k c_w66
                  replace hB := hB.k c_w66
                  replace p63 := p63.k c_w66
                  have C_w66 := Chg.pure C_w65 c_w66
                  refine s_takeE rfl rfl (r_move) ?_
                  refine s_takeE rfl rfl (r_move) ?_
                  refine s_takeE rfl rfl (r_move) ?_
                  refine s_takeE rfl rfl (r_indexSlP (k := k) Try.runUnderlying46 Try.sizeOf31 rfl (hrd.k C_w66) hpne rfl (by first | rfl | omega) (by omega)) ?_
                  refine s_takeE rfl rfl (r_fieldAddr Try.runUnderlying31 rfl Try.sizeOf3 rfl rfl) ?_
                  refine s_takeE rfl rfl (r_load1 Try.isAgg3 rfl (hqi.k C_w66)) ?_
                  refine s_takeE rfl rfl (r_move) ?_
                  refine s_takeE rfl rfl (r_move) ?_
                  refine s_takeE rfl rfl (r_indexSl (k := k) Try.runUnderlying37 Try.sizeOf22 rfl (hsl.k C_w66) (by intro h_; have h2_ := hls.1; rw [h_, List.length_nil] at h2_; omega) rfl (by first | rfl | omega) (by omega)) ?_
                  refine s_takeE rfl rfl (r_loadSl1 Try.isAgg22 rfl (hsl.k C_w66) hvk) ?_
                  refine s_do rfl rfl (w_mapPut Try.underlying74 Try.underlying3 rfl rfl hmap) rfl ?_
                  rintro _ w67 ⟨q_w67, c_w67⟩
                  have hs_w67 : w66.heap.size ≤ w67.heap.size := Chg.size c_w67
                  replace p3 := p3.kB c_w67 (by omega)
                  replace hB := SlAt.keptE hB c_w67 (fun hc_ b_ o_ ha_ o2_ m_ => by have h1_ := hiB hc_ _ ha_; have h2_ : b_ = b16 := m_; simp only at h1_; omega)
                  replace p63 := p63.kB c_w67 (by omega)
                  have C_w67 := Chg.newB C_w66 c_w67 (by omega)
                  have hmap := q_w67
                  have hput_ : vs.getD k (.slice none 0 0) = Value.slice ak nk ck := by rw [List.getD_eq_getElem?_getD, hvk]; rfl
                  replace hmap : MapI w67 b16 (gmap vs (putN (asmTo root many ls ps k).2 q.i k)) := by rw [← putI_gmap, hput_]; exact hmap
                  refine s_end ?_
                  refine go_nil (block_normal ?_)
                  refine go_region 3 rfl rfl ?_
                  refine s_val rfl rfl (r_move) rfl ?_
                  refine s_val rfl rfl (r_addi rfl rfl (by omega)) rfl ?_
                  refine s_val rfl rfl (r_assign) rfl ?_
                  refine s_end ?_
                  refine go_nil (loop_normal ⟨⟨(k + 1, (firstE [(checkF root (ls.getD k []) q.i q.n q.P), (if (!decide (cont ls (asmTo root many ls ps k).2 q.i = ls.getD k [])) = true then (17 : Int) else 0)])), by first | omega | (dsimp only; omega), ⟨rfl, rfl, by omega, by rw [asmTo_succ hq hst0]; first | exact asmErr_12 h1 _ | exact asmErr_c h1 _ (by rw [confl_some hs_]; simp) | exact asmErr_c h1 _ (by rw [confl_none hs_]; rfl), by rw [asmTo_succ hq hst0]; exact hmap, by omega, p3, by omega, hB, C_w67⟩⟩, (by repeat (first | exact same_refl | exact same_over | refine same_upd rfl ?_ | refine same_over2 rfl ?_))⟩)
                · first | replace h58 := of_decide_eq_false h58 | replace h58 := of_decide_eq_true (nf h58) | skip
                  have hs_ := h58
                  rw [lookI_some] at hs_
                  refine s_val_not rfl rfl ?_
                  refine s_val_not rfl rfl ?_
                  refine s_val_not rfl rfl ?_
                  refine s_val_not rfl rfl ?_
                  refine s_val_not rfl rfl ?_
                  refine s_val_not rfl rfl ?_
                  refine s_val_not rfl rfl ?_
                  refine s_val rfl rfl (r_pick false rfl) rfl ?_
                  refine s_do rfl rfl (w_call Try.call8 rfl (when_f (17) _)) rfl ?_
                  rintro _ w68 ⟨rfl, c_w68⟩
                  have hs_w68 : w57.heap.size ≤ w68.heap.size := Chg.size c_w68
                  replace hmap := hmap.k c_w68
                  replace p3 := p3.k c_w68
                  replace hB := hB.k c_w68
                  have C_w68 := Chg.pure C_w57 c_w68
                  refine s_do rfl rfl (w_build2 (E := 26) Try.underlying66 (i := Try.t26) (by kernel_rfl) rfl rfl rfl rfl rfl rfl rfl) rfl ?_
                  rintro _ w69 ⟨b70, rfl, hl_b70, hu_b70, o72, p71, c_w69⟩
                  have hs_w69 : w68.heap.size ≤ w69.heap.size := Chg.size c_w69
                  replace hmap := hmap.k c_w69
                  replace p3 := p3.k c_w69
                  replace hB := hB.k c_w69
                  have C_w69 := Chg.pure C_w68 c_w69
                  have hn_b70 : w.heap.size ≤ b70 := by have := Chg.size C_w69; omega
                  clear o72
                  replace p71 : Pc w69 b70 0 [(i64 ((checkF root (ls.getD k []) q.i q.n q.P))), (i64 (0))] := p71
                  refine s_do rfl rfl (w_call Try.call7 rfl (first_spec [(checkF root (ls.getD k []) q.i q.n q.P), 0] _ _ _ _ rfl (by decide) (SlAt.some p71.rd))) rfl ?_
                  rintro _ w73 ⟨rfl, c_w73⟩
                  have hs_w73 : w69.heap.size ≤ w73.heap.size := Chg.size c_w73
                  replace hmap := hmap.k c_w73
                  replace p3 := p3.k c_w73
                  replace hB := hB.k c_w73
                  replace p71 := p71.k c_w73
                  have C_w73 := Chg.pure C_w69 c_w73
                  refine s_val rfl rfl (r_assign) rfl ?_
                  refine s_end ?_
                  refine go_drawsE 10 (.take 0 (.take 1 (.take 2 (.take 3 (.take 4 (.take 5 (.take 6 (.take 7 (.take 8 (.take 9 (.eff 10 .done))))))))))) (by kernel_rfl) (by kernel_rfl) fun w74 c_w74 => ?_
                  have hs_w74 : w73.heap.size ≤ w74.heap.size := Chg.size c_w74
                  replace hmap := hmap.k c_w74
                  replace p3 := p3.k c_w74
                  replace hB := hB.k c_w74
                  replace p71 := p71.k c_w74
                  have C_w74 := Chg.pure C_w73 c_w74
                  refine s_takeE rfl rfl (r_move) ?_
                  refine s_takeE rfl rfl (r_move) ?_
                  refine s_takeE rfl rfl (r_move) ?_
                  refine s_takeE rfl rfl (r_indexSlP (k := k) Try.runUnderlying46 Try.sizeOf31 rfl (hrd.k C_w74) hpne rfl (by first | rfl | omega) (by omega)) ?_
                  refine s_takeE rfl rfl (r_fieldAddr Try.runUnderlying31 rfl Try.sizeOf3 rfl rfl) ?_
                  refine s_takeE rfl rfl (r_load1 Try.isAgg3 rfl (hqi.k C_w74)) ?_
                  refine s_takeE rfl rfl (r_move) ?_
                  refine s_takeE rfl rfl (r_move) ?_
                  refine s_takeE rfl rfl (r_indexSl (k := k) Try.runUnderlying37 Try.sizeOf22 rfl (hsl.k C_w74) (by intro h_; have h2_ := hls.1; rw [h_, List.length_nil] at h2_; omega) rfl (by first | rfl | omega) (by omega)) ?_
                  refine s_takeE rfl rfl (r_loadSl1 Try.isAgg22 rfl (hsl.k C_w74) hvk) ?_
                  refine s_do rfl rfl (w_mapPut Try.underlying74 Try.underlying3 rfl rfl hmap) rfl ?_
                  rintro _ w75 ⟨q_w75, c_w75⟩
                  have hs_w75 : w74.heap.size ≤ w75.heap.size := Chg.size c_w75
                  replace p3 := p3.kB c_w75 (by omega)
                  replace hB := SlAt.keptE hB c_w75 (fun hc_ b_ o_ ha_ o2_ m_ => by have h1_ := hiB hc_ _ ha_; have h2_ : b_ = b16 := m_; simp only at h1_; omega)
                  replace p71 := p71.kB c_w75 (by omega)
                  have C_w75 := Chg.newB C_w74 c_w75 (by omega)
                  have hmap := q_w75
                  have hput_ : vs.getD k (.slice none 0 0) = Value.slice ak nk ck := by rw [List.getD_eq_getElem?_getD, hvk]; rfl
                  replace hmap : MapI w75 b16 (gmap vs (putN (asmTo root many ls ps k).2 q.i k)) := by rw [← putI_gmap, hput_]; exact hmap
                  refine s_end ?_
                  refine go_nil (block_normal ?_)
                  refine go_region 3 rfl rfl ?_
                  refine s_val rfl rfl (r_move) rfl ?_
                  refine s_val rfl rfl (r_addi rfl rfl (by omega)) rfl ?_
                  refine s_val rfl rfl (r_assign) rfl ?_
                  refine s_end ?_
                  refine go_nil (loop_normal ⟨⟨(k + 1, (firstE [(checkF root (ls.getD k []) q.i q.n q.P), 0])), by first | omega | (dsimp only; omega), ⟨rfl, rfl, by omega, by rw [asmTo_succ hq hst0]; first | exact asmErr_12 h1 _ | exact asmErr_c h1 _ (by rw [confl_some hs_]; simp) | exact asmErr_c h1 _ (by rw [confl_none hs_]; rfl), by rw [asmTo_succ hq hst0]; exact hmap, by omega, p3, by omega, hB, C_w75⟩⟩, (by repeat (first | exact same_refl | exact same_over | refine same_upd rfl ?_ | refine same_over2 rfl ?_))⟩)
              · first | replace h55 := of_decide_eq_false h55 | replace h55 := of_decide_eq_true (nf h55) | skip
                exfalso
                omega
          · first | replace h0 := of_decide_eq_false h0 | replace h0 := of_decide_eq_true (nf h0) | skip
            refine go_exit (loop_exit (block_hit ?_))
            refine go_nil (loop_normal ⟨?_, (by repeat (first | exact same_refl | exact same_over | refine same_upd rfl ?_ | refine same_over2 rfl ?_))⟩)
            have hps_ := asmTo_err (root := root) (many := many) (ls := ls) (ps := ps) (k := k) (by omega) (ps.length - k)
            rw [show k + (ps.length - k) = ps.length by omega] at hps_
            exact ⟨e, _, rfl, by rw [hps_]; exact he, fun h_ => absurd h_ h0, hmap, hub, hB, C_w20⟩
        · first | replace h28 := of_decide_eq_false h28 | replace h28 := of_decide_eq_true (nf h28) | skip
          have hkN := h28
          refine s_val_not rfl rfl ?_
          refine s_val_not rfl rfl ?_
          refine s_val rfl rfl (r_pick false rfl) rfl ?_
          refine s_end ?_
          refine go_false rfl ?_
          refine go_exit (loop_exit (block_hit ?_))
          refine go_nil (loop_normal ⟨?_, (by repeat (first | exact same_refl | exact same_over | refine same_upd rfl ?_ | refine same_over2 rfl ?_))⟩)
          have hkl_ : k = ps.length := by omega
          exact ⟨e, _, rfl, by rw [← hkl_]; exact he, fun _ => by rw [← hkl_], hmap, hub, hB, C_w20⟩
      rintro f19 w18 ⟨e, es, e76, hst, hes, hmap, hub, hB, C_w18⟩
      have ob_78 : ∃ g_, f19 = upd g_ 11 (i64 e) := ⟨f19, upd_id e76⟩
      obtain ⟨f77, rfl⟩ := ob_78
      clear e76
      have hs_w18 : w.heap.size ≤ w18.heap.size := Chg.size C_w18
      refine go_seq ?_
      refine go_region 9 rfl rfl ?_
      refine s_val rfl rfl (r_move) rfl ?_
      refine s_val rfl rfl (r_move) rfl ?_
      refine s_val rfl rfl (r_lenMap Try.runUnderlying74 rfl hmap) rfl ?_
      refine s_val rfl rfl (r_move) rfl ?_
      refine s_val rfl rfl (r_lss rfl rfl) rfl ?_
      refine s_do rfl rfl (w_call Try.call8 rfl (when_spec (decide ((es.length : Int) < many)) (7) _)) rfl ?_
      rintro _ w79 ⟨rfl, c_w79⟩
      have hs_w79 : w18.heap.size ≤ w79.heap.size := Chg.size c_w79
      replace hmap := hmap.k c_w79
      replace hB := hB.k c_w79
      have C_w79 := Chg.pure C_w18 c_w79
      refine s_do rfl rfl (w_build2 (E := 26) Try.underlying66 (i := Try.t26) (by kernel_rfl) rfl rfl rfl rfl rfl rfl rfl) rfl ?_
      rintro _ w80 ⟨b81, rfl, hl_b81, hu_b81, o83, p82, c_w80⟩
      have hs_w80 : w79.heap.size ≤ w80.heap.size := Chg.size c_w80
      replace hmap := hmap.k c_w80
      replace hB := hB.k c_w80
      have C_w80 := Chg.pure C_w79 c_w80
      have hn_b81 : w.heap.size ≤ b81 := by have := Chg.size C_w80; omega
      clear o83
      replace p82 : Pc w80 b81 0 [(i64 (e)), (i64 ((if (decide ((es.length : Int) < many)) = true then (7 : Int) else 0)))] := p82
      refine s_do rfl rfl (w_call Try.call7 rfl (first_spec [e, (if (decide ((es.length : Int) < many)) = true then (7 : Int) else 0)] _ _ _ _ rfl (by decide) (SlAt.some p82.rd))) rfl ?_
      rintro _ w84 ⟨rfl, c_w84⟩
      have hs_w84 : w80.heap.size ≤ w84.heap.size := Chg.size c_w84
      replace hmap := hmap.k c_w84
      replace hB := hB.k c_w84
      replace p82 := p82.k c_w84
      have C_w84 := Chg.pure C_w80 c_w84
      refine s_val rfl rfl (r_assign) rfl ?_
      refine s_end ?_
      refine go_seq ?_
      refine go_seq ?_
      refine go_region 1 rfl rfl ?_
      refine s_val rfl rfl (r_assign) rfl ?_
      refine s_end ?_
      refine go_meet [(11, 11), (16, 16), (112, 127)] (fun e' w' => ∃ (f : Int), e' 11 = i64 f ∧ asmE root many ls ps = f ∧ (f = 0 → e = 0) ∧ MapI w' b16 es ∧ b16 < w'.heap.size ∧ SlAt w' aB (bs lB) ∧ Chg no w w') ?_ ?_
      ·
        refine go_block ?_
        refine go_loopM (σ := Nat × Int) [(11, 11), (16, 16), (112, 127)] (fun (x_ : Nat × Int) e' w' => match x_ with | (j, f) => e' 16 = i64 (j : Nat) ∧ e' 11 = i64 f ∧ j ≤ many.toNat ∧ (((firstE [e, if decide ((es.length : Int) < many) = true then 7 else 0]) ≠ 0 ∧ f = (firstE [e, if decide ((es.length : Int) < many) = true then 7 else 0])) ∨ ((firstE [e, if decide ((es.length : Int) < many) = true then 7 else 0]) = 0 ∧ ((f = 0 ∧ ∀ j' : Nat, j' < j → j' + 1 < many.toNat → (cont ls (asmTo root many ls ps ps.length).2 (j' : Int)).length = 1024) ∨ (f = 2 ∧ ∃ j' : Nat, j' + 1 < many.toNat ∧ (cont ls (asmTo root many ls ps ps.length).2 (j' : Int)).length ≠ 1024)))) ∧ MapI w' b16 es ∧ b16 < w'.heap.size ∧ SlAt w' aB (bs lB) ∧ Chg no w w') (fun (x_ : Nat × Int) => match x_ with | (j, f) => many.toNat - j) (0, (firstE [e, if decide ((es.length : Int) < many) = true then 7 else 0])) ?_ ?_
        · exact ⟨rfl, rfl, by omega, (if hW : (firstE [e, if decide ((es.length : Int) < many) = true then 7 else 0]) = 0 then .inr ⟨hW, .inl ⟨hW, fun j' h_ => by omega⟩⟩ else .inl ⟨hW, rfl⟩), hmap, by omega, hB, C_w84⟩
        rintro ⟨j, f⟩ f88 w87 ⟨e89, e90, hj, hf, hmap, hub, hB, C_w87⟩
        have ob_92 : ∃ g_, f88 = upd g_ 16 (i64 (j : Nat)) := ⟨f88, upd_id e89⟩
        obtain ⟨f91, rfl⟩ := ob_92
        have ob_94 : ∃ g_, f91 = upd g_ 11 (i64 f) := ⟨f91, upd_id e90⟩
        obtain ⟨f93, rfl⟩ := ob_94
        clear e89 e90
        have hs_w87 : w.heap.size ≤ w87.heap.size := Chg.size C_w87
        refine go_seq ?_
        refine go_seq ?_
        refine go_region 8 rfl rfl ?_
        refine s_val rfl rfl (r_move) rfl ?_
        refine s_val rfl rfl (r_move) rfl ?_
        refine s_val rfl rfl (r_subi rfl rfl (by omega)) rfl ?_
        refine s_val rfl rfl (r_lss rfl rfl) rfl ?_
        refine s_valB rfl rfl (r_move) rfl (fun h95 => ?_) (fun h95 => ?_)
        · first | replace h95 := of_decide_eq_true h95 | replace h95 := of_decide_eq_false (nt h95) | skip
          have hjm := h95
          refine s_val_g rfl rfl (r_move) rfl ?_
          refine s_val_g rfl rfl (r_eql rfl rfl) rfl ?_
          refine s_val rfl rfl (r_pick true rfl) rfl ?_
          refine s_end ?_
          refine go_ifb _ rfl (fun h5 => ?_) (fun h5 => ?_)
          · first | replace h5 := of_decide_eq_true h5 | replace h5 := of_decide_eq_false (nt h5) | skip
            have hW : (firstE [e, if decide ((es.length : Int) < many) = true then 7 else 0]) = 0 := by
              rcases hf with ⟨h_, h2_⟩ | ⟨h_, _⟩
              · omega
              · exact h_
            have he0 : e = 0 := firstE_zero hW
            have hallj : ∀ j' : Nat, j' < j → j' + 1 < many.toNat → (cont ls (asmTo root many ls ps ps.length).2 (j' : Int)).length = 1024 := by
              rcases hf with ⟨h_, h2_⟩ | ⟨_, ⟨_, h_⟩ | ⟨h_, _⟩⟩
              · omega
              · exact h_
              · omega
            rw [hes he0] at hmap
            have ob_96 := lookVal hls (G := (asmTo root many ls ps ps.length).2) (fun i j h_ => by have := asmTo_lt ps.length i j h_; omega) (j : Int)
            obtain ⟨av2, nv2, cv2, hval2, hvl2, hvc2, hva2⟩ := ob_96
            have hct := contTo_len (asmTo root many ls ps ps.length).2 hsm j
            have hct1 := contTo_len (asmTo root many ls ps ps.length).2 hsm (j + 1)
            have hcts : (contTo ls (asmTo root many ls ps ps.length).2 (j + 1)).length = (contTo ls (asmTo root many ls ps ps.length).2 j).length + nv2 := by rw [contTo, List.length_append, hvl2]
            refine go_skip ?_
            refine go_seq ?_
            refine go_block ?_
            refine go_region 7 rfl rfl ?_
            refine s_val rfl rfl (r_move) rfl ?_
            refine s_val rfl rfl (r_move) rfl ?_
            refine s_val rfl rfl (r_lookupV Try.underlying74 Try.underlying3 Try.zeroValue22 rfl rfl hmap hval2) rfl ?_
            refine s_val rfl rfl (r_len Try.runUnderlying22 rfl) rfl ?_
            refine s_val rfl rfl (r_neq rfl rfl) rfl ?_
            refine s_do rfl rfl (w_call Try.call8 rfl (when_spec (decide ((nv2 : Int) ≠ 1024)) (2) _)) rfl ?_
            rintro _ w97 ⟨rfl, c_w97⟩
            have hs_w97 : w87.heap.size ≤ w97.heap.size := Chg.size c_w97
            replace hmap := hmap.k c_w97
            replace hB := hB.k c_w97
            have C_w97 := Chg.pure C_w87 c_w97
            refine s_val rfl rfl (r_assign) rfl ?_
            refine s_end ?_
            refine go_nil (block_normal ?_)
            refine go_region 3 rfl rfl ?_
            refine s_val rfl rfl (r_move) rfl ?_
            refine s_val rfl rfl (r_addi rfl rfl (by omega)) rfl ?_
            refine s_val rfl rfl (r_assign) rfl ?_
            refine s_end ?_
            have hf2 : (((firstE [e, if decide ((es.length : Int) < many) = true then 7 else 0]) ≠ 0 ∧ (if decide ((nv2 : Int) ≠ 1024) = true then (2 : Int) else 0) = (firstE [e, if decide ((es.length : Int) < many) = true then 7 else 0])) ∨ ((firstE [e, if decide ((es.length : Int) < many) = true then 7 else 0]) = 0 ∧ (((if decide ((nv2 : Int) ≠ 1024) = true then (2 : Int) else 0) = 0 ∧ ∀ j' : Nat, j' < j + 1 → j' + 1 < many.toNat → (cont ls (asmTo root many ls ps ps.length).2 (j' : Int)).length = 1024) ∨ ((if decide ((nv2 : Int) ≠ 1024) = true then (2 : Int) else 0) = 2 ∧ ∃ j' : Nat, j' + 1 < many.toNat ∧ (cont ls (asmTo root many ls ps ps.length).2 (j' : Int)).length ≠ 1024)))) := by
              refine .inr ⟨hW, ?_⟩
              by_cases h_ : (nv2 : Int) ≠ 1024
              · exact .inr ⟨by simp [h_], j, by omega, by omega⟩
              · exact .inl ⟨by simp [h_], fun j' h2_ h3_ => if h4_ : j' < j then hallj j' h4_ h3_ else by (have e_ : j' = j := (by omega)); subst e_; omega⟩
            refine go_nil (loop_normal ⟨⟨(j + 1, (if (decide ((nv2 : Int) ≠ 1024)) = true then (2 : Int) else 0)), by first | omega | (dsimp only; omega), ⟨rfl, rfl, by omega, hf2, by rw [hes he0]; exact hmap, by omega, hB, C_w97⟩⟩, (by repeat (first | exact same_refl | exact same_over | refine same_upd rfl ?_ | refine same_over2 rfl ?_))⟩)
          · first | replace h5 := of_decide_eq_false h5 | replace h5 := of_decide_eq_true (nf h5) | skip
            refine go_exit (loop_exit (block_hit ?_))
            refine go_nil (loop_normal ⟨?_, (by repeat (first | exact same_refl | exact same_over | refine same_upd rfl ?_ | refine same_over2 rfl ?_))⟩)
            have hE_ : asmE root many ls ps = f := asmE_want (n := es.length) hrange hst (fun h_ => by rw [hes h_, gmap_length]) (by
              rcases hf with h_ | ⟨h_, ⟨h2_, _⟩ | h2_⟩
              · exact .inl h_
              · exact absurd h2_ h5
              · exact .inr ⟨h_, .inr h2_⟩)
            exact ⟨f, rfl, hE_, fun h_ => absurd h_ h5, hmap, hub, hB, C_w87⟩
        · first | replace h95 := of_decide_eq_false h95 | replace h95 := of_decide_eq_true (nf h95) | skip
          have hjm := h95
          refine s_val_not rfl rfl ?_
          refine s_val_not rfl rfl ?_
          refine s_val rfl rfl (r_pick false rfl) rfl ?_
          refine s_end ?_
          refine go_false rfl ?_
          refine go_exit (loop_exit (block_hit ?_))
          refine go_nil (loop_normal ⟨?_, (by repeat (first | exact same_refl | exact same_over | refine same_upd rfl ?_ | refine same_over2 rfl ?_))⟩)
          have hE_ : asmE root many ls ps = f := asmE_want (n := es.length) hrange hst (fun h_ => by rw [hes h_, gmap_length]) (by
            rcases hf with h_ | ⟨h_, ⟨h2_, h3_⟩ | h2_⟩
            · exact .inl h_
            · exact .inr ⟨h_, .inl ⟨h2_, fun j' h4_ => h3_ j' (by omega) h4_⟩⟩
            · exact .inr ⟨h_, .inr h2_⟩)
          exact ⟨f, rfl, hE_, fun h_ => by
            rcases hf with ⟨h2_, h3_⟩ | ⟨h2_, _⟩
            · omega
            · exact firstE_zero h2_, hmap, hub, hB, C_w87⟩
      rintro f86 w85 ⟨f, e98, hE, hf0, hmap, hub, hB, C_w85⟩
      have ob_100 : ∃ g_, f86 = upd g_ 11 (i64 f) := ⟨f86, upd_id e98⟩
      obtain ⟨f99, rfl⟩ := ob_100
      clear e98
      have hs_w85 : w.heap.size ≤ w85.heap.size := Chg.size C_w85
      refine go_seq ?_
      refine go_seq ?_
      refine go_region 2 rfl rfl ?_
      refine s_val rfl rfl (r_move) rfl ?_
      refine s_val rfl rfl (r_neq rfl rfl) rfl ?_
      refine s_end ?_
      refine go_ifb _ rfl (fun h6 => ?_) (fun h6 => ?_)
      · first | replace h6 := of_decide_eq_true h6 | replace h6 := of_decide_eq_false (nt h6) | skip
        refine go_seq ?_
        refine go_region 9 rfl rfl ?_
        refine s_val rfl rfl (r_move) rfl ?_
        refine s_val rfl rfl (r_len Try.runUnderlying22 rfl) rfl ?_
        refine s_val rfl rfl (r_eql rfl rfl) rfl ?_
        refine s_valB rfl rfl (r_move) rfl (fun h101 => ?_) (fun h101 => ?_)
        · first | replace h101 := of_decide_eq_true h101 | replace h101 := of_decide_eq_false (nt h101) | skip
          refine s_val_g rfl rfl (r_move) rfl ?_
          refine s_val_g rfl rfl (r_move) rfl ?_
          refine s_val_g rfl rfl (r_eql rfl rfl) rfl ?_
          refine s_val rfl rfl (r_pick true rfl) rfl ?_
          refine s_val rfl rfl (r_assign) rfl ?_
          refine s_end ?_
          refine go_ret ?_
          refine ⟨_, .cons rfl (.nil), ?_⟩
          exact ⟨congrArg Value.bool (decide_eq_true hE), C_w85⟩
        · first | replace h101 := of_decide_eq_false h101 | replace h101 := of_decide_eq_true (nf h101) | skip
          exfalso
          have h_ := hB0 (by omega)
          omega
      · first | replace h6 := of_decide_eq_false h6 | replace h6 := of_decide_eq_true (nf h6) | skip
        have he0 := hf0 (by omega)
        rw [hes he0] at hmap
        refine go_skip ?_
        refine go_seq ?_
        refine go_region 1 rfl rfl ?_
        refine s_val rfl rfl (r_assign) rfl ?_
        refine s_end ?_
        refine go_seq ?_
        refine go_seq ?_
        refine go_region 2 rfl rfl ?_
        refine s_val rfl rfl (r_move) rfl ?_
        refine s_val rfl rfl (r_move) rfl ?_
        refine s_end ?_
        refine go_block ?_
        refine go_loopM (σ := Nat × Option Addr × Nat × Nat) [(17, 18), (139, 147)] (fun (x_ : Nat × Option Addr × Nat × Nat) e' w' => match x_ with | (j, a1, n1, c1) => e' 139 = i64 (j : Nat) ∧ e' 17 = Value.slice a1 n1 c1 ∧ j ≤ many.toNat ∧ n1 = (contTo ls (asmTo root many ls ps ps.length).2 j).length ∧ w85.heap.size ≤ w'.heap.size ∧ Owns w' w85.heap.size 5 1 (Value.slice a1 n1 c1) n1 (bs (contTo ls (asmTo root many ls ps ps.length).2 j)) ∧ MapI w' b16 (gmap vs (asmTo root many ls ps ps.length).2) ∧ b16 < w'.heap.size ∧ SlAt w' aB (bs lB) ∧ Chg no w w') (fun (x_ : Nat × Option Addr × Nat × Nat) => match x_ with | (j, a1, n1, c1) => many.toNat - j) (0, none, 0, 0) ?_ ?_
        · exact ⟨rfl, rfl, by omega, rfl, by omega, Owns.nil _ _ _ _, hmap, by omega, hB, C_w85⟩
        rintro ⟨j, a1, n1, c1⟩ f103 w102 ⟨e104, e105, hj, hn1, hB_ho1, ho1, hmap, hub2, hB, C_w102⟩
        have ob_107 : ∃ g_, f103 = upd g_ 139 (i64 (j : Nat)) := ⟨f103, upd_id e104⟩
        obtain ⟨f106, rfl⟩ := ob_107
        have ob_109 : ∃ g_, f106 = upd g_ 17 (Value.slice a1 n1 c1) := ⟨f106, upd_id e105⟩
        obtain ⟨f108, rfl⟩ := ob_109
        clear e104 e105
        have hs_w102 : w.heap.size ≤ w102.heap.size := Chg.size C_w102
        refine go_seq ?_
        refine go_region 1 rfl rfl ?_
        refine s_val rfl rfl (r_lss rfl rfl) rfl ?_
        refine s_end ?_
        refine go_seq ?_
        refine go_ifb _ rfl (fun hlt2 => ?_) (fun hlt2 => ?_)
        · first | replace hlt2 := of_decide_eq_true hlt2 | replace hlt2 := of_decide_eq_false (nt hlt2) | skip
          have ob_110 := lookVal hls (G := (asmTo root many ls ps ps.length).2) (fun i j h_ => by have := asmTo_lt ps.length i j h_; omega) (j : Int)
          obtain ⟨av2, nv2, cv2, hval2, hvl2, hvc2, hva2⟩ := ob_110
          have hct := contTo_len (asmTo root many ls ps ps.length).2 hsm j
          have hct1 := contTo_len (asmTo root many ls ps ps.length).2 hsm (j + 1)
          have hcts : (contTo ls (asmTo root many ls ps ps.length).2 (j + 1)).length = (contTo ls (asmTo root many ls ps ps.length).2 j).length + nv2 := by rw [contTo, List.length_append, hvl2]
          refine go_skip ?_
          refine go_seq ?_
          refine go_block ?_
          refine go_seq ?_
          refine go_region 2 rfl rfl ?_
          refine s_val rfl rfl (r_move) rfl ?_
          refine s_val rfl rfl (r_assign) rfl ?_
          refine s_end ?_
          refine go_region 6 rfl rfl ?_
          refine s_val rfl rfl (r_move) rfl ?_
          refine s_val rfl rfl (r_move) rfl ?_
          refine s_val rfl rfl (r_move) rfl ?_
          refine s_val rfl rfl (r_lookupV Try.underlying74 Try.underlying3 Try.zeroValue22 rfl rfl hmap hval2) rfl ?_
          refine s_do rfl rfl (w_append (E := 5) (sz := 1) Try.underlying22 rfl (i := Try.t5) (by kernel_rfl) rfl rfl rfl rfl (by rfl) ho1 rfl (hva2.k C_w102) (by first | (rw [bs_length]; omega) | (simp [bs_length]; done) | (simp [bs_length]; omega) | rfl) (flat_bs _) (by omega) (by show _ * 1 ≤ _; omega) (by omega)) rfl ?_
          rintro v115 w111 ⟨o112, c_w111⟩
          have hs_w111 : w102.heap.size ≤ w111.heap.size := Chg.size c_w111
          replace hmap := hmap.kob c_w111 (Owns.ne_lt ho1 (by omega))
          replace hB := SlAt.keptE hB c_w111 (fun hc_ b_ o_ ha_ o2_ m_ => by have h1_ := hiB hc_ _ ha_; simp only at h1_; exact Owns.ne_lt ho1 (by omega) m_)
          have C_w111 := Chg.newOb C_w102 c_w111 ho1 (by omega)
          have hfo_o112 := Owns.form2 o112
          obtain ⟨A113, cap114, e_o112, hc_cap114⟩ := hfo_o112
          subst e_o112
          replace o112 := Owns.appB o112
          refine s_val rfl rfl (r_assign) rfl ?_
          refine s_end ?_
          refine go_nil (block_normal ?_)
          refine go_region 2 rfl rfl ?_
          refine s_val rfl rfl (r_addi rfl rfl (by omega)) rfl ?_
          refine s_val rfl rfl (r_move) rfl ?_
          refine s_end ?_
          refine go_nil (loop_normal ⟨⟨(j + 1, _, n1 + nv2, _), by first | omega | (dsimp only; omega), ⟨rfl, rfl, by omega, by omega, by omega, o112, hmap, by omega, hB, C_w111⟩⟩, (by repeat (first | exact same_refl | exact same_over | refine same_upd rfl ?_ | refine same_over2 rfl ?_))⟩)
        · first | replace hlt2 := of_decide_eq_false hlt2 | replace hlt2 := of_decide_eq_true (nf hlt2) | skip
          have hje : j = many.toNat := by omega
          refine go_exit (loop_exit (block_hit ?_))
          refine go_seq ?_
          refine go_region 8 rfl rfl ?_
          refine s_val rfl rfl (r_move) rfl ?_
          refine s_val rfl rfl (r_eql rfl rfl) rfl ?_
          refine s_valB rfl rfl (r_move) rfl (fun h116 => ?_) (fun h116 => ?_)
          · first | replace h116 := of_decide_eq_true h116 | replace h116 := of_decide_eq_false (nt h116) | skip
            refine s_val_g rfl rfl (r_move) rfl ?_
            refine s_val_g rfl rfl (r_move) rfl ?_
            refine s_do_g rfl rfl (w_call Try.call14 rfl (bytesEq_spec lB (contTo ls (asmTo root many ls ps ps.length).2 j) _ _ _ _ _ _ _ (by first | omega | (simp; done) | (simp; omega)) (by first | omega | (simp; done) | (simp; omega)) hB (Owns.sl ho1))) rfl ?_
            rintro _ w117 ⟨rfl, c_w117⟩
            have hs_w117 : w102.heap.size ≤ w117.heap.size := Chg.size c_w117
            replace ho1 := ho1.k c_w117
            replace hmap := hmap.k c_w117
            replace hB := hB.k c_w117
            have C_w117 := Chg.pure C_w102 c_w117
            refine s_val rfl rfl (r_pick true rfl) rfl ?_
            refine s_val rfl rfl (r_assign) rfl ?_
            refine s_end ?_
            refine go_ret ?_
            refine ⟨_, .cons rfl (.nil), ?_⟩
            exact ⟨congrArg Value.bool (decide_eq_true (by rw [hB1 (by omega), hje])), C_w117⟩
          · first | replace h116 := of_decide_eq_false h116 | replace h116 := of_decide_eq_true (nf h116) | skip
            exfalso
            omega

end Go.Proofs.Ytdnccchcflaphaa
