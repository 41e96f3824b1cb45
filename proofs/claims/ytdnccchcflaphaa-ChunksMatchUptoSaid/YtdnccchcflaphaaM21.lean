/- M21: contracts of functions of the program: called in any world that meets a contract's premises, the function returns what the contract says and changes no more than it says. -/
import Derived.Test.YtdnccchcflaphaaM20
import Derived.Test.YtdnccchcflaphaaEng8
import Derived.Test.YtdnccchcflaphaaEng9
import Derived.Test.YtdnccchcflaphaaEng10
import Derived.Test.YtdnccchcflaphaaEng11
import Derived.Test.YtdnccchcflaphaaEng12
import Derived.Test.YtdnccchcflaphaaChecked
open Go Go.Eng Go.Proofs
namespace Go.Proofs.Ytdnccchcflaphaa
set_option maxHeartbeats 8000000 in
theorem assemble_spec (root : List UInt8) (many : Int) (ls : List (List UInt8)) (vs : List Value) (ps : List Prf) (al ap : Option Addr) (N cl cp : Nat) (w : World) (hrt : root.length = 32) (hN : ls.length = N) (hNp : ps.length = N) (hNb : N < 4611686018427387904) (hcl : N ≤ cl) (hcp : N ≤ cp) (hsl : SlAt w al vs) (hls : SlsOk w vs ls) (hsp : SlAt w ap (pcells ps)) (hps : ∀ (k : Nat) (q : Prf), ps[k]? = some q → q.Ok w) (hsm : ∀ k, (ls.getD k []).length ≤ 1024) :
    Rtn Try.prog 36 [.agg (bs root).toArray, i64 many, Value.slice al N cl, Value.slice ap N cp].toArray w (fun v w' => ((asmE root many ls ps ≠ 0 ∧ v = tup [Value.slice none 0 0, i64 (asmE root many ls ps)]) ∨ (asmE root many ls ps = 0 ∧ ∃ a n c, v = tup [Value.slice a n c, i64 0] ∧ (contTo ls (asmTo root many ls ps ps.length).2 many.toNat).length = n ∧ SlAt w' a (bs (contTo ls (asmTo root many ls ps ps.length).2 many.toNat)))) ∧ Kept w w') := by
  refine fn_body (l := [.agg (bs root).toArray, i64 many, Value.slice al N cl, Value.slice ap N cp]) 105 [.tmp 8, .tmp 9] Try.func36 rfl Try.ntmps36 (Nat.le_of_ble_eq_true rfl) (by rw [Try.results36]) ?_
  refine go_seq ?_
  refine go_region 3 rfl rfl ?_
  refine s_do rfl rfl (w_boxA rfl) rfl ?_
  rintro _ w1 ⟨b2, rfl, hl_b2, hu_b2, p3, c_w1⟩
  have hs_w1 : w.heap.size ≤ w1.heap.size := Chg.size c_w1
  have C_w1 := Chg.pure (Chg.refl no w) c_w1
  have hn_b2 : w.heap.size ≤ b2 := by have := Chg.size C_w1; omega
  refine s_val rfl rfl (r_assign) rfl ?_
  refine s_val rfl rfl (r_assign) rfl ?_
  refine s_end ?_
  refine go_seq ?_
  refine go_seq ?_
  refine go_region 6 rfl rfl ?_
  refine s_val rfl rfl (r_move) rfl ?_
  refine s_val rfl rfl (r_lss rfl rfl) rfl ?_
  refine s_valB rfl rfl (r_move) rfl (fun h4 => ?_) (fun h4 => ?_)
  · first | replace h4 := of_decide_eq_true h4 | replace h4 := of_decide_eq_false (nt h4) | skip
    refine s_val_not rfl rfl ?_
    refine s_val_not rfl rfl ?_
    refine s_val rfl rfl (r_pick true rfl) rfl ?_
    refine s_end ?_
    refine go_true rfl ?_
    refine go_seq ?_
    refine go_region 2 rfl rfl ?_
    refine s_val rfl rfl (r_assign) rfl ?_
    refine s_val rfl rfl (r_assign) rfl ?_
    refine s_end ?_
    refine go_ret ?_
    refine ⟨_, .cons rfl (.cons rfl (.nil)), ?_⟩
    have ha : asmE root many ls ps = 4 := by rw [asmE, if_pos (by omega)]
    exact ⟨.inl ⟨by rw [ha]; decide, congrArg (fun x => tup [Value.slice none 0 0, i64 x]) ha.symm⟩, C_w1⟩
  · first | replace h4 := of_decide_eq_false h4 | replace h4 := of_decide_eq_true (nf h4) | skip
    refine s_val_g rfl rfl (r_move) rfl ?_
    refine s_val_g rfl rfl (r_gtr rfl rfl) rfl ?_
    refine s_val rfl rfl (r_pick false rfl) rfl ?_
    refine s_end ?_
    refine go_ifb _ rfl (fun hr => ?_) (fun hr => ?_)
    · first | replace hr := of_decide_eq_true hr | replace hr := of_decide_eq_false (nt hr) | skip
      refine go_seq ?_
      refine go_region 2 rfl rfl ?_
      refine s_val rfl rfl (r_assign) rfl ?_
      refine s_val rfl rfl (r_assign) rfl ?_
      refine s_end ?_
      refine go_ret ?_
      refine ⟨_, .cons rfl (.cons rfl (.nil)), ?_⟩
      have ha : asmE root many ls ps = 4 := by rw [asmE, if_pos (by omega)]
      exact ⟨.inl ⟨by rw [ha]; decide, congrArg (fun x => tup [Value.slice none 0 0, i64 x]) ha.symm⟩, C_w1⟩
    · first | replace hr := of_decide_eq_false hr | replace hr := of_decide_eq_true (nf hr) | skip
      have hrange : 1 ≤ many ∧ many ≤ 1024 := by omega
      refine go_skip ?_
      refine go_seq ?_
      refine go_seq ?_
      refine go_region 5 rfl rfl ?_
      refine s_val rfl rfl (r_move) rfl ?_
      refine s_val rfl rfl (r_len Try.runUnderlying37 rfl) rfl ?_
      refine s_val rfl rfl (r_move) rfl ?_
      refine s_val rfl rfl (r_len Try.runUnderlying46 rfl) rfl ?_
      refine s_val rfl rfl (r_neq rfl rfl) rfl ?_
      refine s_end ?_
      refine go_ifb _ rfl (fun h5 => ?_) (fun h5 => ?_)
      · first | replace h5 := of_decide_eq_true h5 | replace h5 := of_decide_eq_false (nt h5) | skip
        exfalso
        omega
      · first | replace h5 := of_decide_eq_false h5 | replace h5 := of_decide_eq_true (nf h5) | skip
        refine go_skip ?_
        refine go_seq ?_
        refine go_region 2 rfl rfl ?_
        refine s_do rfl rfl (w_makeMap) rfl ?_
        rintro _ w6 ⟨b7, rfl, hl_b7, hu_b7, mp8, c_w6⟩
        have hs_w6 : w1.heap.size ≤ w6.heap.size := Chg.size c_w6
        replace p3 := p3.k c_w6
        have C_w6 := Chg.pure C_w1 c_w6
        have hn_b7 : w.heap.size ≤ b7 := by have := Chg.size C_w6; omega
        refine s_val rfl rfl (r_assign) rfl ?_
        refine s_end ?_
        refine go_seq ?_
        refine go_seq ?_
        refine go_region 3 rfl rfl ?_
        refine s_val rfl rfl (r_move) rfl ?_
        refine s_val rfl rfl (r_len Try.runUnderlying37 rfl) rfl ?_
        refine s_val rfl rfl (r_move) rfl ?_
        refine s_end ?_
        refine go_block ?_
        refine go_loopM (σ := Nat) [(8, 9), (11, 15), (32, 78)] (fun (k : Nat) e' w' => e' 32 = i64 (k : Nat) ∧ k ≤ N ∧ (asmTo root many ls ps k).1 = 0 ∧ MapI w' b7 (gmap vs (asmTo root many ls ps k).2) ∧ b7 < w'.heap.size ∧ Pc w' b2 0 (bs root) ∧ b2 < w'.heap.size ∧ Chg no w w') (fun (k : Nat) => N - k) 0 ?_ ?_
        · exact ⟨rfl, by omega, rfl, mp8, by omega, p3, by omega, C_w6⟩
        rintro k f10 w9 ⟨e11, hk, hst, hmap, hub, p3, hu_b2, C_w9⟩
        obtain ⟨f12, rfl⟩ : ∃ g_, f10 = upd g_ 32 (i64 (k : Nat)) := ⟨f10, upd_id e11⟩
        have hs_w9 : w.heap.size ≤ w9.heap.size := Chg.size C_w9
        refine go_seq ?_
        refine go_region 1 rfl rfl ?_
        refine s_val rfl rfl (r_lss rfl rfl) rfl ?_
        refine s_end ?_
        refine go_seq ?_
        refine go_ifb _ rfl (fun hlt => ?_) (fun hlt => ?_)
        · first | replace hlt := of_decide_eq_true hlt | replace hlt := of_decide_eq_false (nt hlt) | skip
          obtain ⟨ak, nk, ck, hvk, hlk, h0k, hck, hak⟩ := hls.2 k (by omega)
          have hsmk := hsm k
          obtain ⟨q, hq⟩ : ∃ q, ps[k]? = some q := ⟨_, List.getElem?_eq_getElem (by omega)⟩
          obtain ⟨hqP, hqc, hqb, hq32, hqs⟩ := hps k q hq
          obtain ⟨pb, po, rfl, hrd⟩ := SlAt.pos hsp (by intro h_; have h2_ := pcells_length ps; rw [h_, List.length_nil] at h2_; omega)
          obtain ⟨hq0, hqi, hqn⟩ := Rd.prf hrd hq
          obtain ⟨av, nv, cv, hval, hvl, hvc, hva⟩ := lookVal hls (G := (asmTo root many ls ps k).2) (fun i j h_ => by have := asmTo_lt k i j h_; omega) q.i
          have hpne : pcells ps ≠ [] := by intro h_; have h2_ := pcells_length ps; rw [h_, List.length_nil] at h2_; omega
          refine go_skip ?_
          refine go_seq ?_
          refine go_block ?_
          refine go_seq ?_
          refine go_region 5 rfl rfl ?_
          refine s_val rfl rfl (r_move) rfl ?_
          refine s_val rfl rfl (r_indexSl (k := k) Try.runUnderlying37 Try.sizeOf22 rfl (hsl.k C_w9) (by intro h_; have h2_ := hls.1; rw [h_, List.length_nil] at h2_; omega) rfl (by first | rfl | omega) (by omega)) rfl ?_
          refine s_val rfl rfl (r_loadSl1 Try.isAgg22 rfl (hsl.k C_w9) hvk) rfl ?_
          refine s_val rfl rfl (r_assign) rfl ?_
          refine s_val rfl rfl (r_assign) rfl ?_
          refine s_end ?_
          refine go_seq ?_
          refine go_seq ?_
          refine go_region 7 rfl rfl ?_
          refine s_val rfl rfl (r_move) rfl ?_
          refine s_val rfl rfl (r_move) rfl ?_
          refine s_val rfl rfl (r_indexSlP (k := k) Try.runUnderlying46 Try.sizeOf31 rfl (hrd.k C_w9) hpne rfl (by first | rfl | omega) (by omega)) rfl ?_
          refine s_val rfl rfl (r_fieldAddr Try.runUnderlying31 rfl Try.sizeOf3 rfl rfl) rfl ?_
          refine s_val rfl rfl (r_load1 Try.isAgg3 rfl (hqn.k C_w9)) rfl ?_
          refine s_val rfl rfl (r_move) rfl ?_
          refine s_val rfl rfl (r_neq rfl rfl) rfl ?_
          refine s_end ?_
          refine go_ifb _ rfl (fun h1 => ?_) (fun h1 => ?_)
          · first | replace h1 := of_decide_eq_true h1 | replace h1 := of_decide_eq_false (nt h1) | skip
            refine go_seq ?_
            refine go_region 2 rfl rfl ?_
            refine s_val rfl rfl (r_assign) rfl ?_
            refine s_val rfl rfl (r_assign) rfl ?_
            refine s_end ?_
            refine go_ret (block_ret (loop_ret (block_ret ?_)))
            refine ⟨_, .cons rfl (.cons rfl (.nil)), ?_⟩
            have ha : asmE root many ls ps = 12 := asmE_err hrange (by omega) hq hst (by rw [asmErr, if_pos h1]) (by decide)
            exact ⟨.inl ⟨by rw [ha]; decide, congrArg (fun x => tup [Value.slice none 0 0, i64 x]) ha.symm⟩, C_w9⟩
          · first | replace h1 := of_decide_eq_false h1 | replace h1 := of_decide_eq_true (nf h1) | skip
            refine go_skip ?_
            refine go_seq ?_
            refine go_seq ?_
            refine go_drawsE 6 (.take 0 (.take 1 (.take 2 (.take 3 (.take 4 (.take 5 (.eff 6 (.eff 7 .done)))))))) (by kernel_rfl) (by kernel_rfl) fun w13 c_w13 => ?_
            have hs_w13 : w9.heap.size ≤ w13.heap.size := Chg.size c_w13
            replace hmap := hmap.k c_w13
            replace p3 := p3.k c_w13
            have C_w13 := Chg.pure C_w9 c_w13
            refine s_takeE rfl rfl (r_loadN Try.isAgg25 Try.sizeOf25 rfl p3.rd (by first | exact bs_len (by omega) | exact bs_len (by simp; done) | exact bs_len (by simp; omega))) ?_
            refine s_takeE rfl rfl (r_move) ?_
            refine s_takeE rfl rfl (r_move) ?_
            refine s_takeE rfl rfl (r_move) ?_
            refine s_takeE rfl rfl (r_indexSlP (k := k) Try.runUnderlying46 Try.sizeOf31 rfl (hrd.k C_w13) hpne rfl (by first | rfl | omega) (by omega)) ?_
            refine s_takeE rfl rfl (r_loadN Try.isAgg31 Try.sizeOf31 rfl (hq0.k C_w13) rfl) ?_
            refine s_do rfl rfl (w_call Try.call17 rfl (check_spec root (ls.getD k []) ak nk ck q.i q.n q.P q.a q.np q.cp _ hrt hlk h0k (by omega) hck (hak.k C_w13) hqP hqc hqb hq32 (hqs.k C_w13))) rfl ?_
            rintro _ w14 ⟨rfl, c_w14⟩
            have hs_w14 : w13.heap.size ≤ w14.heap.size := Chg.size c_w14
            replace hmap := hmap.k c_w14
            replace p3 := p3.k c_w14
            have C_w14 := Chg.pure C_w13 c_w14
            refine s_val rfl rfl (r_assign) rfl ?_
            refine s_end ?_
            refine go_seq ?_
            refine go_region 2 rfl rfl ?_
            refine s_val rfl rfl (r_move) rfl ?_
            refine s_val rfl rfl (r_neq rfl rfl) rfl ?_
            refine s_end ?_
            refine go_ifb _ rfl (fun h2 => ?_) (fun h2 => ?_)
            · first | replace h2 := of_decide_eq_true h2 | replace h2 := of_decide_eq_false (nt h2) | skip
              refine go_seq ?_
              refine go_region 3 rfl rfl ?_
              refine s_val rfl rfl (r_move) rfl ?_
              refine s_val rfl rfl (r_assign) rfl ?_
              refine s_val rfl rfl (r_assign) rfl ?_
              refine s_end ?_
              refine go_ret (block_ret (loop_ret (block_ret ?_)))
              refine ⟨_, .cons rfl (.cons rfl (.nil)), ?_⟩
              have ha : asmE root many ls ps = checkF root (ls.getD k []) q.i q.n q.P := asmE_err hrange (by omega) hq hst (by rw [asmErr, if_neg h1, if_pos h2]) h2
              exact ⟨.inl ⟨by rw [ha]; exact h2, congrArg (fun x => tup [Value.slice none 0 0, i64 x]) ha.symm⟩, C_w14⟩
            · first | replace h2 := of_decide_eq_false h2 | replace h2 := of_decide_eq_true (nf h2) | skip
              refine go_skip ?_
              refine go_seq ?_
              refine go_seq ?_
              refine go_region 12 rfl rfl ?_
              refine s_val rfl rfl (r_move) rfl ?_
              refine s_val rfl rfl (r_move) rfl ?_
              refine s_val rfl rfl (r_move) rfl ?_
              refine s_val rfl rfl (r_indexSlP (k := k) Try.runUnderlying46 Try.sizeOf31 rfl (hrd.k C_w14) hpne rfl (by first | rfl | omega) (by omega)) rfl ?_
              refine s_val rfl rfl (r_fieldAddr Try.runUnderlying31 rfl Try.sizeOf3 rfl rfl) rfl ?_
              refine s_val rfl rfl (r_load1 Try.isAgg3 rfl (hqi.k C_w14)) rfl ?_
              refine s_val rfl rfl (r_lookupV2 Try.underlying74 Try.underlying3 Try.zeroValue22 rfl rfl hmap hval rfl) rfl ?_
              refine s_val rfl rfl (r_move) rfl ?_
              refine s_val rfl rfl (r_extract rfl rfl) rfl ?_
              refine s_val rfl rfl (r_extract rfl rfl) rfl ?_
              refine s_val rfl rfl (r_assign) rfl ?_
              refine s_val rfl rfl (r_assign) rfl ?_
              refine s_end ?_
              refine go_seq ?_
              refine go_region 7 rfl rfl ?_
              refine s_val rfl rfl (r_move) rfl ?_
              refine s_valB rfl rfl (r_move) rfl (fun h15 => ?_) (fun h15 => ?_)
              · first | replace h15 := of_decide_eq_true h15 | replace h15 := of_decide_eq_false (nt h15) | skip
                have hs_ := h15
                rw [lookI_some] at hs_
                refine s_val_g rfl rfl (r_move) rfl ?_
                refine s_val_g rfl rfl (r_move) rfl ?_
                refine s_do_g rfl rfl (w_call Try.call14 rfl (bytesEq_spec (cont ls (asmTo root many ls ps k).2 q.i) (ls.getD k []) _ _ _ _ _ _ _ (by first | omega | (simp; done) | (simp; omega)) (by first | omega | (simp; done) | (simp; omega)) (hva.k C_w14) (hak.k C_w14))) rfl ?_
                rintro _ w16 ⟨rfl, c_w16⟩
                have hs_w16 : w14.heap.size ≤ w16.heap.size := Chg.size c_w16
                replace hmap := hmap.k c_w16
                replace p3 := p3.k c_w16
                have C_w16 := Chg.pure C_w14 c_w16
                refine s_val_g rfl rfl (r_not rfl) rfl ?_
                refine s_val rfl rfl (r_pick true rfl) rfl ?_
                refine s_end ?_
                refine go_ifb _ rfl (fun h3 => ?_) (fun h3 => ?_)
                · first | replace h3 := of_decide_eq_true h3 | replace h3 := of_decide_eq_false (nt h3) | skip
                  have hcf : confl ls (asmTo root many ls ps k).2 q.i k = true := by rw [confl_some hs_]; exact decide_eq_true h3
                  refine go_seq ?_
                  refine go_region 2 rfl rfl ?_
                  refine s_val rfl rfl (r_assign) rfl ?_
                  refine s_val rfl rfl (r_assign) rfl ?_
                  refine s_end ?_
                  refine go_ret (block_ret (loop_ret (block_ret ?_)))
                  refine ⟨_, .cons rfl (.cons rfl (.nil)), ?_⟩
                  have ha : asmE root many ls ps = 17 := asmE_err hrange (by omega) hq hst (by rw [asmErr, if_neg h1, if_neg h2, if_pos hcf]) (by decide)
                  exact ⟨.inl ⟨by rw [ha]; decide, congrArg (fun x => tup [Value.slice none 0 0, i64 x]) ha.symm⟩, C_w16⟩
                · first | replace h3 := of_decide_eq_false h3 | replace h3 := of_decide_eq_true (nf h3) | skip
                  have hcf : confl ls (asmTo root many ls ps k).2 q.i k = false := by rw [confl_some hs_]; exact decide_eq_false (fun h_ => h_ h3)
                  refine go_skip ?_
                  refine go_region 8 rfl rfl ?_
                  refine s_val rfl rfl (r_move) rfl ?_
                  refine s_val rfl rfl (r_move) rfl ?_
                  refine s_val rfl rfl (r_move) rfl ?_
                  refine s_val rfl rfl (r_indexSlP (k := k) Try.runUnderlying46 Try.sizeOf31 rfl (hrd.k C_w16) hpne rfl (by first | rfl | omega) (by omega)) rfl ?_
                  refine s_val rfl rfl (r_fieldAddr Try.runUnderlying31 rfl Try.sizeOf3 rfl rfl) rfl ?_
                  refine s_val rfl rfl (r_load1 Try.isAgg3 rfl (hqi.k C_w16)) rfl ?_
                  refine s_val rfl rfl (r_move) rfl ?_
                  refine s_do rfl rfl (w_mapPut Try.underlying74 Try.underlying3 rfl rfl hmap) rfl ?_
                  rintro _ w17 ⟨q_w17, c_w17⟩
                  have hs_w17 : w16.heap.size ≤ w17.heap.size := Chg.size c_w17
                  replace p3 := p3.kB c_w17 (by omega)
                  have C_w17 := Chg.newB C_w16 c_w17 (by omega)
                  have hmap := q_w17
                  have hput_ : vs.getD k (.slice none 0 0) = Value.slice ak nk ck := by rw [List.getD_eq_getElem?_getD, hvk]; rfl
                  replace hmap : MapI w17 b7 (gmap vs (putN (asmTo root many ls ps k).2 q.i k)) := by rw [← putI_gmap, hput_]; exact hmap
                  refine s_end ?_
                  refine go_nil (block_normal ?_)
                  refine go_region 2 rfl rfl ?_
                  refine s_val rfl rfl (r_addi rfl rfl (by omega)) rfl ?_
                  refine s_val rfl rfl (r_move) rfl ?_
                  refine s_end ?_
                  refine go_nil (loop_normal ⟨⟨(k + 1), by first | omega | (dsimp only; omega), ⟨rfl, by omega, by rw [asmTo_succ hq hst]; exact asmErr_ok h1 h2 hcf, by rw [asmTo_succ hq hst]; exact hmap, by omega, p3, by omega, C_w17⟩⟩, (by repeat (first | exact same_refl | exact same_over | refine same_upd rfl ?_ | refine same_over2 rfl ?_))⟩)
              · first | replace h15 := of_decide_eq_false h15 | replace h15 := of_decide_eq_true (nf h15) | skip
                have hs_ := h15
                rw [lookI_some] at hs_
                have hcf := confl_none (ls := ls) (k := k) hs_
                refine s_val_not rfl rfl ?_
                refine s_val_not rfl rfl ?_
                refine s_val_not rfl rfl ?_
                refine s_val_not rfl rfl ?_
                refine s_val rfl rfl (r_pick false rfl) rfl ?_
                refine s_end ?_
                refine go_false rfl ?_
                refine go_skip ?_
                refine go_region 8 rfl rfl ?_
                refine s_val rfl rfl (r_move) rfl ?_
                refine s_val rfl rfl (r_move) rfl ?_
                refine s_val rfl rfl (r_move) rfl ?_
                refine s_val rfl rfl (r_indexSlP (k := k) Try.runUnderlying46 Try.sizeOf31 rfl (hrd.k C_w14) hpne rfl (by first | rfl | omega) (by omega)) rfl ?_
                refine s_val rfl rfl (r_fieldAddr Try.runUnderlying31 rfl Try.sizeOf3 rfl rfl) rfl ?_
                refine s_val rfl rfl (r_load1 Try.isAgg3 rfl (hqi.k C_w14)) rfl ?_
                refine s_val rfl rfl (r_move) rfl ?_
                refine s_do rfl rfl (w_mapPut Try.underlying74 Try.underlying3 rfl rfl hmap) rfl ?_
                rintro _ w18 ⟨q_w18, c_w18⟩
                have hs_w18 : w14.heap.size ≤ w18.heap.size := Chg.size c_w18
                replace p3 := p3.kB c_w18 (by omega)
                have C_w18 := Chg.newB C_w14 c_w18 (by omega)
                have hmap := q_w18
                have hput_ : vs.getD k (.slice none 0 0) = Value.slice ak nk ck := by rw [List.getD_eq_getElem?_getD, hvk]; rfl
                replace hmap : MapI w18 b7 (gmap vs (putN (asmTo root many ls ps k).2 q.i k)) := by rw [← putI_gmap, hput_]; exact hmap
                refine s_end ?_
                refine go_nil (block_normal ?_)
                refine go_region 2 rfl rfl ?_
                refine s_val rfl rfl (r_addi rfl rfl (by omega)) rfl ?_
                refine s_val rfl rfl (r_move) rfl ?_
                refine s_end ?_
                refine go_nil (loop_normal ⟨⟨(k + 1), by first | omega | (dsimp only; omega), ⟨rfl, by omega, by rw [asmTo_succ hq hst]; exact asmErr_ok h1 h2 hcf, by rw [asmTo_succ hq hst]; exact hmap, by omega, p3, by omega, C_w18⟩⟩, (by repeat (first | exact same_refl | exact same_over | refine same_upd rfl ?_ | refine same_over2 rfl ?_))⟩)
        · first | replace hlt := of_decide_eq_false hlt | replace hlt := of_decide_eq_true (nf hlt) | skip
          have hkn : k = ps.length := by omega
          rw [hkn] at hst hmap
          refine go_exit (loop_exit (block_hit ?_))
          refine go_seq ?_
          refine go_seq ?_
          refine go_region 4 rfl rfl ?_
          refine s_val rfl rfl (r_move) rfl ?_
          refine s_val rfl rfl (r_lenMap Try.runUnderlying74 rfl hmap) rfl ?_
          refine s_val rfl rfl (r_move) rfl ?_
          refine s_val rfl rfl (r_lss rfl rfl) rfl ?_
          refine s_end ?_
          refine go_ifb _ rfl (fun h4 => ?_) (fun h4 => ?_)
          · first | replace h4 := of_decide_eq_true h4 | replace h4 := of_decide_eq_false (nt h4) | skip
            refine go_seq ?_
            refine go_region 2 rfl rfl ?_
            refine s_val rfl rfl (r_assign) rfl ?_
            refine s_val rfl rfl (r_assign) rfl ?_
            refine s_end ?_
            refine go_ret ?_
            refine ⟨_, .cons rfl (.cons rfl (.nil)), ?_⟩
            have hgl := gmap_length vs (asmTo root many ls ps ps.length).2
            have ha : asmE root many ls ps = 7 := by rw [asmE, if_neg (by omega), if_neg (by omega), if_pos (by omega)]
            exact ⟨.inl ⟨by rw [ha]; decide, congrArg (fun x => tup [Value.slice none 0 0, i64 x]) ha.symm⟩, C_w9⟩
          · first | replace h4 := of_decide_eq_false h4 | replace h4 := of_decide_eq_true (nf h4) | skip
            refine go_skip ?_
            refine go_seq ?_
            refine go_region 1 rfl rfl ?_
            refine s_val rfl rfl (r_assign) rfl ?_
            refine s_end ?_
            refine go_seq ?_
            refine go_seq ?_
            refine go_region 2 rfl rfl ?_
            refine s_val rfl rfl (r_move) rfl ?_
            refine s_val rfl rfl (r_move) rfl ?_
            refine s_end ?_
            refine go_block ?_
            refine go_loopM (σ := Nat × Option Addr × Nat × Nat) [(8, 9), (16, 17), (84, 103)] (fun (x_ : Nat × Option Addr × Nat × Nat) e' w' => match x_ with | (j, a1, n1, c1) => e' 84 = i64 (j : Nat) ∧ e' 16 = Value.slice a1 n1 c1 ∧ j ≤ many.toNat ∧ n1 = (contTo ls (asmTo root many ls ps ps.length).2 j).length ∧ w9.heap.size ≤ w'.heap.size ∧ Owns w' w9.heap.size 5 1 (Value.slice a1 n1 c1) n1 (bs (contTo ls (asmTo root many ls ps ps.length).2 j)) ∧ MapI w' b7 (gmap vs (asmTo root many ls ps ps.length).2) ∧ b7 < w'.heap.size ∧ (∀ j' : Nat, j' < j → j' + 1 < many.toNat → (cont ls (asmTo root many ls ps ps.length).2 (j' : Int)).length = 1024) ∧ Chg no w w') (fun (x_ : Nat × Option Addr × Nat × Nat) => match x_ with | (j, a1, n1, c1) => many.toNat - j) (0, none, 0, 0) ?_ ?_
            · exact ⟨rfl, rfl, by omega, rfl, by omega, Owns.nil _ _ _ _, hmap, by omega, fun j' h_ => by omega, C_w9⟩
            rintro ⟨j, a1, n1, c1⟩ f20 w19 ⟨e21, e22, hj, hn1, hB_ho1, ho1, hmap, hub2, hall, C_w19⟩
            obtain ⟨f23, rfl⟩ : ∃ g_, f20 = upd g_ 84 (i64 (j : Nat)) := ⟨f20, upd_id e21⟩
            obtain ⟨f24, rfl⟩ : ∃ g_, f23 = upd g_ 16 (Value.slice a1 n1 c1) := ⟨f23, upd_id e22⟩
            have hs_w19 : w.heap.size ≤ w19.heap.size := Chg.size C_w19
            refine go_seq ?_
            refine go_region 1 rfl rfl ?_
            refine s_val rfl rfl (r_lss rfl rfl) rfl ?_
            refine s_end ?_
            refine go_seq ?_
            refine go_ifb _ rfl (fun hlt2 => ?_) (fun hlt2 => ?_)
            · first | replace hlt2 := of_decide_eq_true hlt2 | replace hlt2 := of_decide_eq_false (nt hlt2) | skip
              obtain ⟨av2, nv2, cv2, hval2, hvl2, hvc2, hva2⟩ := lookVal hls (G := (asmTo root many ls ps ps.length).2) (fun i j h_ => by have := asmTo_lt ps.length i j h_; omega) (j : Int)
              have hct := contTo_len (asmTo root many ls ps ps.length).2 hsm j
              have hct1 := contTo_len (asmTo root many ls ps ps.length).2 hsm (j + 1)
              have hcts : (contTo ls (asmTo root many ls ps ps.length).2 (j + 1)).length = (contTo ls (asmTo root many ls ps ps.length).2 j).length + nv2 := by rw [contTo, List.length_append, hvl2]
              refine go_skip ?_
              refine go_seq ?_
              refine go_block ?_
              refine go_seq ?_
              refine go_region 2 rfl rfl ?_
              refine s_val rfl rfl (r_move) rfl ?_
              refine s_val rfl rfl (r_assign) rfl ?_
              refine s_end ?_
              refine go_seq ?_
              refine go_seq ?_
              refine go_region 11 rfl rfl ?_
              refine s_val rfl rfl (r_move) rfl ?_
              refine s_val rfl rfl (r_move) rfl ?_
              refine s_val rfl rfl (r_subi rfl rfl (by omega)) rfl ?_
              refine s_val rfl rfl (r_lss rfl rfl) rfl ?_
              refine s_valB rfl rfl (r_move) rfl (fun h25 => ?_) (fun h25 => ?_)
              · first | replace h25 := of_decide_eq_true h25 | replace h25 := of_decide_eq_false (nt h25) | skip
                refine s_val_g rfl rfl (r_move) rfl ?_
                refine s_val_g rfl rfl (r_move) rfl ?_
                refine s_val_g rfl rfl (r_lookupV Try.underlying74 Try.underlying3 Try.zeroValue22 rfl rfl hmap hval2) rfl ?_
                refine s_val_g rfl rfl (r_len Try.runUnderlying22 rfl) rfl ?_
                refine s_val_g rfl rfl (r_neq rfl rfl) rfl ?_
                refine s_val rfl rfl (r_pick true rfl) rfl ?_
                refine s_end ?_
                refine go_ifb _ rfl (fun h5 => ?_) (fun h5 => ?_)
                · first | replace h5 := of_decide_eq_true h5 | replace h5 := of_decide_eq_false (nt h5) | skip
                  refine go_seq ?_
                  refine go_region 2 rfl rfl ?_
                  refine s_val rfl rfl (r_assign) rfl ?_
                  refine s_val rfl rfl (r_assign) rfl ?_
                  refine s_end ?_
                  refine go_ret (block_ret (loop_ret (block_ret ?_)))
                  refine ⟨_, .cons rfl (.cons rfl (.nil)), ?_⟩
                  have ha : asmE root many ls ps = 2 := by
                    rw [asmE, if_neg (by omega), if_neg (by omega), if_neg (by have hgl_ := gmap_length vs (asmTo root many ls ps ps.length).2; omega), if_neg]
                    intro h_
                    have := of_decide_eq_true (List.all_eq_true.1 h_ j (List.mem_range.2 (by omega)))
                    omega
                  exact ⟨.inl ⟨by rw [ha]; decide, congrArg (fun x => tup [Value.slice none 0 0, i64 x]) ha.symm⟩, C_w19⟩
                · first | replace h5 := of_decide_eq_false h5 | replace h5 := of_decide_eq_true (nf h5) | skip
                  refine go_skip ?_
                  refine go_region 6 rfl rfl ?_
                  refine s_val rfl rfl (r_move) rfl ?_
                  refine s_val rfl rfl (r_move) rfl ?_
                  refine s_val rfl rfl (r_move) rfl ?_
                  refine s_val rfl rfl (r_lookupV Try.underlying74 Try.underlying3 Try.zeroValue22 rfl rfl hmap hval2) rfl ?_
                  refine s_do rfl rfl (w_append (E := 5) (sz := 1) Try.underlying22 rfl (i := Try.t5) (by kernel_rfl) rfl rfl rfl rfl (by rfl) ho1 rfl (hva2.k C_w19) (by first | (rw [bs_length]; omega) | (simp [bs_length]; done) | (simp [bs_length]; omega) | rfl) (flat_bs _) (by omega) (by show _ * 1 ≤ _; omega) (by omega)) rfl ?_
                  rintro v30 w26 ⟨o27, c_w26⟩
                  have hs_w26 : w19.heap.size ≤ w26.heap.size := Chg.size c_w26
                  replace hmap := hmap.kob c_w26 (Owns.ne_lt ho1 (by omega))
                  have C_w26 := Chg.newOb C_w19 c_w26 ho1 (by omega)
                  have hfo_o27 := Owns.form2 o27
                  obtain ⟨A28, cap29, e_o27, hc_cap29⟩ := hfo_o27
                  subst e_o27
                  replace o27 := Owns.appB o27
                  refine s_val rfl rfl (r_assign) rfl ?_
                  refine s_end ?_
                  refine go_nil (block_normal ?_)
                  refine go_region 2 rfl rfl ?_
                  refine s_val rfl rfl (r_addi rfl rfl (by omega)) rfl ?_
                  refine s_val rfl rfl (r_move) rfl ?_
                  refine s_end ?_
                  refine go_nil (loop_normal ⟨⟨(j + 1, _, n1 + nv2, _), by first | omega | (dsimp only; omega), ⟨rfl, rfl, by omega, by omega, by omega, o27, hmap, by omega, (fun j' h_ h2_ => if h3_ : j' < j then hall j' h3_ h2_ else by (have e_ : j' = j := (by omega)); subst e_; omega), C_w26⟩⟩, (by repeat (first | exact same_refl | exact same_over | refine same_upd rfl ?_ | refine same_over2 rfl ?_))⟩)
              · first | replace h25 := of_decide_eq_false h25 | replace h25 := of_decide_eq_true (nf h25) | skip
                refine s_val_not rfl rfl ?_
                refine s_val_not rfl rfl ?_
                refine s_val_not rfl rfl ?_
                refine s_val_not rfl rfl ?_
                refine s_val_not rfl rfl ?_
                refine s_val rfl rfl (r_pick false rfl) rfl ?_
                refine s_end ?_
                refine go_false rfl ?_
                refine go_skip ?_
                refine go_region 6 rfl rfl ?_
                refine s_val rfl rfl (r_move) rfl ?_
                refine s_val rfl rfl (r_move) rfl ?_
                refine s_val rfl rfl (r_move) rfl ?_
                refine s_val rfl rfl (r_lookupV Try.underlying74 Try.underlying3 Try.zeroValue22 rfl rfl hmap hval2) rfl ?_
                refine s_do rfl rfl (w_append (E := 5) (sz := 1) Try.underlying22 rfl (i := Try.t5) (by kernel_rfl) rfl rfl rfl rfl (by rfl) ho1 rfl (hva2.k C_w19) (by first | (rw [bs_length]; omega) | (simp [bs_length]; done) | (simp [bs_length]; omega) | rfl) (flat_bs _) (by omega) (by show _ * 1 ≤ _; omega) (by omega)) rfl ?_
                rintro v35 w31 ⟨o32, c_w31⟩
                have hs_w31 : w19.heap.size ≤ w31.heap.size := Chg.size c_w31
                replace hmap := hmap.kob c_w31 (Owns.ne_lt ho1 (by omega))
                have C_w31 := Chg.newOb C_w19 c_w31 ho1 (by omega)
                have hfo_o32 := Owns.form2 o32
                obtain ⟨A33, cap34, e_o32, hc_cap34⟩ := hfo_o32
                subst e_o32
                replace o32 := Owns.appB o32
                refine s_val rfl rfl (r_assign) rfl ?_
                refine s_end ?_
                refine go_nil (block_normal ?_)
                refine go_region 2 rfl rfl ?_
                refine s_val rfl rfl (r_addi rfl rfl (by omega)) rfl ?_
                refine s_val rfl rfl (r_move) rfl ?_
                refine s_end ?_
                refine go_nil (loop_normal ⟨⟨(j + 1, _, n1 + nv2, _), by first | omega | (dsimp only; omega), ⟨rfl, rfl, by omega, by omega, by omega, o32, hmap, by omega, (fun j' h_ h2_ => if h3_ : j' < j then hall j' h3_ h2_ else by (have e_ : j' = j := (by omega)); subst e_; omega), C_w31⟩⟩, (by repeat (first | exact same_refl | exact same_over | refine same_upd rfl ?_ | refine same_over2 rfl ?_))⟩)
            · first | replace hlt2 := of_decide_eq_false hlt2 | replace hlt2 := of_decide_eq_true (nf hlt2) | skip
              have hje : j = many.toNat := by omega
              rw [hje] at ho1 hall hn1
              refine go_exit (loop_exit (block_hit ?_))
              refine go_seq ?_
              refine go_region 3 rfl rfl ?_
              refine s_val rfl rfl (r_move) rfl ?_
              refine s_val rfl rfl (r_assign) rfl ?_
              refine s_val rfl rfl (r_assign) rfl ?_
              refine s_end ?_
              refine go_ret ?_
              refine ⟨_, .cons rfl (.cons rfl (.nil)), ?_⟩
              have ha : asmE root many ls ps = 0 := by
                rw [asmE, if_neg (by omega), if_neg (by omega), if_neg (by have hgl_ := gmap_length vs (asmTo root many ls ps ps.length).2; omega), if_pos]
                exact List.all_eq_true.2 fun j hj_ => decide_eq_true (hall j (by have := List.mem_range.1 hj_; omega) (by have := List.mem_range.1 hj_; omega))
              exact ⟨.inr ⟨ha, _, _, _, rfl, by omega, Owns.sl ho1⟩, C_w19⟩

end Go.Proofs.Ytdnccchcflaphaa
