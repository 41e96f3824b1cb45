/- N5: contracts of functions of the program: called in any world that meets a contract's premises, the function returns what the contract says and changes no more than it says. -/
import Derived.Test.YtdnccchcflaphaaMapL
import Derived.Test.YtdnccchcflaphaaN4
import Derived.Test.YtdnccchcflaphaaEng8
import Derived.Test.YtdnccchcflaphaaEng9
import Derived.Test.YtdnccchcflaphaaEng10
import Derived.Test.YtdnccchcflaphaaEng11
import Derived.Test.YtdnccchcflaphaaEng12
import Derived.Test.YtdnccchcflaphaaChecked
open Go Go.Eng Go.Proofs
namespace Go.Proofs.Ytdnccchcflaphaa
set_option maxHeartbeats 8000000 in
set_option maxRecDepth 100000 in
theorem maps_spec (nn ot : Int) (w : World) :
    Rtn Try.prog 4 [i64 nn, i64 ot].toArray w (fun v w' => v = .bool true ∧ Kept w w') := by
  refine fn_body (l := [i64 nn, i64 ot]) 121 [.tmp 4] Try.func4 rfl Try.ntmps4 (Nat.le_of_ble_eq_true rfl) (by rw [Try.results4]) ?_
  refine go_seq ?_
  refine go_region 2 rfl rfl ?_
  refine s_do rfl rfl (w_box1 rfl rfl) rfl ?_
  rintro _ w1 ⟨b2, rfl, hl_b2, hu_b2, p3, c_w1⟩
  have hs_w1 : w.heap.size ≤ w1.heap.size := Chg.size c_w1
  have C_w1 := Chg.pure (Chg.refl no w) c_w1
  have hn_b2 : w.heap.size ≤ b2 := by have := Chg.size C_w1; omega
  refine s_val rfl rfl (r_assign) rfl ?_
  refine s_end ?_
  refine go_seq ?_
  refine go_seq ?_
  refine go_region 2 rfl rfl ?_
  refine s_do rfl rfl (w_call Try.call20 rfl (landed_spec _)) rfl ?_
  rintro _ w4 ⟨rfl, c_w4⟩
  have hs_w4 : w1.heap.size ≤ w4.heap.size := Chg.size c_w4
  replace p3 := p3.k c_w4
  have C_w4 := Chg.pure C_w1 c_w4
  refine s_val rfl rfl (r_not rfl) rfl ?_
  refine s_end ?_
  refine go_false rfl ?_
  refine go_skip ?_
  refine go_seq ?_
  refine go_region 2 rfl rfl ?_
  refine s_do rfl rfl (w_call Try.call21 rfl (newMap_spec _)) rfl ?_
  rintro _ w5 ⟨p, mb, rfl, hl_p, hl_mb, hpm, hp, hm, c_w5⟩
  have hs_w5 : w4.heap.size ≤ w5.heap.size := Chg.size c_w5
  replace p3 := p3.k c_w5
  have C_w5 := Chg.pure C_w4 c_w5
  have hn_p : w.heap.size ≤ p := by omega
  have hn_mb : w.heap.size ≤ mb := by omega
  have hu_mb := hm.lt
  have hu_p := cell_lt (hp.rd 0 _ rfl)
  rw [← fill_zero ot] at hm
  refine s_val rfl rfl (r_assign) rfl ?_
  refine s_end ?_
  refine go_seq ?_
  refine go_region 2 rfl rfl ?_
  refine s_val rfl rfl (r_makeFunc rfl) rfl ?_
  refine s_val rfl rfl (r_assign) rfl ?_
  refine s_end ?_
  refine go_seq ?_
  refine go_seq ?_
  refine go_region 1 rfl rfl ?_
  refine s_val rfl rfl (r_move) rfl ?_
  refine s_end ?_
  refine go_block ?_
  refine go_loopM (σ := Nat) [(4, 4), (7, 7), (14, 25)] (fun (i : Nat) e' w' => e' 14 = i64 (i : Nat) ∧ i ≤ 1000 ∧ Pc w' b2 0 ([i64 ot]) ∧ b2 < w'.heap.size ∧ Pc w' p 0 [.map (some mb)] ∧ MapS 32 w' mb (fillS ot i) ∧ (mb < w'.heap.size ∧ p < w'.heap.size) ∧ Chg no w w') (fun (i : Nat) => 1000 - i) 0 ?_ ?_
  · exact ⟨rfl, by omega, p3, by omega, hp, hm, ⟨hm.lt, cell_lt (hp.rd 0 _ rfl)⟩, C_w5⟩
  rintro i f7 w6 ⟨e8, hi, p3, hu_b2, hp, hm, hlm, C_w6⟩
  have ob_10 : ∃ g_, f7 = upd g_ 14 (i64 (i : Nat)) := ⟨f7, upd_id e8⟩
  obtain ⟨f9, rfl⟩ := ob_10
  clear e8
  have hs_w6 : w.heap.size ≤ w6.heap.size := Chg.size C_w6
  refine go_seq ?_
  refine go_region 1 rfl rfl ?_
  refine s_val rfl rfl (r_lss rfl rfl) rfl ?_
  refine s_end ?_
  refine go_seq ?_
  refine go_ifb _ rfl (fun h => ?_) (fun h => ?_)
  · first | replace h := of_decide_eq_true h | replace h := of_decide_eq_false (nt h) | skip
    refine go_skip ?_
    refine go_seq ?_
    refine go_block ?_
    refine go_seq ?_
    refine go_region 2 rfl rfl ?_
    refine s_val rfl rfl (r_move) rfl ?_
    refine s_val rfl rfl (r_assign) rfl ?_
    refine s_end ?_
    refine go_seq ?_
    refine go_region 8 rfl rfl ?_
    refine s_val rfl rfl (r_move) rfl ?_
    refine s_val rfl rfl (r_move) rfl ?_
    refine s_val rfl rfl (r_move) rfl ?_
    refine s_do rfl rfl (w_callV Try.call22 rfl rfl (place_spec (((i : Nat) : Int)) ot _ _ p3.rd)) rfl ?_
    rintro _ w11 ⟨rfl, c_w11⟩
    have hs_w11 : w6.heap.size ≤ w11.heap.size := Chg.size c_w11
    replace p3 := p3.k c_w11
    replace hp := hp.k c_w11
    replace hm := hm.k c_w11
    have C_w11 := Chg.pure C_w6 c_w11
    have hg_12 := plcI_len ot (((i : Nat) : Int))
    refine s_val rfl rfl (r_move) rfl ?_
    refine s_do rfl rfl (w_callV Try.call22 rfl rfl (place_spec (1) ot _ _ p3.rd)) rfl ?_
    rintro _ w13 ⟨rfl, c_w13⟩
    have hs_w13 : w11.heap.size ≤ w13.heap.size := Chg.size c_w13
    replace p3 := p3.k c_w13
    replace hp := hp.k c_w13
    replace hm := hm.k c_w13
    have C_w13 := Chg.pure C_w11 c_w13
    have hg_14 := plcI_len ot (1)
    refine s_do rfl rfl (w_call Try.call23 rfl (setP_spec (fillS ot i) (plcI ot (i : Nat)) (plcI ot 1) _ _ _ (plcI_len _ _) (plcI_len _ _) plc_ne hp hm hpm (fun x hx => by rw [fill_val ot (by omega) x hx, plcI_len]) (by exact Or.inr (by rw [fill_len ot (by omega)]; omega)))) rfl ?_
    rintro _ w15 ⟨rfl, hpN, hmN, c_w15⟩
    have hs_w15 : w13.heap.size ≤ w15.heap.size := Chg.size c_w15
    replace p3 := p3.kB c_w15 (by omega)
    have C_w15 := Chg.newB C_w13 c_w15 (by omega)
    have hp := hpN
    clear hpN
    have hm := hmN
    clear hmN
    rw [← fill_succ] at hm
    refine s_val rfl rfl (r_neq rfl rfl) rfl ?_
    refine s_end ?_
    refine go_ifb _ rfl (fun h16 => ?_) (fun h16 => ?_)
    · first | replace h16 := of_decide_eq_true h16 | replace h16 := of_decide_eq_false (nt h16) | skip
      exfalso
      exact h16 rfl
    · first | replace h16 := of_decide_eq_false h16 | replace h16 := of_decide_eq_true (nf h16) | skip
      refine go_skip ?_
      refine go_nil (block_normal ?_)
      refine go_region 2 rfl rfl ?_
      refine s_val rfl rfl (r_addi rfl rfl (by omega)) rfl ?_
      refine s_val rfl rfl (r_move) rfl ?_
      refine s_end ?_
      refine go_nil (loop_normal ⟨⟨(i + 1), by first | omega | (dsimp only; omega), ⟨rfl, by omega, p3, by omega, hp, hm, ⟨hm.lt, cell_lt (hp.rd 0 _ rfl)⟩, C_w15⟩⟩, (by repeat (first | exact same_refl | exact same_over | refine same_upd rfl ?_ | refine same_over2 rfl ?_))⟩)
  · first | replace h := of_decide_eq_false h | replace h := of_decide_eq_true (nf h) | skip
    have ob_17 : i = 1000 := by omega
    obtain rfl := ob_17
    have hkk := idxN_lt nn (n := 1000) (by decide)
    have lw := law ot (idxN nn 1000) hkk
    generalize hkd : idxN nn 1000 = kk at hkk lw
    refine go_exit (loop_exit (block_hit ?_))
    refine go_seq ?_
    refine go_region 9 rfl rfl ?_
    refine s_val rfl rfl (r_move) rfl ?_
    refine s_do rfl rfl (w_call Try.call24 rfl (rootM_spec (fillS ot 1000) _ _ _ (by rw [lw.len0]; omega) (by rw [lw.len0]; omega) lw.hv0 lw.nd0 hp.rd hm)) rfl ?_
    rintro _ w18 ⟨rfl, c_w18⟩
    have hs_w18 : w6.heap.size ≤ w18.heap.size := Chg.size c_w18
    replace p3 := p3.k c_w18
    replace hp := hp.k c_w18
    replace hm := hm.k c_w18
    have C_w18 := Chg.pure C_w6 c_w18
    have hg_19 : (rootF (getS (fillS ot 1000)) ((fillS ot 1000).map (·.1))).length = 32 := rootF_len _ _
    refine s_val rfl rfl (r_move) rfl ?_
    refine s_val rfl rfl (r_conv_u64 Try.runUnderlying3 Try.runUnderlying47 rfl) rfl ?_
    refine s_val rfl rfl (r_rem64 (q := w64 ((1000 : Nat) : Int)) rfl rfl (by decide)) rfl ?_
    refine s_val rfl rfl (r_convN (N := kk) Try.runUnderlying47 Try.runUnderlying3 rfl (by rw [← hkd]; exact idx_eq nn 1000 (by omega)) (by omega)) rfl ?_
    refine s_do rfl rfl (w_alloc (bs (List.replicate 32 0)) Try.zeroValue25 (by kernel_rfl)) rfl ?_
    rintro _ w20 ⟨b21, rfl, hl_b21, hu_b21, p22, c_w20⟩
    have hs_w20 : w18.heap.size ≤ w20.heap.size := Chg.size c_w20
    replace p3 := p3.k c_w20
    replace hp := hp.k c_w20
    replace hm := hm.k c_w20
    have C_w20 := Chg.pure C_w18 c_w20
    have hn_b21 : w.heap.size ≤ b21 := by have := Chg.size C_w20; omega
    refine s_do rfl rfl (w_storeA (o := 0) Try.sizeOf25 rfl rfl (by first | exact bs_len (by omega) | exact bs_len (by simp; done) | exact bs_len (by simp; omega)) (flat_bs _) p22 (by first | exact bs_len (by omega) | exact bs_len (by simp; done) | exact bs_len (by simp; omega))) rfl ?_
    rintro _ w23 ⟨q_w23, c_w23⟩
    have hs_w23 : w20.heap.size ≤ w23.heap.size := Chg.size c_w23
    replace p3 := p3.kb c_w23 (by omega)
    replace hp := hp.kb c_w23 (by omega)
    replace hm := hm.kb c_w23 (by omega)
    have C_w23 := Chg.newRng C_w20 c_w23 (by omega)
    have p22 := q_w23
    refine s_val rfl rfl (r_assign) rfl ?_
    refine s_end ?_
    refine go_seq ?_
    refine go_seq ?_
    refine go_drawsM (M := (blk mb)) 11 (.take 0 (.take 1 (.take 3 (.eff 2 (.eff 4 (.eff 5 (.take 6 (.take 7 (.take 8 (.alts (.eff 9 (.eff 10 (.eff 11 (.eff 12 .done)))) (.eff 10 (.eff 9 (.eff 11 (.eff 12 .done)))))))))))))) (by kernel_rfl) (by kernel_rfl) fun w24 c_w24 => ?_
    have hs_w24 : w23.heap.size ≤ w24.heap.size := Chg.size c_w24
    replace p3 := p3.k c_w24
    replace hp := hp.k c_w24
    replace hm := hm.k c_w24
    replace p22 := p22.k c_w24
    have C_w24 := Chg.pure C_w23 c_w24
    have p3_0 := p3
    have hp_0 := hp
    have hm_0 := hm
    have p22_0 := p22
    refine s_takeM (M := (blk mb)) rfl rfl (w0 := w24) (fun x_ c_ => r_move) ?_
    refine s_takeM (M := (blk mb)) rfl rfl (w0 := w24) (fun x_ c_ => r_move) ?_
    refine s_takeM (M := (blk mb)) rfl rfl (w0 := w24) (fun x_ c_ => r_move) ?_
    refine s_fxM rfl rfl (w_callV Try.call22 rfl rfl (place_spec (1000) ot _ _ p3.rd)) ?_
    rintro _ w25 ⟨rfl, c_w25⟩
    have hs_w25 : w24.heap.size ≤ w25.heap.size := Chg.size c_w25
    replace p3 := p3.k c_w25
    replace hp := hp.k c_w25
    replace hm := hm.k c_w25
    replace p22 := p22.k c_w25
    have C_w25 := Chg.pure C_w24 c_w25
    have hg_26 := plcI_len ot (1000)
    have K_w25 := Chg.pure (Chg.refl (blk mb) w24) c_w25
    refine ⟨K_w25, ?_⟩
    refine s_fxM rfl rfl (w_callV Try.call22 rfl rfl (place_spec (1) ot _ _ p3.rd)) ?_
    rintro _ w27 ⟨rfl, c_w27⟩
    have hs_w27 : w25.heap.size ≤ w27.heap.size := Chg.size c_w27
    replace p3 := p3.k c_w27
    replace hp := hp.k c_w27
    replace hm := hm.k c_w27
    replace p22 := p22.k c_w27
    have C_w27 := Chg.pure C_w25 c_w27
    have hg_28 := plcI_len ot (1)
    have K_w27 := Chg.pure K_w25 c_w27
    refine ⟨K_w27, ?_⟩
    refine s_fxM rfl rfl (w_call Try.call23 rfl (setF_spec (fillS ot 1000) (plcI ot 1000) (plcI ot 1) _ _ _ (plcI_len _ _) (plcI_len _ _) plc_ne hp hm lw.hv0 (by exact lw.no0) (by rw [lw.len0]; omega))) ?_
    rintro _ w29 ⟨rfl, c_w29⟩
    have hs_w29 : w27.heap.size ≤ w29.heap.size := Chg.size c_w29
    replace p3 := p3.k c_w29
    replace hp := hp.k c_w29
    replace hm := hm.k c_w29
    replace p22 := p22.k c_w29
    have C_w29 := Chg.pure C_w27 c_w29
    have K_w29 := Chg.pure K_w27 c_w29
    refine ⟨K_w29, ?_⟩
    refine s_takeM (M := (blk mb)) rfl rfl (w0 := w24) (fun x_ c_ => r_neq rfl rfl) ?_
    refine s_takeB rfl rfl (by intro x_ hx_; (try subst hx_); exact r_move) (fun h30 => ?_) (fun h30 => ?_)
    · first | replace h30 := of_decide_eq_true h30 | replace h30 := of_decide_eq_false (nt h30) | skip
      exfalso
      exact h30 rfl
    · first | replace h30 := of_decide_eq_false h30 | replace h30 := of_decide_eq_true (nf h30) | skip
      refine s_takeMg (M := (blk mb)) rfl rfl (w0 := w24) (fun x_ c_ => r_move) ?_
      refine s_alts ?_ ?_
      ·
        refine s_fxMg rfl rfl (w_call Try.call24 rfl (rootM_spec (fillS ot 1000) _ _ _ (by rw [lw.len0]; omega) (by rw [lw.len0]; omega) lw.hv0 lw.nd0 hp.rd hm)) ?_
        rintro _ w31 ⟨rfl, c_w31⟩
        have hs_w31 : w29.heap.size ≤ w31.heap.size := Chg.size c_w31
        replace p3 := p3.k c_w31
        replace hp := hp.k c_w31
        replace hm := hm.k c_w31
        replace p22 := p22.k c_w31
        have C_w31 := Chg.pure C_w29 c_w31
        have hg_32 : (rootF (getS (fillS ot 1000)) ((fillS ot 1000).map (·.1))).length = 32 := rootF_len _ _
        have K_w31 := Chg.pure K_w29 c_w31
        refine ⟨K_w31, ?_⟩
        refine s_valMg rfl rfl (r_loadN Try.isAgg25 Try.sizeOf25 rfl p22.rd (by first | exact bs_len (by omega) | exact bs_len (by simp; done) | exact bs_len (by simp; omega))) K_w31 ?_
        refine s_val_g rfl rfl (r_neqArr Try.underlying25 Try.underlying5 Try.sizeOf5 rfl rfl (by first | omega | (simp; done) | (simp; omega)) (by first | omega | (simp; done) | (simp; omega)) (by kernel_rfl)) rfl ?_
        refine s_val rfl rfl (r_pick false rfl) rfl ?_
        refine s_end ?_
        refine go_ifb _ rfl (fun h33 => ?_) (fun h33 => ?_)
        · first | replace h33 := of_decide_eq_true h33 | replace h33 := of_decide_eq_false (nt h33) | skip
          exfalso
          exact h33 rfl
        · first | replace h33 := of_decide_eq_false h33 | replace h33 := of_decide_eq_true (nf h33) | skip
          refine go_skip ?_
          refine go_seq ?_
          refine go_seq ?_
          refine go_drawsM (M := (blk mb)) 22 (.take 0 (.take 1 (.take 2 (.take 4 (.eff 3 (.eff 5 (.eff 6 (.take 7 (.take 8 (.take 9 (.take 10 (.take 11 (.take 13 (.eff 12 (.eff 14 (.eff 15 (.take 16 (.take 17 (.take 18 (.take 19 (.alts (.eff 20 (.eff 21 (.eff 22 (.eff 23 .done)))) (.eff 21 (.eff 20 (.eff 22 (.eff 23 .done))))))))))))))))))))))))) (by kernel_rfl) (by kernel_rfl) fun w34 c_w34 => ?_
          have hs_w34 : w31.heap.size ≤ w34.heap.size := Chg.size c_w34
          replace p3 := p3.k c_w34
          replace hp := hp.k c_w34
          replace hm := hm.k c_w34
          replace p22 := p22.k c_w34
          have C_w34 := Chg.pure C_w31 c_w34
          have p3_0 := p3
          have hp_0 := hp
          have hm_0 := hm
          have p22_0 := p22
          refine s_takeM (M := (blk mb)) rfl rfl (w0 := w34) (fun x_ c_ => r_move) ?_
          refine s_takeM (M := (blk mb)) rfl rfl (w0 := w34) (fun x_ c_ => r_move) ?_
          refine s_takeM (M := (blk mb)) rfl rfl (w0 := w34) (fun x_ c_ => r_move) ?_
          refine s_takeM (M := (blk mb)) rfl rfl (w0 := w34) (fun x_ c_ => r_move) ?_
          refine s_fxM rfl rfl (w_callV Try.call22 rfl rfl (place_spec (((kk : Nat) : Int)) ot _ _ p3.rd)) ?_
          rintro _ w35 ⟨rfl, c_w35⟩
          have hs_w35 : w34.heap.size ≤ w35.heap.size := Chg.size c_w35
          replace p3 := p3.k c_w35
          replace hp := hp.k c_w35
          replace hm := hm.k c_w35
          replace p22 := p22.k c_w35
          have C_w35 := Chg.pure C_w34 c_w35
          have hg_36 := plcI_len ot (((kk : Nat) : Int))
          have K_w35 := Chg.pure (Chg.refl (blk mb) w34) c_w35
          refine ⟨K_w35, ?_⟩
          refine s_fxM rfl rfl (w_callV Try.call22 rfl rfl (place_spec (2) ot _ _ p3.rd)) ?_
          rintro _ w37 ⟨rfl, c_w37⟩
          have hs_w37 : w35.heap.size ≤ w37.heap.size := Chg.size c_w37
          replace p3 := p3.k c_w37
          replace hp := hp.k c_w37
          replace hm := hm.k c_w37
          replace p22 := p22.k c_w37
          have C_w37 := Chg.pure C_w35 c_w37
          have hg_38 := plcI_len ot (2)
          have K_w37 := Chg.pure K_w35 c_w37
          refine ⟨K_w37, ?_⟩
          refine s_fxM rfl rfl (w_call Try.call23 rfl (setP_spec (fillS ot 1000) (plcI ot (kk : Nat)) (plcI ot 2) _ _ _ (plcI_len _ _) (plcI_len _ _) plc_ne hp hm hpm lw.hv0 (by exact Or.inl (by rw [lw.in0]; rfl)))) ?_
          rintro _ w39 ⟨rfl, hpN, hmN, c_w39⟩
          have hs_w39 : w37.heap.size ≤ w39.heap.size := Chg.size c_w39
          replace p3 := p3.kB c_w39 (by omega)
          replace p22 := p22.kB c_w39 (by omega)
          have C_w39 := Chg.newB C_w37 c_w39 (by omega)
          have hp := hpN
          clear hpN
          have hm := hmN
          clear hmN
          have K_w39 := Chg.into K_w37 c_w39 (fun _ _ _ m => m)
          refine ⟨K_w39, ?_⟩
          refine s_takeM (M := (blk mb)) rfl rfl (w0 := w34) (fun x_ c_ => r_neq rfl rfl) ?_
          refine s_takeB rfl rfl (by intro x_ hx_; (try subst hx_); exact r_move) (fun h40 => ?_) (fun h40 => ?_)
          · first | replace h40 := of_decide_eq_true h40 | replace h40 := of_decide_eq_false (nt h40) | skip
            exfalso
            exact h40 rfl
          · first | replace h40 := of_decide_eq_false h40 | replace h40 := of_decide_eq_true (nf h40) | skip
            refine s_takeMg (M := (blk mb)) rfl rfl (w0 := w34) (fun x_ c_ => r_move) ?_
            refine s_takeMg (M := (blk mb)) rfl rfl (w0 := w34) (fun x_ c_ => r_move) ?_
            refine s_takeMg (M := (blk mb)) rfl rfl (w0 := w34) (fun x_ c_ => r_move) ?_
            refine s_takeMg (M := (blk mb)) rfl rfl (w0 := w34) (fun x_ c_ => r_move) ?_
            refine s_fxMg rfl rfl (w_callV Try.call22 rfl rfl (place_spec (((kk : Nat) : Int)) ot _ _ p3.rd)) ?_
            rintro _ w41 ⟨rfl, c_w41⟩
            have hs_w41 : w39.heap.size ≤ w41.heap.size := Chg.size c_w41
            replace p3 := p3.k c_w41
            replace p22 := p22.k c_w41
            replace hm := hm.k c_w41
            replace hp := hp.k c_w41
            have C_w41 := Chg.pure C_w39 c_w41
            have hg_42 := plcI_len ot (((kk : Nat) : Int))
            have K_w41 := Chg.pure K_w39 c_w41
            refine ⟨K_w41, ?_⟩
            refine s_fxMg rfl rfl (w_callV Try.call22 rfl rfl (place_spec (1) ot _ _ p3.rd)) ?_
            rintro _ w43 ⟨rfl, c_w43⟩
            have hs_w43 : w41.heap.size ≤ w43.heap.size := Chg.size c_w43
            replace p3 := p3.k c_w43
            replace p22 := p22.k c_w43
            replace hm := hm.k c_w43
            replace hp := hp.k c_w43
            have C_w43 := Chg.pure C_w41 c_w43
            have hg_44 := plcI_len ot (1)
            have K_w43 := Chg.pure K_w41 c_w43
            refine ⟨K_w43, ?_⟩
            refine s_fxMg rfl rfl (w_call Try.call23 rfl (setP_spec (putS (fillS ot 1000) (plcI ot (kk : Nat)) (plcI ot 2)) (plcI ot (kk : Nat)) (plcI ot 1) _ _ _ (plcI_len _ _) (plcI_len _ _) plc_ne hp hm hpm lw.hv1 (by exact Or.inl (by rw [lw.in1]; rfl)))) ?_
            rintro _ w45 ⟨rfl, hpN, hmN, c_w45⟩
            have hs_w45 : w43.heap.size ≤ w45.heap.size := Chg.size c_w45
            replace p3 := p3.kB c_w45 (by omega)
            replace p22 := p22.kB c_w45 (by omega)
            have C_w45 := Chg.newB C_w43 c_w45 (by omega)
            have hp := hpN
            clear hpN
            have hm := hmN
            clear hmN
            rw [lw.e2] at hm
            have K_w45 := Chg.into K_w43 c_w45 (fun _ _ _ m => m)
            refine ⟨K_w45, ?_⟩
            refine s_takeMg (M := (blk mb)) rfl rfl (w0 := w34) (fun x_ c_ => r_neq rfl rfl) ?_
            refine s_takeM (M := (blk mb)) rfl rfl (w0 := w34) (fun x_ c_ => r_pick false rfl) ?_
            refine s_takeB rfl rfl (by intro x_ hx_; (try subst hx_); exact r_move) (fun h46 => ?_) (fun h46 => ?_)
            · first | replace h46 := of_decide_eq_true h46 | replace h46 := of_decide_eq_false (nt h46) | skip
              exfalso
              exact h46 rfl
            · first | replace h46 := of_decide_eq_false h46 | replace h46 := of_decide_eq_true (nf h46) | skip
              refine s_takeMg (M := (blk mb)) rfl rfl (w0 := w34) (fun x_ c_ => r_move) ?_
              refine s_alts ?_ ?_
              ·
                refine s_fxMg rfl rfl (w_call Try.call24 rfl (rootM_spec (fillS ot 1000) _ _ _ (by rw [lw.len0]; omega) (by rw [lw.len0]; omega) lw.hv0 lw.nd0 hp.rd hm)) ?_
                rintro _ w47 ⟨rfl, c_w47⟩
                have hs_w47 : w45.heap.size ≤ w47.heap.size := Chg.size c_w47
                replace p3 := p3.k c_w47
                replace p22 := p22.k c_w47
                replace hm := hm.k c_w47
                replace hp := hp.k c_w47
                have C_w47 := Chg.pure C_w45 c_w47
                have hg_48 : (rootF (getS (fillS ot 1000)) ((fillS ot 1000).map (·.1))).length = 32 := rootF_len _ _
                have K_w47 := Chg.pure K_w45 c_w47
                refine ⟨K_w47, ?_⟩
                refine s_valMg rfl rfl (r_loadN Try.isAgg25 Try.sizeOf25 rfl p22.rd (by first | exact bs_len (by omega) | exact bs_len (by simp; done) | exact bs_len (by simp; omega))) K_w47 ?_
                refine s_val_g rfl rfl (r_neqArr Try.underlying25 Try.underlying5 Try.sizeOf5 rfl rfl (by first | omega | (simp; done) | (simp; omega)) (by first | omega | (simp; done) | (simp; omega)) (by kernel_rfl)) rfl ?_
                refine s_val rfl rfl (r_pick false rfl) rfl ?_
                refine s_end ?_
                refine go_ifb _ rfl (fun h49 => ?_) (fun h49 => ?_)
                · first | replace h49 := of_decide_eq_true h49 | replace h49 := of_decide_eq_false (nt h49) | skip
                  exfalso
                  exact h49 rfl
                · first | replace h49 := of_decide_eq_false h49 | replace h49 := of_decide_eq_true (nf h49) | skip
                  refine go_skip ?_
                  refine go_seq ?_
                  refine go_seq ?_
                  refine go_region 25 rfl rfl ?_
                  refine s_val rfl rfl (r_move) rfl ?_
                  refine s_val rfl rfl (r_move) rfl ?_
                  refine s_val rfl rfl (r_move) rfl ?_
                  refine s_do rfl rfl (w_callV Try.call22 rfl rfl (place_spec (((kk : Nat) : Int)) ot _ _ p3.rd)) rfl ?_
                  rintro _ w50 ⟨rfl, c_w50⟩
                  have hs_w50 : w47.heap.size ≤ w50.heap.size := Chg.size c_w50
                  replace p3 := p3.k c_w50
                  replace p22 := p22.k c_w50
                  replace hm := hm.k c_w50
                  replace hp := hp.k c_w50
                  have C_w50 := Chg.pure C_w47 c_w50
                  have hg_51 := plcI_len ot (((kk : Nat) : Int))
                  refine s_do rfl rfl (w_call Try.call25 rfl (drop_spec (fillS ot 1000) (plcI ot (kk : Nat)) _ _ _ (plcI_len _ _) hp hm hpm lw.hv0 (by rw [lw.in0]; rfl))) rfl ?_
                  rintro _ w52 ⟨rfl, hpN, hmN, c_w52⟩
                  have hs_w52 : w50.heap.size ≤ w52.heap.size := Chg.size c_w52
                  replace p3 := p3.kB c_w52 (by omega)
                  replace p22 := p22.kB c_w52 (by omega)
                  have C_w52 := Chg.newB C_w50 c_w52 (by omega)
                  have hp := hpN
                  clear hpN
                  have hm := hmN
                  clear hmN
                  refine s_val rfl rfl (r_neq rfl rfl) rfl ?_
                  refine s_valB rfl rfl (r_move) rfl (fun h53 => ?_) (fun h53 => ?_)
                  · first | replace h53 := of_decide_eq_true h53 | replace h53 := of_decide_eq_false (nt h53) | skip
                    exfalso
                    exact h53 rfl
                  · first | replace h53 := of_decide_eq_false h53 | replace h53 := of_decide_eq_true (nf h53) | skip
                    refine s_val_g rfl rfl (r_move) rfl ?_
                    refine s_val_g rfl rfl (r_move) rfl ?_
                    refine s_do_g rfl rfl (w_callV Try.call22 rfl rfl (place_spec (1000) ot _ _ p3.rd)) rfl ?_
                    rintro _ w54 ⟨rfl, c_w54⟩
                    have hs_w54 : w52.heap.size ≤ w54.heap.size := Chg.size c_w54
                    replace p3 := p3.k c_w54
                    replace p22 := p22.k c_w54
                    replace hm := hm.k c_w54
                    replace hp := hp.k c_w54
                    have C_w54 := Chg.pure C_w52 c_w54
                    have hg_55 := plcI_len ot (1000)
                    refine s_val_g rfl rfl (r_move) rfl ?_
                    refine s_do_g rfl rfl (w_callV Try.call22 rfl rfl (place_spec (1) ot _ _ p3.rd)) rfl ?_
                    rintro _ w56 ⟨rfl, c_w56⟩
                    have hs_w56 : w54.heap.size ≤ w56.heap.size := Chg.size c_w56
                    replace p3 := p3.k c_w56
                    replace p22 := p22.k c_w56
                    replace hm := hm.k c_w56
                    replace hp := hp.k c_w56
                    have C_w56 := Chg.pure C_w54 c_w56
                    have hg_57 := plcI_len ot (1)
                    refine s_do_g rfl rfl (w_call Try.call23 rfl (setP_spec (delS (fillS ot 1000) (plcI ot (kk : Nat))) (plcI ot 1000) (plcI ot 1) _ _ _ (plcI_len _ _) (plcI_len _ _) plc_ne hp hm hpm lw.hv3 (by exact Or.inr (by rw [lw.len3]; omega)))) rfl ?_
                    rintro _ w58 ⟨rfl, hpN, hmN, c_w58⟩
                    have hs_w58 : w56.heap.size ≤ w58.heap.size := Chg.size c_w58
                    replace p3 := p3.kB c_w58 (by omega)
                    replace p22 := p22.kB c_w58 (by omega)
                    have C_w58 := Chg.newB C_w56 c_w58 (by omega)
                    have hp := hpN
                    clear hpN
                    have hm := hmN
                    clear hmN
                    refine s_val_g rfl rfl (r_neq rfl rfl) rfl ?_
                    refine s_val rfl rfl (r_pick false rfl) rfl ?_
                    refine s_valB rfl rfl (r_move) rfl (fun h59 => ?_) (fun h59 => ?_)
                    · first | replace h59 := of_decide_eq_true h59 | replace h59 := of_decide_eq_false (nt h59) | skip
                      exfalso
                      exact h59 rfl
                    · first | replace h59 := of_decide_eq_false h59 | replace h59 := of_decide_eq_true (nf h59) | skip
                      refine s_val_g rfl rfl (r_move) rfl ?_
                      refine s_val_g rfl rfl (r_move) rfl ?_
                      refine s_val_g rfl rfl (r_move) rfl ?_
                      refine s_do_g rfl rfl (w_callV Try.call22 rfl rfl (place_spec (((kk : Nat) : Int)) ot _ _ p3.rd)) rfl ?_
                      rintro _ w60 ⟨rfl, c_w60⟩
                      have hs_w60 : w58.heap.size ≤ w60.heap.size := Chg.size c_w60
                      replace p3 := p3.k c_w60
                      replace p22 := p22.k c_w60
                      replace hm := hm.k c_w60
                      replace hp := hp.k c_w60
                      have C_w60 := Chg.pure C_w58 c_w60
                      have hg_61 := plcI_len ot (((kk : Nat) : Int))
                      refine s_val_g rfl rfl (r_move) rfl ?_
                      refine s_do_g rfl rfl (w_callV Try.call22 rfl rfl (place_spec (1) ot _ _ p3.rd)) rfl ?_
                      rintro _ w62 ⟨rfl, c_w62⟩
                      have hs_w62 : w60.heap.size ≤ w62.heap.size := Chg.size c_w62
                      replace p3 := p3.k c_w62
                      replace p22 := p22.k c_w62
                      replace hm := hm.k c_w62
                      replace hp := hp.k c_w62
                      have C_w62 := Chg.pure C_w60 c_w62
                      have hg_63 := plcI_len ot (1)
                      refine s_do_g rfl rfl (w_call Try.call23 rfl (setF_spec (putS (delS (fillS ot 1000) (plcI ot (kk : Nat))) (plcI ot 1000) (plcI ot 1)) (plcI ot (kk : Nat)) (plcI ot 1) _ _ _ (plcI_len _ _) (plcI_len _ _) plc_ne hp hm lw.hv4 (by exact lw.nk4) (by rw [lw.len4]; omega))) rfl ?_
                      rintro _ w64 ⟨rfl, c_w64⟩
                      have hs_w64 : w62.heap.size ≤ w64.heap.size := Chg.size c_w64
                      replace p3 := p3.k c_w64
                      replace p22 := p22.k c_w64
                      replace hm := hm.k c_w64
                      replace hp := hp.k c_w64
                      have C_w64 := Chg.pure C_w62 c_w64
                      refine s_val_g rfl rfl (r_neq rfl rfl) rfl ?_
                      refine s_val rfl rfl (r_pick false rfl) rfl ?_
                      refine s_end ?_
                      refine go_ifb _ rfl (fun h65 => ?_) (fun h65 => ?_)
                      · first | replace h65 := of_decide_eq_true h65 | replace h65 := of_decide_eq_false (nt h65) | skip
                        exfalso
                        exact h65 rfl
                      · first | replace h65 := of_decide_eq_false h65 | replace h65 := of_decide_eq_true (nf h65) | skip
                        refine go_skip ?_
                        refine go_seq ?_
                        refine go_drawsM (M := (blk mb)) 25 (.take 0 (.eff 1 (.take 2 (.take 3 (.take 4 (.take 5 (.take 6 (.eff 7 (.eff 8 (.take 9 (.take 10 (.take 11 (.take 12 (.take 13 (.take 14 (.take 16 (.eff 15 (.eff 17 (.eff 18 (.take 19 (.take 20 (.take 21 (.take 22 (.alts (.eff 23 (.eff 24 (.eff 25 (.eff 26 (.eff 27 .done))))) (.eff 24 (.eff 23 (.eff 25 (.eff 26 (.eff 27 .done))))))))))))))))))))))))))))) (by kernel_rfl) (by kernel_rfl) fun w66 c_w66 => ?_
                        have hs_w66 : w64.heap.size ≤ w66.heap.size := Chg.size c_w66
                        replace p3 := p3.k c_w66
                        replace p22 := p22.k c_w66
                        replace hm := hm.k c_w66
                        replace hp := hp.k c_w66
                        have C_w66 := Chg.pure C_w64 c_w66
                        have p3_0 := p3
                        have p22_0 := p22
                        have hm_0 := hm
                        have hp_0 := hp
                        refine s_takeM (M := (blk mb)) rfl rfl (w0 := w66) (fun x_ c_ => r_move) ?_
                        refine s_fxM rfl rfl (w_call Try.call26 rfl (keys_spec (putS (delS (fillS ot 1000) (plcI ot (kk : Nat))) (plcI ot 1000) (plcI ot 1)) _ _ _ (by rw [lw.len4]; omega) (by rw [lw.len4]; omega) hp.rd hm)) ?_
                        rintro _ w67 ⟨bk68, ck69, rfl, hc_ck69, hl_bk68, hk70, c_w67⟩
                        have hs_w67 : w66.heap.size ≤ w67.heap.size := Chg.size c_w67
                        replace p3 := p3.k c_w67
                        replace p22 := p22.k c_w67
                        replace hm := hm.k c_w67
                        replace hp := hp.k c_w67
                        have C_w67 := Chg.pure C_w66 c_w67
                        have K_w67 := Chg.pure (Chg.refl (blk mb) w66) c_w67
                        refine ⟨K_w67, ?_⟩
                        refine s_takeM (M := (blk mb)) rfl rfl (w0 := w66) (fun x_ c_ => r_len Try.runUnderlying29 rfl) ?_
                        refine s_takeM (M := (blk mb)) rfl rfl (w0 := w66) (fun x_ c_ => r_eql rfl rfl) ?_
                        refine s_takeB rfl rfl (by intro x_ hx_; (try subst hx_); exact r_move) (fun h71 => ?_) (fun h71 => ?_)
                        · first | replace h71 := of_decide_eq_true h71 | replace h71 := of_decide_eq_false (nt h71) | skip
                          refine s_takeMg (M := (blk mb)) rfl rfl (w0 := w66) (fun x_ c_ => r_move) ?_
                          refine s_takeMg (M := (blk mb)) rfl rfl (w0 := w66) (fun x_ c_ => r_move) ?_
                          refine s_fxMg rfl rfl (w_callV Try.call22 rfl rfl (place_spec (1000) ot _ _ p3.rd)) ?_
                          rintro _ w72 ⟨rfl, c_w72⟩
                          have hs_w72 : w67.heap.size ≤ w72.heap.size := Chg.size c_w72
                          replace p3 := p3.k c_w72
                          replace p22 := p22.k c_w72
                          replace hm := hm.k c_w72
                          replace hp := hp.k c_w72
                          have C_w72 := Chg.pure C_w67 c_w72
                          have hg_73 := plcI_len ot (1000)
                          have K_w72 := Chg.pure K_w67 c_w72
                          refine ⟨K_w72, ?_⟩
                          refine s_fxMg rfl rfl (w_call Try.call25 rfl (drop_spec (putS (delS (fillS ot 1000) (plcI ot (kk : Nat))) (plcI ot 1000) (plcI ot 1)) (plcI ot 1000) _ _ _ (plcI_len _ _) hp hm hpm lw.hv4 (by rw [lw.in4]; rfl))) ?_
                          rintro _ w74 ⟨rfl, hpN, hmN, c_w74⟩
                          have hs_w74 : w72.heap.size ≤ w74.heap.size := Chg.size c_w74
                          replace p3 := p3.kB c_w74 (by omega)
                          replace p22 := p22.kB c_w74 (by omega)
                          have C_w74 := Chg.newB C_w72 c_w74 (by omega)
                          have hp := hpN
                          clear hpN
                          have hm := hmN
                          clear hmN
                          rw [lw.e5] at hm
                          have K_w74 := Chg.into K_w72 c_w74 (fun _ _ _ m => m)
                          refine ⟨K_w74, ?_⟩
                          refine s_takeMg (M := (blk mb)) rfl rfl (w0 := w66) (fun x_ c_ => r_eql rfl rfl) ?_
                          refine s_takeM (M := (blk mb)) rfl rfl (w0 := w66) (fun x_ c_ => r_pick true rfl) ?_
                          refine s_takeB rfl rfl (by intro x_ hx_; (try subst hx_); exact r_move) (fun h75 => ?_) (fun h75 => ?_)
                          · first | replace h75 := of_decide_eq_true h75 | replace h75 := of_decide_eq_false (nt h75) | skip
                            refine s_takeMg (M := (blk mb)) rfl rfl (w0 := w66) (fun x_ c_ => r_move) ?_
                            refine s_takeMg (M := (blk mb)) rfl rfl (w0 := w66) (fun x_ c_ => r_move) ?_
                            refine s_takeMg (M := (blk mb)) rfl rfl (w0 := w66) (fun x_ c_ => r_move) ?_
                            refine s_takeMg (M := (blk mb)) rfl rfl (w0 := w66) (fun x_ c_ => r_move) ?_
                            refine s_fxMg rfl rfl (w_callV Try.call22 rfl rfl (place_spec (((kk : Nat) : Int)) ot _ _ p3.rd)) ?_
                            rintro _ w76 ⟨rfl, c_w76⟩
                            have hs_w76 : w74.heap.size ≤ w76.heap.size := Chg.size c_w76
                            replace p3 := p3.k c_w76
                            replace p22 := p22.k c_w76
                            replace hm := hm.k c_w76
                            replace hp := hp.k c_w76
                            have C_w76 := Chg.pure C_w74 c_w76
                            have hg_77 := plcI_len ot (((kk : Nat) : Int))
                            have K_w76 := Chg.pure K_w74 c_w76
                            refine ⟨K_w76, ?_⟩
                            refine s_fxMg rfl rfl (w_callV Try.call22 rfl rfl (place_spec (1) ot _ _ p3.rd)) ?_
                            rintro _ w78 ⟨rfl, c_w78⟩
                            have hs_w78 : w76.heap.size ≤ w78.heap.size := Chg.size c_w78
                            replace p3 := p3.k c_w78
                            replace p22 := p22.k c_w78
                            replace hm := hm.k c_w78
                            replace hp := hp.k c_w78
                            have C_w78 := Chg.pure C_w76 c_w78
                            have hg_79 := plcI_len ot (1)
                            have K_w78 := Chg.pure K_w76 c_w78
                            refine ⟨K_w78, ?_⟩
                            refine s_fxMg rfl rfl (w_call Try.call23 rfl (setP_spec (delS (fillS ot 1000) (plcI ot (kk : Nat))) (plcI ot (kk : Nat)) (plcI ot 1) _ _ _ (plcI_len _ _) (plcI_len _ _) plc_ne hp hm hpm lw.hv3 (by exact Or.inr (by rw [lw.len3]; omega)))) ?_
                            rintro _ w80 ⟨rfl, hpN, hmN, c_w80⟩
                            have hs_w80 : w78.heap.size ≤ w80.heap.size := Chg.size c_w80
                            replace p3 := p3.kB c_w80 (by omega)
                            replace p22 := p22.kB c_w80 (by omega)
                            have C_w80 := Chg.newB C_w78 c_w80 (by omega)
                            have hp := hpN
                            clear hpN
                            have hm := hmN
                            clear hmN
                            have K_w80 := Chg.into K_w78 c_w80 (fun _ _ _ m => m)
                            refine ⟨K_w80, ?_⟩
                            refine s_takeMg (M := (blk mb)) rfl rfl (w0 := w66) (fun x_ c_ => r_eql rfl rfl) ?_
                            refine s_takeM (M := (blk mb)) rfl rfl (w0 := w66) (fun x_ c_ => r_pick true rfl) ?_
                            refine s_takeB rfl rfl (by intro x_ hx_; (try subst hx_); exact r_move) (fun h81 => ?_) (fun h81 => ?_)
                            · first | replace h81 := of_decide_eq_true h81 | replace h81 := of_decide_eq_false (nt h81) | skip
                              refine s_takeMg (M := (blk mb)) rfl rfl (w0 := w66) (fun x_ c_ => r_move) ?_
                              refine s_alts ?_ ?_
                              ·
                                refine s_fxMg rfl rfl (w_call Try.call24 rfl (rootM_spec (putS (delS (fillS ot 1000) (plcI ot (kk : Nat))) (plcI ot (kk : Nat)) (plcI ot 1)) _ _ _ (by rw [lw.len6]; omega) (by rw [lw.len6]; omega) lw.hv6 lw.nd6 hp.rd hm)) ?_
                                rintro _ w82 ⟨rfl, c_w82⟩
                                have hs_w82 : w80.heap.size ≤ w82.heap.size := Chg.size c_w82
                                replace p3 := p3.k c_w82
                                replace p22 := p22.k c_w82
                                replace hm := hm.k c_w82
                                replace hp := hp.k c_w82
                                have C_w82 := Chg.pure C_w80 c_w82
                                have hg_83 : (rootF (getS (putS (delS (fillS ot 1000) (plcI ot (kk : Nat))) (plcI ot (kk : Nat)) (plcI ot 1))) ((putS (delS (fillS ot 1000) (plcI ot (kk : Nat))) (plcI ot (kk : Nat)) (plcI ot 1)).map (·.1))).length = 32 := rootF_len _ _
                                have K_w82 := Chg.pure K_w80 c_w82
                                refine ⟨K_w82, ?_⟩
                                refine s_valMg rfl rfl (r_loadN Try.isAgg25 Try.sizeOf25 rfl p22.rd (by first | exact bs_len (by omega) | exact bs_len (by simp; done) | exact bs_len (by simp; omega))) K_w82 ?_
                                refine s_val_g rfl rfl (r_eqArr Try.underlying25 Try.underlying5 Try.sizeOf5 rfl rfl (by first | omega | (simp; done) | (simp; omega)) (by first | omega | (simp; done) | (simp; omega)) (by kernel_rfl)) rfl ?_
                                refine s_val rfl rfl (r_pick true rfl) rfl ?_
                                refine s_val rfl rfl (r_assign) rfl ?_
                                refine s_end ?_
                                refine go_ret ?_
                                refine ⟨_, .cons rfl (.nil), ?_⟩
                                exact ⟨congrArg Value.bool (decide_eq_true lw.e6), C_w82⟩
                              ·
                                refine s_valMg rfl rfl (r_loadN Try.isAgg25 Try.sizeOf25 rfl p22.rd (by first | exact bs_len (by omega) | exact bs_len (by simp; done) | exact bs_len (by simp; omega))) K_w80 ?_
                                refine s_fxMg rfl rfl (w_call Try.call24 rfl (rootM_spec (putS (delS (fillS ot 1000) (plcI ot (kk : Nat))) (plcI ot (kk : Nat)) (plcI ot 1)) _ _ _ (by rw [lw.len6]; omega) (by rw [lw.len6]; omega) lw.hv6 lw.nd6 hp.rd hm)) ?_
                                rintro _ w84 ⟨rfl, c_w84⟩
                                have hs_w84 : w80.heap.size ≤ w84.heap.size := Chg.size c_w84
                                replace p3 := p3.k c_w84
                                replace p22 := p22.k c_w84
                                replace hm := hm.k c_w84
                                replace hp := hp.k c_w84
                                have C_w84 := Chg.pure C_w80 c_w84
                                have hg_85 : (rootF (getS (putS (delS (fillS ot 1000) (plcI ot (kk : Nat))) (plcI ot (kk : Nat)) (plcI ot 1))) ((putS (delS (fillS ot 1000) (plcI ot (kk : Nat))) (plcI ot (kk : Nat)) (plcI ot 1)).map (·.1))).length = 32 := rootF_len _ _
                                have K_w84 := Chg.pure K_w80 c_w84
                                refine ⟨K_w84, ?_⟩
                                refine s_val_g rfl rfl (r_eqArr Try.underlying25 Try.underlying5 Try.sizeOf5 rfl rfl (by first | omega | (simp; done) | (simp; omega)) (by first | omega | (simp; done) | (simp; omega)) (by kernel_rfl)) rfl ?_
                                refine s_val rfl rfl (r_pick true rfl) rfl ?_
                                refine s_val rfl rfl (r_assign) rfl ?_
                                refine s_end ?_
                                refine go_ret ?_
                                refine ⟨_, .cons rfl (.nil), ?_⟩
                                exact ⟨congrArg Value.bool (decide_eq_true lw.e6), C_w84⟩
                            · first | replace h81 := of_decide_eq_false h81 | replace h81 := of_decide_eq_true (nf h81) | skip
                              exfalso
                              exact h81 rfl
                          · first | replace h75 := of_decide_eq_false h75 | replace h75 := of_decide_eq_true (nf h75) | skip
                            exfalso
                            exact h75 rfl
                        · first | replace h71 := of_decide_eq_false h71 | replace h71 := of_decide_eq_true (nf h71) | skip
                          exfalso
                          have := lw.len4
                          omega
              ·
                refine s_valMg rfl rfl (r_loadN Try.isAgg25 Try.sizeOf25 rfl p22.rd (by first | exact bs_len (by omega) | exact bs_len (by simp; done) | exact bs_len (by simp; omega))) K_w45 ?_
                refine s_fxMg rfl rfl (w_call Try.call24 rfl (rootM_spec (fillS ot 1000) _ _ _ (by rw [lw.len0]; omega) (by rw [lw.len0]; omega) lw.hv0 lw.nd0 hp.rd hm)) ?_
                rintro _ w86 ⟨rfl, c_w86⟩
                have hs_w86 : w45.heap.size ≤ w86.heap.size := Chg.size c_w86
                replace p3 := p3.k c_w86
                replace p22 := p22.k c_w86
                replace hm := hm.k c_w86
                replace hp := hp.k c_w86
                have C_w86 := Chg.pure C_w45 c_w86
                have hg_87 : (rootF (getS (fillS ot 1000)) ((fillS ot 1000).map (·.1))).length = 32 := rootF_len _ _
                have K_w86 := Chg.pure K_w45 c_w86
                refine ⟨K_w86, ?_⟩
                refine s_val_g rfl rfl (r_neqArr Try.underlying25 Try.underlying5 Try.sizeOf5 rfl rfl (by first | omega | (simp; done) | (simp; omega)) (by first | omega | (simp; done) | (simp; omega)) (by kernel_rfl)) rfl ?_
                refine s_val rfl rfl (r_pick false rfl) rfl ?_
                refine s_end ?_
                refine go_ifb _ rfl (fun h88 => ?_) (fun h88 => ?_)
                · first | replace h88 := of_decide_eq_true h88 | replace h88 := of_decide_eq_false (nt h88) | skip
                  exfalso
                  exact h88 rfl
                · first | replace h88 := of_decide_eq_false h88 | replace h88 := of_decide_eq_true (nf h88) | skip
                  refine go_skip ?_
                  refine go_seq ?_
                  refine go_seq ?_
                  refine go_region 25 rfl rfl ?_
                  refine s_val rfl rfl (r_move) rfl ?_
                  refine s_val rfl rfl (r_move) rfl ?_
                  refine s_val rfl rfl (r_move) rfl ?_
                  refine s_do rfl rfl (w_callV Try.call22 rfl rfl (place_spec (((kk : Nat) : Int)) ot _ _ p3.rd)) rfl ?_
                  rintro _ w89 ⟨rfl, c_w89⟩
                  have hs_w89 : w86.heap.size ≤ w89.heap.size := Chg.size c_w89
                  replace p3 := p3.k c_w89
                  replace p22 := p22.k c_w89
                  replace hm := hm.k c_w89
                  replace hp := hp.k c_w89
                  have C_w89 := Chg.pure C_w86 c_w89
                  have hg_90 := plcI_len ot (((kk : Nat) : Int))
                  refine s_do rfl rfl (w_call Try.call25 rfl (drop_spec (fillS ot 1000) (plcI ot (kk : Nat)) _ _ _ (plcI_len _ _) hp hm hpm lw.hv0 (by rw [lw.in0]; rfl))) rfl ?_
                  rintro _ w91 ⟨rfl, hpN, hmN, c_w91⟩
                  have hs_w91 : w89.heap.size ≤ w91.heap.size := Chg.size c_w91
                  replace p3 := p3.kB c_w91 (by omega)
                  replace p22 := p22.kB c_w91 (by omega)
                  have C_w91 := Chg.newB C_w89 c_w91 (by omega)
                  have hp := hpN
                  clear hpN
                  have hm := hmN
                  clear hmN
                  refine s_val rfl rfl (r_neq rfl rfl) rfl ?_
                  refine s_valB rfl rfl (r_move) rfl (fun h92 => ?_) (fun h92 => ?_)
                  · first | replace h92 := of_decide_eq_true h92 | replace h92 := of_decide_eq_false (nt h92) | skip
                    exfalso
                    exact h92 rfl
                  · first | replace h92 := of_decide_eq_false h92 | replace h92 := of_decide_eq_true (nf h92) | skip
                    refine s_val_g rfl rfl (r_move) rfl ?_
                    refine s_val_g rfl rfl (r_move) rfl ?_
                    refine s_do_g rfl rfl (w_callV Try.call22 rfl rfl (place_spec (1000) ot _ _ p3.rd)) rfl ?_
                    rintro _ w93 ⟨rfl, c_w93⟩
                    have hs_w93 : w91.heap.size ≤ w93.heap.size := Chg.size c_w93
                    replace p3 := p3.k c_w93
                    replace p22 := p22.k c_w93
                    replace hm := hm.k c_w93
                    replace hp := hp.k c_w93
                    have C_w93 := Chg.pure C_w91 c_w93
                    have hg_94 := plcI_len ot (1000)
                    refine s_val_g rfl rfl (r_move) rfl ?_
                    refine s_do_g rfl rfl (w_callV Try.call22 rfl rfl (place_spec (1) ot _ _ p3.rd)) rfl ?_
                    rintro _ w95 ⟨rfl, c_w95⟩
                    have hs_w95 : w93.heap.size ≤ w95.heap.size := Chg.size c_w95
                    replace p3 := p3.k c_w95
                    replace p22 := p22.k c_w95
                    replace hm := hm.k c_w95
                    replace hp := hp.k c_w95
                    have C_w95 := Chg.pure C_w93 c_w95
                    have hg_96 := plcI_len ot (1)
                    refine s_do_g rfl rfl (w_call Try.call23 rfl (setP_spec (delS (fillS ot 1000) (plcI ot (kk : Nat))) (plcI ot 1000) (plcI ot 1) _ _ _ (plcI_len _ _) (plcI_len _ _) plc_ne hp hm hpm lw.hv3 (by exact Or.inr (by rw [lw.len3]; omega)))) rfl ?_
                    rintro _ w97 ⟨rfl, hpN, hmN, c_w97⟩
                    have hs_w97 : w95.heap.size ≤ w97.heap.size := Chg.size c_w97
                    replace p3 := p3.kB c_w97 (by omega)
                    replace p22 := p22.kB c_w97 (by omega)
                    have C_w97 := Chg.newB C_w95 c_w97 (by omega)
                    have hp := hpN
                    clear hpN
                    have hm := hmN
                    clear hmN
                    refine s_val_g rfl rfl (r_neq rfl rfl) rfl ?_
                    refine s_val rfl rfl (r_pick false rfl) rfl ?_
                    refine s_valB rfl rfl (r_move) rfl (fun h98 => ?_) (fun h98 => ?_)
                    · first | replace h98 := of_decide_eq_true h98 | replace h98 := of_decide_eq_false (nt h98) | skip
                      exfalso
                      exact h98 rfl
                    · first | replace h98 := of_decide_eq_false h98 | replace h98 := of_decide_eq_true (nf h98) | skip
                      refine s_val_g rfl rfl (r_move) rfl ?_
                      refine s_val_g rfl rfl (r_move) rfl ?_
                      refine s_val_g rfl rfl (r_move) rfl ?_
                      refine s_do_g rfl rfl (w_callV Try.call22 rfl rfl (place_spec (((kk : Nat) : Int)) ot _ _ p3.rd)) rfl ?_
                      rintro _ w99 ⟨rfl, c_w99⟩
                      have hs_w99 : w97.heap.size ≤ w99.heap.size := Chg.size c_w99
                      replace p3 := p3.k c_w99
                      replace p22 := p22.k c_w99
                      replace hm := hm.k c_w99
                      replace hp := hp.k c_w99
                      have C_w99 := Chg.pure C_w97 c_w99
                      have hg_100 := plcI_len ot (((kk : Nat) : Int))
                      refine s_val_g rfl rfl (r_move) rfl ?_
                      refine s_do_g rfl rfl (w_callV Try.call22 rfl rfl (place_spec (1) ot _ _ p3.rd)) rfl ?_
                      rintro _ w101 ⟨rfl, c_w101⟩
                      have hs_w101 : w99.heap.size ≤ w101.heap.size := Chg.size c_w101
                      replace p3 := p3.k c_w101
                      replace p22 := p22.k c_w101
                      replace hm := hm.k c_w101
                      replace hp := hp.k c_w101
                      have C_w101 := Chg.pure C_w99 c_w101
                      have hg_102 := plcI_len ot (1)
                      refine s_do_g rfl rfl (w_call Try.call23 rfl (setF_spec (putS (delS (fillS ot 1000) (plcI ot (kk : Nat))) (plcI ot 1000) (plcI ot 1)) (plcI ot (kk : Nat)) (plcI ot 1) _ _ _ (plcI_len _ _) (plcI_len _ _) plc_ne hp hm lw.hv4 (by exact lw.nk4) (by rw [lw.len4]; omega))) rfl ?_
                      rintro _ w103 ⟨rfl, c_w103⟩
                      have hs_w103 : w101.heap.size ≤ w103.heap.size := Chg.size c_w103
                      replace p3 := p3.k c_w103
                      replace p22 := p22.k c_w103
                      replace hm := hm.k c_w103
                      replace hp := hp.k c_w103
                      have C_w103 := Chg.pure C_w101 c_w103
                      refine s_val_g rfl rfl (r_neq rfl rfl) rfl ?_
                      refine s_val rfl rfl (r_pick false rfl) rfl ?_
                      refine s_end ?_
                      refine go_ifb _ rfl (fun h104 => ?_) (fun h104 => ?_)
                      · first | replace h104 := of_decide_eq_true h104 | replace h104 := of_decide_eq_false (nt h104) | skip
                        exfalso
                        exact h104 rfl
                      · first | replace h104 := of_decide_eq_false h104 | replace h104 := of_decide_eq_true (nf h104) | skip
                        refine go_skip ?_
                        refine go_seq ?_
                        refine go_drawsM (M := (blk mb)) 25 (.take 0 (.eff 1 (.take 2 (.take 3 (.take 4 (.take 5 (.take 6 (.eff 7 (.eff 8 (.take 9 (.take 10 (.take 11 (.take 12 (.take 13 (.take 14 (.take 16 (.eff 15 (.eff 17 (.eff 18 (.take 19 (.take 20 (.take 21 (.take 22 (.alts (.eff 23 (.eff 24 (.eff 25 (.eff 26 (.eff 27 .done))))) (.eff 24 (.eff 23 (.eff 25 (.eff 26 (.eff 27 .done))))))))))))))))))))))))))))) (by kernel_rfl) (by kernel_rfl) fun w105 c_w105 => ?_
                        have hs_w105 : w103.heap.size ≤ w105.heap.size := Chg.size c_w105
                        replace p3 := p3.k c_w105
                        replace p22 := p22.k c_w105
                        replace hm := hm.k c_w105
                        replace hp := hp.k c_w105
                        have C_w105 := Chg.pure C_w103 c_w105
                        have p3_0 := p3
                        have p22_0 := p22
                        have hm_0 := hm
                        have hp_0 := hp
                        refine s_takeM (M := (blk mb)) rfl rfl (w0 := w105) (fun x_ c_ => r_move) ?_
                        refine s_fxM rfl rfl (w_call Try.call26 rfl (keys_spec (putS (delS (fillS ot 1000) (plcI ot (kk : Nat))) (plcI ot 1000) (plcI ot 1)) _ _ _ (by rw [lw.len4]; omega) (by rw [lw.len4]; omega) hp.rd hm)) ?_
                        rintro _ w106 ⟨bk107, ck108, rfl, hc_ck108, hl_bk107, hk109, c_w106⟩
                        have hs_w106 : w105.heap.size ≤ w106.heap.size := Chg.size c_w106
                        replace p3 := p3.k c_w106
                        replace p22 := p22.k c_w106
                        replace hm := hm.k c_w106
                        replace hp := hp.k c_w106
                        have C_w106 := Chg.pure C_w105 c_w106
                        have K_w106 := Chg.pure (Chg.refl (blk mb) w105) c_w106
                        refine ⟨K_w106, ?_⟩
                        refine s_takeM (M := (blk mb)) rfl rfl (w0 := w105) (fun x_ c_ => r_len Try.runUnderlying29 rfl) ?_
                        refine s_takeM (M := (blk mb)) rfl rfl (w0 := w105) (fun x_ c_ => r_eql rfl rfl) ?_
                        refine s_takeB rfl rfl (by intro x_ hx_; (try subst hx_); exact r_move) (fun h110 => ?_) (fun h110 => ?_)
                        · first | replace h110 := of_decide_eq_true h110 | replace h110 := of_decide_eq_false (nt h110) | skip
                          refine s_takeMg (M := (blk mb)) rfl rfl (w0 := w105) (fun x_ c_ => r_move) ?_
                          refine s_takeMg (M := (blk mb)) rfl rfl (w0 := w105) (fun x_ c_ => r_move) ?_
                          refine s_fxMg rfl rfl (w_callV Try.call22 rfl rfl (place_spec (1000) ot _ _ p3.rd)) ?_
                          rintro _ w111 ⟨rfl, c_w111⟩
                          have hs_w111 : w106.heap.size ≤ w111.heap.size := Chg.size c_w111
                          replace p3 := p3.k c_w111
                          replace p22 := p22.k c_w111
                          replace hm := hm.k c_w111
                          replace hp := hp.k c_w111
                          have C_w111 := Chg.pure C_w106 c_w111
                          have hg_112 := plcI_len ot (1000)
                          have K_w111 := Chg.pure K_w106 c_w111
                          refine ⟨K_w111, ?_⟩
                          refine s_fxMg rfl rfl (w_call Try.call25 rfl (drop_spec (putS (delS (fillS ot 1000) (plcI ot (kk : Nat))) (plcI ot 1000) (plcI ot 1)) (plcI ot 1000) _ _ _ (plcI_len _ _) hp hm hpm lw.hv4 (by rw [lw.in4]; rfl))) ?_
                          rintro _ w113 ⟨rfl, hpN, hmN, c_w113⟩
                          have hs_w113 : w111.heap.size ≤ w113.heap.size := Chg.size c_w113
                          replace p3 := p3.kB c_w113 (by omega)
                          replace p22 := p22.kB c_w113 (by omega)
                          have C_w113 := Chg.newB C_w111 c_w113 (by omega)
                          have hp := hpN
                          clear hpN
                          have hm := hmN
                          clear hmN
                          rw [lw.e5] at hm
                          have K_w113 := Chg.into K_w111 c_w113 (fun _ _ _ m => m)
                          refine ⟨K_w113, ?_⟩
                          refine s_takeMg (M := (blk mb)) rfl rfl (w0 := w105) (fun x_ c_ => r_eql rfl rfl) ?_
                          refine s_takeM (M := (blk mb)) rfl rfl (w0 := w105) (fun x_ c_ => r_pick true rfl) ?_
                          refine s_takeB rfl rfl (by intro x_ hx_; (try subst hx_); exact r_move) (fun h114 => ?_) (fun h114 => ?_)
                          · first | replace h114 := of_decide_eq_true h114 | replace h114 := of_decide_eq_false (nt h114) | skip
                            refine s_takeMg (M := (blk mb)) rfl rfl (w0 := w105) (fun x_ c_ => r_move) ?_
                            refine s_takeMg (M := (blk mb)) rfl rfl (w0 := w105) (fun x_ c_ => r_move) ?_
                            refine s_takeMg (M := (blk mb)) rfl rfl (w0 := w105) (fun x_ c_ => r_move) ?_
                            refine s_takeMg (M := (blk mb)) rfl rfl (w0 := w105) (fun x_ c_ => r_move) ?_
                            refine s_fxMg rfl rfl (w_callV Try.call22 rfl rfl (place_spec (((kk : Nat) : Int)) ot _ _ p3.rd)) ?_
                            rintro _ w115 ⟨rfl, c_w115⟩
                            have hs_w115 : w113.heap.size ≤ w115.heap.size := Chg.size c_w115
                            replace p3 := p3.k c_w115
                            replace p22 := p22.k c_w115
                            replace hm := hm.k c_w115
                            replace hp := hp.k c_w115
                            have C_w115 := Chg.pure C_w113 c_w115
                            have hg_116 := plcI_len ot (((kk : Nat) : Int))
                            have K_w115 := Chg.pure K_w113 c_w115
                            refine ⟨K_w115, ?_⟩
                            refine s_fxMg rfl rfl (w_callV Try.call22 rfl rfl (place_spec (1) ot _ _ p3.rd)) ?_
                            rintro _ w117 ⟨rfl, c_w117⟩
                            have hs_w117 : w115.heap.size ≤ w117.heap.size := Chg.size c_w117
                            replace p3 := p3.k c_w117
                            replace p22 := p22.k c_w117
                            replace hm := hm.k c_w117
                            replace hp := hp.k c_w117
                            have C_w117 := Chg.pure C_w115 c_w117
                            have hg_118 := plcI_len ot (1)
                            have K_w117 := Chg.pure K_w115 c_w117
                            refine ⟨K_w117, ?_⟩
                            refine s_fxMg rfl rfl (w_call Try.call23 rfl (setP_spec (delS (fillS ot 1000) (plcI ot (kk : Nat))) (plcI ot (kk : Nat)) (plcI ot 1) _ _ _ (plcI_len _ _) (plcI_len _ _) plc_ne hp hm hpm lw.hv3 (by exact Or.inr (by rw [lw.len3]; omega)))) ?_
                            rintro _ w119 ⟨rfl, hpN, hmN, c_w119⟩
                            have hs_w119 : w117.heap.size ≤ w119.heap.size := Chg.size c_w119
                            replace p3 := p3.kB c_w119 (by omega)
                            replace p22 := p22.kB c_w119 (by omega)
                            have C_w119 := Chg.newB C_w117 c_w119 (by omega)
                            have hp := hpN
                            clear hpN
                            have hm := hmN
                            clear hmN
                            have K_w119 := Chg.into K_w117 c_w119 (fun _ _ _ m => m)
                            refine ⟨K_w119, ?_⟩
                            refine s_takeMg (M := (blk mb)) rfl rfl (w0 := w105) (fun x_ c_ => r_eql rfl rfl) ?_
                            refine s_takeM (M := (blk mb)) rfl rfl (w0 := w105) (fun x_ c_ => r_pick true rfl) ?_
                            refine s_takeB rfl rfl (by intro x_ hx_; (try subst hx_); exact r_move) (fun h120 => ?_) (fun h120 => ?_)
                            · first | replace h120 := of_decide_eq_true h120 | replace h120 := of_decide_eq_false (nt h120) | skip
                              refine s_takeMg (M := (blk mb)) rfl rfl (w0 := w105) (fun x_ c_ => r_move) ?_
                              refine s_alts ?_ ?_
                              ·
                                refine s_fxMg rfl rfl (w_call Try.call24 rfl (rootM_spec (putS (delS (fillS ot 1000) (plcI ot (kk : Nat))) (plcI ot (kk : Nat)) (plcI ot 1)) _ _ _ (by rw [lw.len6]; omega) (by rw [lw.len6]; omega) lw.hv6 lw.nd6 hp.rd hm)) ?_
                                rintro _ w121 ⟨rfl, c_w121⟩
                                have hs_w121 : w119.heap.size ≤ w121.heap.size := Chg.size c_w121
                                replace p3 := p3.k c_w121
                                replace p22 := p22.k c_w121
                                replace hm := hm.k c_w121
                                replace hp := hp.k c_w121
                                have C_w121 := Chg.pure C_w119 c_w121
                                have hg_122 : (rootF (getS (putS (delS (fillS ot 1000) (plcI ot (kk : Nat))) (plcI ot (kk : Nat)) (plcI ot 1))) ((putS (delS (fillS ot 1000) (plcI ot (kk : Nat))) (plcI ot (kk : Nat)) (plcI ot 1)).map (·.1))).length = 32 := rootF_len _ _
                                have K_w121 := Chg.pure K_w119 c_w121
                                refine ⟨K_w121, ?_⟩
                                refine s_valMg rfl rfl (r_loadN Try.isAgg25 Try.sizeOf25 rfl p22.rd (by first | exact bs_len (by omega) | exact bs_len (by simp; done) | exact bs_len (by simp; omega))) K_w121 ?_
                                refine s_val_g rfl rfl (r_eqArr Try.underlying25 Try.underlying5 Try.sizeOf5 rfl rfl (by first | omega | (simp; done) | (simp; omega)) (by first | omega | (simp; done) | (simp; omega)) (by kernel_rfl)) rfl ?_
                                refine s_val rfl rfl (r_pick true rfl) rfl ?_
                                refine s_val rfl rfl (r_assign) rfl ?_
                                refine s_end ?_
                                refine go_ret ?_
                                refine ⟨_, .cons rfl (.nil), ?_⟩
                                exact ⟨congrArg Value.bool (decide_eq_true lw.e6), C_w121⟩
                              ·
                                refine s_valMg rfl rfl (r_loadN Try.isAgg25 Try.sizeOf25 rfl p22.rd (by first | exact bs_len (by omega) | exact bs_len (by simp; done) | exact bs_len (by simp; omega))) K_w119 ?_
                                refine s_fxMg rfl rfl (w_call Try.call24 rfl (rootM_spec (putS (delS (fillS ot 1000) (plcI ot (kk : Nat))) (plcI ot (kk : Nat)) (plcI ot 1)) _ _ _ (by rw [lw.len6]; omega) (by rw [lw.len6]; omega) lw.hv6 lw.nd6 hp.rd hm)) ?_
                                rintro _ w123 ⟨rfl, c_w123⟩
                                have hs_w123 : w119.heap.size ≤ w123.heap.size := Chg.size c_w123
                                replace p3 := p3.k c_w123
                                replace p22 := p22.k c_w123
                                replace hm := hm.k c_w123
                                replace hp := hp.k c_w123
                                have C_w123 := Chg.pure C_w119 c_w123
                                have hg_124 : (rootF (getS (putS (delS (fillS ot 1000) (plcI ot (kk : Nat))) (plcI ot (kk : Nat)) (plcI ot 1))) ((putS (delS (fillS ot 1000) (plcI ot (kk : Nat))) (plcI ot (kk : Nat)) (plcI ot 1)).map (·.1))).length = 32 := rootF_len _ _
                                have K_w123 := Chg.pure K_w119 c_w123
                                refine ⟨K_w123, ?_⟩
                                refine s_val_g rfl rfl (r_eqArr Try.underlying25 Try.underlying5 Try.sizeOf5 rfl rfl (by first | omega | (simp; done) | (simp; omega)) (by first | omega | (simp; done) | (simp; omega)) (by kernel_rfl)) rfl ?_
                                refine s_val rfl rfl (r_pick true rfl) rfl ?_
                                refine s_val rfl rfl (r_assign) rfl ?_
                                refine s_end ?_
                                refine go_ret ?_
                                refine ⟨_, .cons rfl (.nil), ?_⟩
                                exact ⟨congrArg Value.bool (decide_eq_true lw.e6), C_w123⟩
                            · first | replace h120 := of_decide_eq_false h120 | replace h120 := of_decide_eq_true (nf h120) | skip
                              exfalso
                              exact h120 rfl
                          · first | replace h114 := of_decide_eq_false h114 | replace h114 := of_decide_eq_true (nf h114) | skip
                            exfalso
                            exact h114 rfl
                        · first | replace h110 := of_decide_eq_false h110 | replace h110 := of_decide_eq_true (nf h110) | skip
                          exfalso
                          have := lw.len4
                          omega
      ·
        refine s_valMg rfl rfl (r_loadN Try.isAgg25 Try.sizeOf25 rfl p22.rd (by first | exact bs_len (by omega) | exact bs_len (by simp; done) | exact bs_len (by simp; omega))) K_w29 ?_
        refine s_fxMg rfl rfl (w_call Try.call24 rfl (rootM_spec (fillS ot 1000) _ _ _ (by rw [lw.len0]; omega) (by rw [lw.len0]; omega) lw.hv0 lw.nd0 hp.rd hm)) ?_
        rintro _ w125 ⟨rfl, c_w125⟩
        have hs_w125 : w29.heap.size ≤ w125.heap.size := Chg.size c_w125
        replace p3 := p3.k c_w125
        replace hp := hp.k c_w125
        replace hm := hm.k c_w125
        replace p22 := p22.k c_w125
        have C_w125 := Chg.pure C_w29 c_w125
        have hg_126 : (rootF (getS (fillS ot 1000)) ((fillS ot 1000).map (·.1))).length = 32 := rootF_len _ _
        have K_w125 := Chg.pure K_w29 c_w125
        refine ⟨K_w125, ?_⟩
        refine s_val_g rfl rfl (r_neqArr Try.underlying25 Try.underlying5 Try.sizeOf5 rfl rfl (by first | omega | (simp; done) | (simp; omega)) (by first | omega | (simp; done) | (simp; omega)) (by kernel_rfl)) rfl ?_
        refine s_val rfl rfl (r_pick false rfl) rfl ?_
        refine s_end ?_
        refine go_ifb _ rfl (fun h127 => ?_) (fun h127 => ?_)
        · first | replace h127 := of_decide_eq_true h127 | replace h127 := of_decide_eq_false (nt h127) | skip
          exfalso
          exact h127 rfl
        · first | replace h127 := of_decide_eq_false h127 | replace h127 := of_decide_eq_true (nf h127) | skip
          refine go_skip ?_
          refine go_seq ?_
          refine go_seq ?_
          refine go_drawsM (M := (blk mb)) 22 (.take 0 (.take 1 (.take 2 (.take 4 (.eff 3 (.eff 5 (.eff 6 (.take 7 (.take 8 (.take 9 (.take 10 (.take 11 (.take 13 (.eff 12 (.eff 14 (.eff 15 (.take 16 (.take 17 (.take 18 (.take 19 (.alts (.eff 20 (.eff 21 (.eff 22 (.eff 23 .done)))) (.eff 21 (.eff 20 (.eff 22 (.eff 23 .done))))))))))))))))))))))))) (by kernel_rfl) (by kernel_rfl) fun w128 c_w128 => ?_
          have hs_w128 : w125.heap.size ≤ w128.heap.size := Chg.size c_w128
          replace p3 := p3.k c_w128
          replace hp := hp.k c_w128
          replace hm := hm.k c_w128
          replace p22 := p22.k c_w128
          have C_w128 := Chg.pure C_w125 c_w128
          have p3_0 := p3
          have hp_0 := hp
          have hm_0 := hm
          have p22_0 := p22
          refine s_takeM (M := (blk mb)) rfl rfl (w0 := w128) (fun x_ c_ => r_move) ?_
          refine s_takeM (M := (blk mb)) rfl rfl (w0 := w128) (fun x_ c_ => r_move) ?_
          refine s_takeM (M := (blk mb)) rfl rfl (w0 := w128) (fun x_ c_ => r_move) ?_
          refine s_takeM (M := (blk mb)) rfl rfl (w0 := w128) (fun x_ c_ => r_move) ?_
          refine s_fxM rfl rfl (w_callV Try.call22 rfl rfl (place_spec (((kk : Nat) : Int)) ot _ _ p3.rd)) ?_
          rintro _ w129 ⟨rfl, c_w129⟩
          have hs_w129 : w128.heap.size ≤ w129.heap.size := Chg.size c_w129
          replace p3 := p3.k c_w129
          replace hp := hp.k c_w129
          replace hm := hm.k c_w129
          replace p22 := p22.k c_w129
          have C_w129 := Chg.pure C_w128 c_w129
          have hg_130 := plcI_len ot (((kk : Nat) : Int))
          have K_w129 := Chg.pure (Chg.refl (blk mb) w128) c_w129
          refine ⟨K_w129, ?_⟩
          refine s_fxM rfl rfl (w_callV Try.call22 rfl rfl (place_spec (2) ot _ _ p3.rd)) ?_
          rintro _ w131 ⟨rfl, c_w131⟩
          have hs_w131 : w129.heap.size ≤ w131.heap.size := Chg.size c_w131
          replace p3 := p3.k c_w131
          replace hp := hp.k c_w131
          replace hm := hm.k c_w131
          replace p22 := p22.k c_w131
          have C_w131 := Chg.pure C_w129 c_w131
          have hg_132 := plcI_len ot (2)
          have K_w131 := Chg.pure K_w129 c_w131
          refine ⟨K_w131, ?_⟩
          refine s_fxM rfl rfl (w_call Try.call23 rfl (setP_spec (fillS ot 1000) (plcI ot (kk : Nat)) (plcI ot 2) _ _ _ (plcI_len _ _) (plcI_len _ _) plc_ne hp hm hpm lw.hv0 (by exact Or.inl (by rw [lw.in0]; rfl)))) ?_
          rintro _ w133 ⟨rfl, hpN, hmN, c_w133⟩
          have hs_w133 : w131.heap.size ≤ w133.heap.size := Chg.size c_w133
          replace p3 := p3.kB c_w133 (by omega)
          replace p22 := p22.kB c_w133 (by omega)
          have C_w133 := Chg.newB C_w131 c_w133 (by omega)
          have hp := hpN
          clear hpN
          have hm := hmN
          clear hmN
          have K_w133 := Chg.into K_w131 c_w133 (fun _ _ _ m => m)
          refine ⟨K_w133, ?_⟩
          refine s_takeM (M := (blk mb)) rfl rfl (w0 := w128) (fun x_ c_ => r_neq rfl rfl) ?_
          refine s_takeB rfl rfl (by intro x_ hx_; (try subst hx_); exact r_move) (fun h134 => ?_) (fun h134 => ?_)
          · first | replace h134 := of_decide_eq_true h134 | replace h134 := of_decide_eq_false (nt h134) | skip
            exfalso
            exact h134 rfl
          · first | replace h134 := of_decide_eq_false h134 | replace h134 := of_decide_eq_true (nf h134) | skip
            refine s_takeMg (M := (blk mb)) rfl rfl (w0 := w128) (fun x_ c_ => r_move) ?_
            refine s_takeMg (M := (blk mb)) rfl rfl (w0 := w128) (fun x_ c_ => r_move) ?_
            refine s_takeMg (M := (blk mb)) rfl rfl (w0 := w128) (fun x_ c_ => r_move) ?_
            refine s_takeMg (M := (blk mb)) rfl rfl (w0 := w128) (fun x_ c_ => r_move) ?_
            refine s_fxMg rfl rfl (w_callV Try.call22 rfl rfl (place_spec (((kk : Nat) : Int)) ot _ _ p3.rd)) ?_
            rintro _ w135 ⟨rfl, c_w135⟩
            have hs_w135 : w133.heap.size ≤ w135.heap.size := Chg.size c_w135
            replace p3 := p3.k c_w135
            replace p22 := p22.k c_w135
            replace hm := hm.k c_w135
            replace hp := hp.k c_w135
            have C_w135 := Chg.pure C_w133 c_w135
            have hg_136 := plcI_len ot (((kk : Nat) : Int))
            have K_w135 := Chg.pure K_w133 c_w135
            refine ⟨K_w135, ?_⟩
            refine s_fxMg rfl rfl (w_callV Try.call22 rfl rfl (place_spec (1) ot _ _ p3.rd)) ?_
            rintro _ w137 ⟨rfl, c_w137⟩
            have hs_w137 : w135.heap.size ≤ w137.heap.size := Chg.size c_w137
            replace p3 := p3.k c_w137
            replace p22 := p22.k c_w137
            replace hm := hm.k c_w137
            replace hp := hp.k c_w137
            have C_w137 := Chg.pure C_w135 c_w137
            have hg_138 := plcI_len ot (1)
            have K_w137 := Chg.pure K_w135 c_w137
            refine ⟨K_w137, ?_⟩
            refine s_fxMg rfl rfl (w_call Try.call23 rfl (setP_spec (putS (fillS ot 1000) (plcI ot (kk : Nat)) (plcI ot 2)) (plcI ot (kk : Nat)) (plcI ot 1) _ _ _ (plcI_len _ _) (plcI_len _ _) plc_ne hp hm hpm lw.hv1 (by exact Or.inl (by rw [lw.in1]; rfl)))) ?_
            rintro _ w139 ⟨rfl, hpN, hmN, c_w139⟩
            have hs_w139 : w137.heap.size ≤ w139.heap.size := Chg.size c_w139
            replace p3 := p3.kB c_w139 (by omega)
            replace p22 := p22.kB c_w139 (by omega)
            have C_w139 := Chg.newB C_w137 c_w139 (by omega)
            have hp := hpN
            clear hpN
            have hm := hmN
            clear hmN
            rw [lw.e2] at hm
            have K_w139 := Chg.into K_w137 c_w139 (fun _ _ _ m => m)
            refine ⟨K_w139, ?_⟩
            refine s_takeMg (M := (blk mb)) rfl rfl (w0 := w128) (fun x_ c_ => r_neq rfl rfl) ?_
            refine s_takeM (M := (blk mb)) rfl rfl (w0 := w128) (fun x_ c_ => r_pick false rfl) ?_
            refine s_takeB rfl rfl (by intro x_ hx_; (try subst hx_); exact r_move) (fun h140 => ?_) (fun h140 => ?_)
            · first | replace h140 := of_decide_eq_true h140 | replace h140 := of_decide_eq_false (nt h140) | skip
              exfalso
              exact h140 rfl
            · first | replace h140 := of_decide_eq_false h140 | replace h140 := of_decide_eq_true (nf h140) | skip
              refine s_takeMg (M := (blk mb)) rfl rfl (w0 := w128) (fun x_ c_ => r_move) ?_
              refine s_alts ?_ ?_
              ·
                refine s_fxMg rfl rfl (w_call Try.call24 rfl (rootM_spec (fillS ot 1000) _ _ _ (by rw [lw.len0]; omega) (by rw [lw.len0]; omega) lw.hv0 lw.nd0 hp.rd hm)) ?_
                rintro _ w141 ⟨rfl, c_w141⟩
                have hs_w141 : w139.heap.size ≤ w141.heap.size := Chg.size c_w141
                replace p3 := p3.k c_w141
                replace p22 := p22.k c_w141
                replace hm := hm.k c_w141
                replace hp := hp.k c_w141
                have C_w141 := Chg.pure C_w139 c_w141
                have hg_142 : (rootF (getS (fillS ot 1000)) ((fillS ot 1000).map (·.1))).length = 32 := rootF_len _ _
                have K_w141 := Chg.pure K_w139 c_w141
                refine ⟨K_w141, ?_⟩
                refine s_valMg rfl rfl (r_loadN Try.isAgg25 Try.sizeOf25 rfl p22.rd (by first | exact bs_len (by omega) | exact bs_len (by simp; done) | exact bs_len (by simp; omega))) K_w141 ?_
                refine s_val_g rfl rfl (r_neqArr Try.underlying25 Try.underlying5 Try.sizeOf5 rfl rfl (by first | omega | (simp; done) | (simp; omega)) (by first | omega | (simp; done) | (simp; omega)) (by kernel_rfl)) rfl ?_
                refine s_val rfl rfl (r_pick false rfl) rfl ?_
                refine s_end ?_
                refine go_ifb _ rfl (fun h143 => ?_) (fun h143 => ?_)
                · first | replace h143 := of_decide_eq_true h143 | replace h143 := of_decide_eq_false (nt h143) | skip
                  exfalso
                  exact h143 rfl
                · first | replace h143 := of_decide_eq_false h143 | replace h143 := of_decide_eq_true (nf h143) | skip
                  refine go_skip ?_
                  refine go_seq ?_
                  refine go_seq ?_
                  refine go_region 25 rfl rfl ?_
                  refine s_val rfl rfl (r_move) rfl ?_
                  refine s_val rfl rfl (r_move) rfl ?_
                  refine s_val rfl rfl (r_move) rfl ?_
                  refine s_do rfl rfl (w_callV Try.call22 rfl rfl (place_spec (((kk : Nat) : Int)) ot _ _ p3.rd)) rfl ?_
                  rintro _ w144 ⟨rfl, c_w144⟩
                  have hs_w144 : w141.heap.size ≤ w144.heap.size := Chg.size c_w144
                  replace p3 := p3.k c_w144
                  replace p22 := p22.k c_w144
                  replace hm := hm.k c_w144
                  replace hp := hp.k c_w144
                  have C_w144 := Chg.pure C_w141 c_w144
                  have hg_145 := plcI_len ot (((kk : Nat) : Int))
                  refine s_do rfl rfl (w_call Try.call25 rfl (drop_spec (fillS ot 1000) (plcI ot (kk : Nat)) _ _ _ (plcI_len _ _) hp hm hpm lw.hv0 (by rw [lw.in0]; rfl))) rfl ?_
                  rintro _ w146 ⟨rfl, hpN, hmN, c_w146⟩
                  have hs_w146 : w144.heap.size ≤ w146.heap.size := Chg.size c_w146
                  replace p3 := p3.kB c_w146 (by omega)
                  replace p22 := p22.kB c_w146 (by omega)
                  have C_w146 := Chg.newB C_w144 c_w146 (by omega)
                  have hp := hpN
                  clear hpN
                  have hm := hmN
                  clear hmN
                  refine s_val rfl rfl (r_neq rfl rfl) rfl ?_
                  refine s_valB rfl rfl (r_move) rfl (fun h147 => ?_) (fun h147 => ?_)
                  · first | replace h147 := of_decide_eq_true h147 | replace h147 := of_decide_eq_false (nt h147) | skip
                    exfalso
                    exact h147 rfl
                  · first | replace h147 := of_decide_eq_false h147 | replace h147 := of_decide_eq_true (nf h147) | skip
                    refine s_val_g rfl rfl (r_move) rfl ?_
                    refine s_val_g rfl rfl (r_move) rfl ?_
                    refine s_do_g rfl rfl (w_callV Try.call22 rfl rfl (place_spec (1000) ot _ _ p3.rd)) rfl ?_
                    rintro _ w148 ⟨rfl, c_w148⟩
                    have hs_w148 : w146.heap.size ≤ w148.heap.size := Chg.size c_w148
                    replace p3 := p3.k c_w148
                    replace p22 := p22.k c_w148
                    replace hm := hm.k c_w148
                    replace hp := hp.k c_w148
                    have C_w148 := Chg.pure C_w146 c_w148
                    have hg_149 := plcI_len ot (1000)
                    refine s_val_g rfl rfl (r_move) rfl ?_
                    refine s_do_g rfl rfl (w_callV Try.call22 rfl rfl (place_spec (1) ot _ _ p3.rd)) rfl ?_
                    rintro _ w150 ⟨rfl, c_w150⟩
                    have hs_w150 : w148.heap.size ≤ w150.heap.size := Chg.size c_w150
                    replace p3 := p3.k c_w150
                    replace p22 := p22.k c_w150
                    replace hm := hm.k c_w150
                    replace hp := hp.k c_w150
                    have C_w150 := Chg.pure C_w148 c_w150
                    have hg_151 := plcI_len ot (1)
                    refine s_do_g rfl rfl (w_call Try.call23 rfl (setP_spec (delS (fillS ot 1000) (plcI ot (kk : Nat))) (plcI ot 1000) (plcI ot 1) _ _ _ (plcI_len _ _) (plcI_len _ _) plc_ne hp hm hpm lw.hv3 (by exact Or.inr (by rw [lw.len3]; omega)))) rfl ?_
                    rintro _ w152 ⟨rfl, hpN, hmN, c_w152⟩
                    have hs_w152 : w150.heap.size ≤ w152.heap.size := Chg.size c_w152
                    replace p3 := p3.kB c_w152 (by omega)
                    replace p22 := p22.kB c_w152 (by omega)
                    have C_w152 := Chg.newB C_w150 c_w152 (by omega)
                    have hp := hpN
                    clear hpN
                    have hm := hmN
                    clear hmN
                    refine s_val_g rfl rfl (r_neq rfl rfl) rfl ?_
                    refine s_val rfl rfl (r_pick false rfl) rfl ?_
                    refine s_valB rfl rfl (r_move) rfl (fun h153 => ?_) (fun h153 => ?_)
                    · first | replace h153 := of_decide_eq_true h153 | replace h153 := of_decide_eq_false (nt h153) | skip
                      exfalso
                      exact h153 rfl
                    · first | replace h153 := of_decide_eq_false h153 | replace h153 := of_decide_eq_true (nf h153) | skip
                      refine s_val_g rfl rfl (r_move) rfl ?_
                      refine s_val_g rfl rfl (r_move) rfl ?_
                      refine s_val_g rfl rfl (r_move) rfl ?_
                      refine s_do_g rfl rfl (w_callV Try.call22 rfl rfl (place_spec (((kk : Nat) : Int)) ot _ _ p3.rd)) rfl ?_
                      rintro _ w154 ⟨rfl, c_w154⟩
                      have hs_w154 : w152.heap.size ≤ w154.heap.size := Chg.size c_w154
                      replace p3 := p3.k c_w154
                      replace p22 := p22.k c_w154
                      replace hm := hm.k c_w154
                      replace hp := hp.k c_w154
                      have C_w154 := Chg.pure C_w152 c_w154
                      have hg_155 := plcI_len ot (((kk : Nat) : Int))
                      refine s_val_g rfl rfl (r_move) rfl ?_
                      refine s_do_g rfl rfl (w_callV Try.call22 rfl rfl (place_spec (1) ot _ _ p3.rd)) rfl ?_
                      rintro _ w156 ⟨rfl, c_w156⟩
                      have hs_w156 : w154.heap.size ≤ w156.heap.size := Chg.size c_w156
                      replace p3 := p3.k c_w156
                      replace p22 := p22.k c_w156
                      replace hm := hm.k c_w156
                      replace hp := hp.k c_w156
                      have C_w156 := Chg.pure C_w154 c_w156
                      have hg_157 := plcI_len ot (1)
                      refine s_do_g rfl rfl (w_call Try.call23 rfl (setF_spec (putS (delS (fillS ot 1000) (plcI ot (kk : Nat))) (plcI ot 1000) (plcI ot 1)) (plcI ot (kk : Nat)) (plcI ot 1) _ _ _ (plcI_len _ _) (plcI_len _ _) plc_ne hp hm lw.hv4 (by exact lw.nk4) (by rw [lw.len4]; omega))) rfl ?_
                      rintro _ w158 ⟨rfl, c_w158⟩
                      have hs_w158 : w156.heap.size ≤ w158.heap.size := Chg.size c_w158
                      replace p3 := p3.k c_w158
                      replace p22 := p22.k c_w158
                      replace hm := hm.k c_w158
                      replace hp := hp.k c_w158
                      have C_w158 := Chg.pure C_w156 c_w158
                      refine s_val_g rfl rfl (r_neq rfl rfl) rfl ?_
                      refine s_val rfl rfl (r_pick false rfl) rfl ?_
                      refine s_end ?_
                      refine go_ifb _ rfl (fun h159 => ?_) (fun h159 => ?_)
                      · first | replace h159 := of_decide_eq_true h159 | replace h159 := of_decide_eq_false (nt h159) | skip
                        exfalso
                        exact h159 rfl
                      · first | replace h159 := of_decide_eq_false h159 | replace h159 := of_decide_eq_true (nf h159) | skip
                        refine go_skip ?_
                        refine go_seq ?_
                        refine go_drawsM (M := (blk mb)) 25 (.take 0 (.eff 1 (.take 2 (.take 3 (.take 4 (.take 5 (.take 6 (.eff 7 (.eff 8 (.take 9 (.take 10 (.take 11 (.take 12 (.take 13 (.take 14 (.take 16 (.eff 15 (.eff 17 (.eff 18 (.take 19 (.take 20 (.take 21 (.take 22 (.alts (.eff 23 (.eff 24 (.eff 25 (.eff 26 (.eff 27 .done))))) (.eff 24 (.eff 23 (.eff 25 (.eff 26 (.eff 27 .done))))))))))))))))))))))))))))) (by kernel_rfl) (by kernel_rfl) fun w160 c_w160 => ?_
                        have hs_w160 : w158.heap.size ≤ w160.heap.size := Chg.size c_w160
                        replace p3 := p3.k c_w160
                        replace p22 := p22.k c_w160
                        replace hm := hm.k c_w160
                        replace hp := hp.k c_w160
                        have C_w160 := Chg.pure C_w158 c_w160
                        have p3_0 := p3
                        have p22_0 := p22
                        have hm_0 := hm
                        have hp_0 := hp
                        refine s_takeM (M := (blk mb)) rfl rfl (w0 := w160) (fun x_ c_ => r_move) ?_
                        refine s_fxM rfl rfl (w_call Try.call26 rfl (keys_spec (putS (delS (fillS ot 1000) (plcI ot (kk : Nat))) (plcI ot 1000) (plcI ot 1)) _ _ _ (by rw [lw.len4]; omega) (by rw [lw.len4]; omega) hp.rd hm)) ?_
                        rintro _ w161 ⟨bk162, ck163, rfl, hc_ck163, hl_bk162, hk164, c_w161⟩
                        have hs_w161 : w160.heap.size ≤ w161.heap.size := Chg.size c_w161
                        replace p3 := p3.k c_w161
                        replace p22 := p22.k c_w161
                        replace hm := hm.k c_w161
                        replace hp := hp.k c_w161
                        have C_w161 := Chg.pure C_w160 c_w161
                        have K_w161 := Chg.pure (Chg.refl (blk mb) w160) c_w161
                        refine ⟨K_w161, ?_⟩
                        refine s_takeM (M := (blk mb)) rfl rfl (w0 := w160) (fun x_ c_ => r_len Try.runUnderlying29 rfl) ?_
                        refine s_takeM (M := (blk mb)) rfl rfl (w0 := w160) (fun x_ c_ => r_eql rfl rfl) ?_
                        refine s_takeB rfl rfl (by intro x_ hx_; (try subst hx_); exact r_move) (fun h165 => ?_) (fun h165 => ?_)
                        · first | replace h165 := of_decide_eq_true h165 | replace h165 := of_decide_eq_false (nt h165) | skip
                          refine s_takeMg (M := (blk mb)) rfl rfl (w0 := w160) (fun x_ c_ => r_move) ?_
                          refine s_takeMg (M := (blk mb)) rfl rfl (w0 := w160) (fun x_ c_ => r_move) ?_
                          refine s_fxMg rfl rfl (w_callV Try.call22 rfl rfl (place_spec (1000) ot _ _ p3.rd)) ?_
                          rintro _ w166 ⟨rfl, c_w166⟩
                          have hs_w166 : w161.heap.size ≤ w166.heap.size := Chg.size c_w166
                          replace p3 := p3.k c_w166
                          replace p22 := p22.k c_w166
                          replace hm := hm.k c_w166
                          replace hp := hp.k c_w166
                          have C_w166 := Chg.pure C_w161 c_w166
                          have hg_167 := plcI_len ot (1000)
                          have K_w166 := Chg.pure K_w161 c_w166
                          refine ⟨K_w166, ?_⟩
                          refine s_fxMg rfl rfl (w_call Try.call25 rfl (drop_spec (putS (delS (fillS ot 1000) (plcI ot (kk : Nat))) (plcI ot 1000) (plcI ot 1)) (plcI ot 1000) _ _ _ (plcI_len _ _) hp hm hpm lw.hv4 (by rw [lw.in4]; rfl))) ?_
                          rintro _ w168 ⟨rfl, hpN, hmN, c_w168⟩
                          have hs_w168 : w166.heap.size ≤ w168.heap.size := Chg.size c_w168
                          replace p3 := p3.kB c_w168 (by omega)
                          replace p22 := p22.kB c_w168 (by omega)
                          have C_w168 := Chg.newB C_w166 c_w168 (by omega)
                          have hp := hpN
                          clear hpN
                          have hm := hmN
                          clear hmN
                          rw [lw.e5] at hm
                          have K_w168 := Chg.into K_w166 c_w168 (fun _ _ _ m => m)
                          refine ⟨K_w168, ?_⟩
                          refine s_takeMg (M := (blk mb)) rfl rfl (w0 := w160) (fun x_ c_ => r_eql rfl rfl) ?_
                          refine s_takeM (M := (blk mb)) rfl rfl (w0 := w160) (fun x_ c_ => r_pick true rfl) ?_
                          refine s_takeB rfl rfl (by intro x_ hx_; (try subst hx_); exact r_move) (fun h169 => ?_) (fun h169 => ?_)
                          · first | replace h169 := of_decide_eq_true h169 | replace h169 := of_decide_eq_false (nt h169) | skip
                            refine s_takeMg (M := (blk mb)) rfl rfl (w0 := w160) (fun x_ c_ => r_move) ?_
                            refine s_takeMg (M := (blk mb)) rfl rfl (w0 := w160) (fun x_ c_ => r_move) ?_
                            refine s_takeMg (M := (blk mb)) rfl rfl (w0 := w160) (fun x_ c_ => r_move) ?_
                            refine s_takeMg (M := (blk mb)) rfl rfl (w0 := w160) (fun x_ c_ => r_move) ?_
                            refine s_fxMg rfl rfl (w_callV Try.call22 rfl rfl (place_spec (((kk : Nat) : Int)) ot _ _ p3.rd)) ?_
                            rintro _ w170 ⟨rfl, c_w170⟩
                            have hs_w170 : w168.heap.size ≤ w170.heap.size := Chg.size c_w170
                            replace p3 := p3.k c_w170
                            replace p22 := p22.k c_w170
                            replace hm := hm.k c_w170
                            replace hp := hp.k c_w170
                            have C_w170 := Chg.pure C_w168 c_w170
                            have hg_171 := plcI_len ot (((kk : Nat) : Int))
                            have K_w170 := Chg.pure K_w168 c_w170
                            refine ⟨K_w170, ?_⟩
                            refine s_fxMg rfl rfl (w_callV Try.call22 rfl rfl (place_spec (1) ot _ _ p3.rd)) ?_
                            rintro _ w172 ⟨rfl, c_w172⟩
                            have hs_w172 : w170.heap.size ≤ w172.heap.size := Chg.size c_w172
                            replace p3 := p3.k c_w172
                            replace p22 := p22.k c_w172
                            replace hm := hm.k c_w172
                            replace hp := hp.k c_w172
                            have C_w172 := Chg.pure C_w170 c_w172
                            have hg_173 := plcI_len ot (1)
                            have K_w172 := Chg.pure K_w170 c_w172
                            refine ⟨K_w172, ?_⟩
                            refine s_fxMg rfl rfl (w_call Try.call23 rfl (setP_spec (delS (fillS ot 1000) (plcI ot (kk : Nat))) (plcI ot (kk : Nat)) (plcI ot 1) _ _ _ (plcI_len _ _) (plcI_len _ _) plc_ne hp hm hpm lw.hv3 (by exact Or.inr (by rw [lw.len3]; omega)))) ?_
                            rintro _ w174 ⟨rfl, hpN, hmN, c_w174⟩
                            have hs_w174 : w172.heap.size ≤ w174.heap.size := Chg.size c_w174
                            replace p3 := p3.kB c_w174 (by omega)
                            replace p22 := p22.kB c_w174 (by omega)
                            have C_w174 := Chg.newB C_w172 c_w174 (by omega)
                            have hp := hpN
                            clear hpN
                            have hm := hmN
                            clear hmN
                            have K_w174 := Chg.into K_w172 c_w174 (fun _ _ _ m => m)
                            refine ⟨K_w174, ?_⟩
                            refine s_takeMg (M := (blk mb)) rfl rfl (w0 := w160) (fun x_ c_ => r_eql rfl rfl) ?_
                            refine s_takeM (M := (blk mb)) rfl rfl (w0 := w160) (fun x_ c_ => r_pick true rfl) ?_
                            refine s_takeB rfl rfl (by intro x_ hx_; (try subst hx_); exact r_move) (fun h175 => ?_) (fun h175 => ?_)
                            · first | replace h175 := of_decide_eq_true h175 | replace h175 := of_decide_eq_false (nt h175) | skip
                              refine s_takeMg (M := (blk mb)) rfl rfl (w0 := w160) (fun x_ c_ => r_move) ?_
                              refine s_alts ?_ ?_
                              ·
                                refine s_fxMg rfl rfl (w_call Try.call24 rfl (rootM_spec (putS (delS (fillS ot 1000) (plcI ot (kk : Nat))) (plcI ot (kk : Nat)) (plcI ot 1)) _ _ _ (by rw [lw.len6]; omega) (by rw [lw.len6]; omega) lw.hv6 lw.nd6 hp.rd hm)) ?_
                                rintro _ w176 ⟨rfl, c_w176⟩
                                have hs_w176 : w174.heap.size ≤ w176.heap.size := Chg.size c_w176
                                replace p3 := p3.k c_w176
                                replace p22 := p22.k c_w176
                                replace hm := hm.k c_w176
                                replace hp := hp.k c_w176
                                have C_w176 := Chg.pure C_w174 c_w176
                                have hg_177 : (rootF (getS (putS (delS (fillS ot 1000) (plcI ot (kk : Nat))) (plcI ot (kk : Nat)) (plcI ot 1))) ((putS (delS (fillS ot 1000) (plcI ot (kk : Nat))) (plcI ot (kk : Nat)) (plcI ot 1)).map (·.1))).length = 32 := rootF_len _ _
                                have K_w176 := Chg.pure K_w174 c_w176
                                refine ⟨K_w176, ?_⟩
                                refine s_valMg rfl rfl (r_loadN Try.isAgg25 Try.sizeOf25 rfl p22.rd (by first | exact bs_len (by omega) | exact bs_len (by simp; done) | exact bs_len (by simp; omega))) K_w176 ?_
                                refine s_val_g rfl rfl (r_eqArr Try.underlying25 Try.underlying5 Try.sizeOf5 rfl rfl (by first | omega | (simp; done) | (simp; omega)) (by first | omega | (simp; done) | (simp; omega)) (by kernel_rfl)) rfl ?_
                                refine s_val rfl rfl (r_pick true rfl) rfl ?_
                                refine s_val rfl rfl (r_assign) rfl ?_
                                refine s_end ?_
                                refine go_ret ?_
                                refine ⟨_, .cons rfl (.nil), ?_⟩
                                exact ⟨congrArg Value.bool (decide_eq_true lw.e6), C_w176⟩
                              ·
                                refine s_valMg rfl rfl (r_loadN Try.isAgg25 Try.sizeOf25 rfl p22.rd (by first | exact bs_len (by omega) | exact bs_len (by simp; done) | exact bs_len (by simp; omega))) K_w174 ?_
                                refine s_fxMg rfl rfl (w_call Try.call24 rfl (rootM_spec (putS (delS (fillS ot 1000) (plcI ot (kk : Nat))) (plcI ot (kk : Nat)) (plcI ot 1)) _ _ _ (by rw [lw.len6]; omega) (by rw [lw.len6]; omega) lw.hv6 lw.nd6 hp.rd hm)) ?_
                                rintro _ w178 ⟨rfl, c_w178⟩
                                have hs_w178 : w174.heap.size ≤ w178.heap.size := Chg.size c_w178
                                replace p3 := p3.k c_w178
                                replace p22 := p22.k c_w178
                                replace hm := hm.k c_w178
                                replace hp := hp.k c_w178
                                have C_w178 := Chg.pure C_w174 c_w178
                                have hg_179 : (rootF (getS (putS (delS (fillS ot 1000) (plcI ot (kk : Nat))) (plcI ot (kk : Nat)) (plcI ot 1))) ((putS (delS (fillS ot 1000) (plcI ot (kk : Nat))) (plcI ot (kk : Nat)) (plcI ot 1)).map (·.1))).length = 32 := rootF_len _ _
                                have K_w178 := Chg.pure K_w174 c_w178
                                refine ⟨K_w178, ?_⟩
                                refine s_val_g rfl rfl (r_eqArr Try.underlying25 Try.underlying5 Try.sizeOf5 rfl rfl (by first | omega | (simp; done) | (simp; omega)) (by first | omega | (simp; done) | (simp; omega)) (by kernel_rfl)) rfl ?_
                                refine s_val rfl rfl (r_pick true rfl) rfl ?_
                                refine s_val rfl rfl (r_assign) rfl ?_
                                refine s_end ?_
                                refine go_ret ?_
                                refine ⟨_, .cons rfl (.nil), ?_⟩
                                exact ⟨congrArg Value.bool (decide_eq_true lw.e6), C_w178⟩
                            · first | replace h175 := of_decide_eq_false h175 | replace h175 := of_decide_eq_true (nf h175) | skip
                              exfalso
                              exact h175 rfl
                          · first | replace h169 := of_decide_eq_false h169 | replace h169 := of_decide_eq_true (nf h169) | skip
                            exfalso
                            exact h169 rfl
                        · first | replace h165 := of_decide_eq_false h165 | replace h165 := of_decide_eq_true (nf h165) | skip
                          exfalso
                          have := lw.len4
                          omega
              ·
                refine s_valMg rfl rfl (r_loadN Try.isAgg25 Try.sizeOf25 rfl p22.rd (by first | exact bs_len (by omega) | exact bs_len (by simp; done) | exact bs_len (by simp; omega))) K_w139 ?_
                refine s_fxMg rfl rfl (w_call Try.call24 rfl (rootM_spec (fillS ot 1000) _ _ _ (by rw [lw.len0]; omega) (by rw [lw.len0]; omega) lw.hv0 lw.nd0 hp.rd hm)) ?_
                rintro _ w180 ⟨rfl, c_w180⟩
                have hs_w180 : w139.heap.size ≤ w180.heap.size := Chg.size c_w180
                replace p3 := p3.k c_w180
                replace p22 := p22.k c_w180
                replace hm := hm.k c_w180
                replace hp := hp.k c_w180
                have C_w180 := Chg.pure C_w139 c_w180
                have hg_181 : (rootF (getS (fillS ot 1000)) ((fillS ot 1000).map (·.1))).length = 32 := rootF_len _ _
                have K_w180 := Chg.pure K_w139 c_w180
                refine ⟨K_w180, ?_⟩
                refine s_val_g rfl rfl (r_neqArr Try.underlying25 Try.underlying5 Try.sizeOf5 rfl rfl (by first | omega | (simp; done) | (simp; omega)) (by first | omega | (simp; done) | (simp; omega)) (by kernel_rfl)) rfl ?_
                refine s_val rfl rfl (r_pick false rfl) rfl ?_
                refine s_end ?_
                refine go_ifb _ rfl (fun h182 => ?_) (fun h182 => ?_)
                · first | replace h182 := of_decide_eq_true h182 | replace h182 := of_decide_eq_false (nt h182) | skip
                  exfalso
                  exact h182 rfl
                · first | replace h182 := of_decide_eq_false h182 | replace h182 := of_decide_eq_true (nf h182) | skip
                  refine go_skip ?_
                  refine go_seq ?_
                  refine go_seq ?_
                  refine go_region 25 rfl rfl ?_
                  refine s_val rfl rfl (r_move) rfl ?_
                  refine s_val rfl rfl (r_move) rfl ?_
                  refine s_val rfl rfl (r_move) rfl ?_
                  refine s_do rfl rfl (w_callV Try.call22 rfl rfl (place_spec (((kk : Nat) : Int)) ot _ _ p3.rd)) rfl ?_
                  rintro _ w183 ⟨rfl, c_w183⟩
                  have hs_w183 : w180.heap.size ≤ w183.heap.size := Chg.size c_w183
                  replace p3 := p3.k c_w183
                  replace p22 := p22.k c_w183
                  replace hm := hm.k c_w183
                  replace hp := hp.k c_w183
                  have C_w183 := Chg.pure C_w180 c_w183
                  have hg_184 := plcI_len ot (((kk : Nat) : Int))
                  refine s_do rfl rfl (w_call Try.call25 rfl (drop_spec (fillS ot 1000) (plcI ot (kk : Nat)) _ _ _ (plcI_len _ _) hp hm hpm lw.hv0 (by rw [lw.in0]; rfl))) rfl ?_
                  rintro _ w185 ⟨rfl, hpN, hmN, c_w185⟩
                  have hs_w185 : w183.heap.size ≤ w185.heap.size := Chg.size c_w185
                  replace p3 := p3.kB c_w185 (by omega)
                  replace p22 := p22.kB c_w185 (by omega)
                  have C_w185 := Chg.newB C_w183 c_w185 (by omega)
                  have hp := hpN
                  clear hpN
                  have hm := hmN
                  clear hmN
                  refine s_val rfl rfl (r_neq rfl rfl) rfl ?_
                  refine s_valB rfl rfl (r_move) rfl (fun h186 => ?_) (fun h186 => ?_)
                  · first | replace h186 := of_decide_eq_true h186 | replace h186 := of_decide_eq_false (nt h186) | skip
                    exfalso
                    exact h186 rfl
                  · first | replace h186 := of_decide_eq_false h186 | replace h186 := of_decide_eq_true (nf h186) | skip
                    refine s_val_g rfl rfl (r_move) rfl ?_
                    refine s_val_g rfl rfl (r_move) rfl ?_
                    refine s_do_g rfl rfl (w_callV Try.call22 rfl rfl (place_spec (1000) ot _ _ p3.rd)) rfl ?_
                    rintro _ w187 ⟨rfl, c_w187⟩
                    have hs_w187 : w185.heap.size ≤ w187.heap.size := Chg.size c_w187
                    replace p3 := p3.k c_w187
                    replace p22 := p22.k c_w187
                    replace hm := hm.k c_w187
                    replace hp := hp.k c_w187
                    have C_w187 := Chg.pure C_w185 c_w187
                    have hg_188 := plcI_len ot (1000)
                    refine s_val_g rfl rfl (r_move) rfl ?_
                    refine s_do_g rfl rfl (w_callV Try.call22 rfl rfl (place_spec (1) ot _ _ p3.rd)) rfl ?_
                    rintro _ w189 ⟨rfl, c_w189⟩
                    have hs_w189 : w187.heap.size ≤ w189.heap.size := Chg.size c_w189
                    replace p3 := p3.k c_w189
                    replace p22 := p22.k c_w189
                    replace hm := hm.k c_w189
                    replace hp := hp.k c_w189
                    have C_w189 := Chg.pure C_w187 c_w189
                    have hg_190 := plcI_len ot (1)
                    refine s_do_g rfl rfl (w_call Try.call23 rfl (setP_spec (delS (fillS ot 1000) (plcI ot (kk : Nat))) (plcI ot 1000) (plcI ot 1) _ _ _ (plcI_len _ _) (plcI_len _ _) plc_ne hp hm hpm lw.hv3 (by exact Or.inr (by rw [lw.len3]; omega)))) rfl ?_
                    rintro _ w191 ⟨rfl, hpN, hmN, c_w191⟩
                    have hs_w191 : w189.heap.size ≤ w191.heap.size := Chg.size c_w191
                    replace p3 := p3.kB c_w191 (by omega)
                    replace p22 := p22.kB c_w191 (by omega)
                    have C_w191 := Chg.newB C_w189 c_w191 (by omega)
                    have hp := hpN
                    clear hpN
                    have hm := hmN
                    clear hmN
                    refine s_val_g rfl rfl (r_neq rfl rfl) rfl ?_
                    refine s_val rfl rfl (r_pick false rfl) rfl ?_
                    refine s_valB rfl rfl (r_move) rfl (fun h192 => ?_) (fun h192 => ?_)
                    · first | replace h192 := of_decide_eq_true h192 | replace h192 := of_decide_eq_false (nt h192) | skip
                      exfalso
                      exact h192 rfl
                    · first | replace h192 := of_decide_eq_false h192 | replace h192 := of_decide_eq_true (nf h192) | skip
                      refine s_val_g rfl rfl (r_move) rfl ?_
                      refine s_val_g rfl rfl (r_move) rfl ?_
                      refine s_val_g rfl rfl (r_move) rfl ?_
                      refine s_do_g rfl rfl (w_callV Try.call22 rfl rfl (place_spec (((kk : Nat) : Int)) ot _ _ p3.rd)) rfl ?_
                      rintro _ w193 ⟨rfl, c_w193⟩
                      have hs_w193 : w191.heap.size ≤ w193.heap.size := Chg.size c_w193
                      replace p3 := p3.k c_w193
                      replace p22 := p22.k c_w193
                      replace hm := hm.k c_w193
                      replace hp := hp.k c_w193
                      have C_w193 := Chg.pure C_w191 c_w193
                      have hg_194 := plcI_len ot (((kk : Nat) : Int))
                      refine s_val_g rfl rfl (r_move) rfl ?_
                      refine s_do_g rfl rfl (w_callV Try.call22 rfl rfl (place_spec (1) ot _ _ p3.rd)) rfl ?_
                      rintro _ w195 ⟨rfl, c_w195⟩
                      have hs_w195 : w193.heap.size ≤ w195.heap.size := Chg.size c_w195
                      replace p3 := p3.k c_w195
                      replace p22 := p22.k c_w195
                      replace hm := hm.k c_w195
                      replace hp := hp.k c_w195
                      have C_w195 := Chg.pure C_w193 c_w195
                      have hg_196 := plcI_len ot (1)
                      refine s_do_g rfl rfl (w_call Try.call23 rfl (setF_spec (putS (delS (fillS ot 1000) (plcI ot (kk : Nat))) (plcI ot 1000) (plcI ot 1)) (plcI ot (kk : Nat)) (plcI ot 1) _ _ _ (plcI_len _ _) (plcI_len _ _) plc_ne hp hm lw.hv4 (by exact lw.nk4) (by rw [lw.len4]; omega))) rfl ?_
                      rintro _ w197 ⟨rfl, c_w197⟩
                      have hs_w197 : w195.heap.size ≤ w197.heap.size := Chg.size c_w197
                      replace p3 := p3.k c_w197
                      replace p22 := p22.k c_w197
                      replace hm := hm.k c_w197
                      replace hp := hp.k c_w197
                      have C_w197 := Chg.pure C_w195 c_w197
                      refine s_val_g rfl rfl (r_neq rfl rfl) rfl ?_
                      refine s_val rfl rfl (r_pick false rfl) rfl ?_
                      refine s_end ?_
                      refine go_ifb _ rfl (fun h198 => ?_) (fun h198 => ?_)
                      · first | replace h198 := of_decide_eq_true h198 | replace h198 := of_decide_eq_false (nt h198) | skip
                        exfalso
                        exact h198 rfl
                      · first | replace h198 := of_decide_eq_false h198 | replace h198 := of_decide_eq_true (nf h198) | skip
                        refine go_skip ?_
                        refine go_seq ?_
                        refine go_drawsM (M := (blk mb)) 25 (.take 0 (.eff 1 (.take 2 (.take 3 (.take 4 (.take 5 (.take 6 (.eff 7 (.eff 8 (.take 9 (.take 10 (.take 11 (.take 12 (.take 13 (.take 14 (.take 16 (.eff 15 (.eff 17 (.eff 18 (.take 19 (.take 20 (.take 21 (.take 22 (.alts (.eff 23 (.eff 24 (.eff 25 (.eff 26 (.eff 27 .done))))) (.eff 24 (.eff 23 (.eff 25 (.eff 26 (.eff 27 .done))))))))))))))))))))))))))))) (by kernel_rfl) (by kernel_rfl) fun w199 c_w199 => ?_
                        have hs_w199 : w197.heap.size ≤ w199.heap.size := Chg.size c_w199
                        replace p3 := p3.k c_w199
                        replace p22 := p22.k c_w199
                        replace hm := hm.k c_w199
                        replace hp := hp.k c_w199
                        have C_w199 := Chg.pure C_w197 c_w199
                        have p3_0 := p3
                        have p22_0 := p22
                        have hm_0 := hm
                        have hp_0 := hp
                        refine s_takeM (M := (blk mb)) rfl rfl (w0 := w199) (fun x_ c_ => r_move) ?_
                        refine s_fxM rfl rfl (w_call Try.call26 rfl (keys_spec (putS (delS (fillS ot 1000) (plcI ot (kk : Nat))) (plcI ot 1000) (plcI ot 1)) _ _ _ (by rw [lw.len4]; omega) (by rw [lw.len4]; omega) hp.rd hm)) ?_
                        rintro _ w200 ⟨bk201, ck202, rfl, hc_ck202, hl_bk201, hk203, c_w200⟩
                        have hs_w200 : w199.heap.size ≤ w200.heap.size := Chg.size c_w200
                        replace p3 := p3.k c_w200
                        replace p22 := p22.k c_w200
                        replace hm := hm.k c_w200
                        replace hp := hp.k c_w200
                        have C_w200 := Chg.pure C_w199 c_w200
                        have K_w200 := Chg.pure (Chg.refl (blk mb) w199) c_w200
                        refine ⟨K_w200, ?_⟩
                        refine s_takeM (M := (blk mb)) rfl rfl (w0 := w199) (fun x_ c_ => r_len Try.runUnderlying29 rfl) ?_
                        refine s_takeM (M := (blk mb)) rfl rfl (w0 := w199) (fun x_ c_ => r_eql rfl rfl) ?_
                        refine s_takeB rfl rfl (by intro x_ hx_; (try subst hx_); exact r_move) (fun h204 => ?_) (fun h204 => ?_)
                        · first | replace h204 := of_decide_eq_true h204 | replace h204 := of_decide_eq_false (nt h204) | skip
                          refine s_takeMg (M := (blk mb)) rfl rfl (w0 := w199) (fun x_ c_ => r_move) ?_
                          refine s_takeMg (M := (blk mb)) rfl rfl (w0 := w199) (fun x_ c_ => r_move) ?_
                          refine s_fxMg rfl rfl (w_callV Try.call22 rfl rfl (place_spec (1000) ot _ _ p3.rd)) ?_
                          rintro _ w205 ⟨rfl, c_w205⟩
                          have hs_w205 : w200.heap.size ≤ w205.heap.size := Chg.size c_w205
                          replace p3 := p3.k c_w205
                          replace p22 := p22.k c_w205
                          replace hm := hm.k c_w205
                          replace hp := hp.k c_w205
                          have C_w205 := Chg.pure C_w200 c_w205
                          have hg_206 := plcI_len ot (1000)
                          have K_w205 := Chg.pure K_w200 c_w205
                          refine ⟨K_w205, ?_⟩
                          refine s_fxMg rfl rfl (w_call Try.call25 rfl (drop_spec (putS (delS (fillS ot 1000) (plcI ot (kk : Nat))) (plcI ot 1000) (plcI ot 1)) (plcI ot 1000) _ _ _ (plcI_len _ _) hp hm hpm lw.hv4 (by rw [lw.in4]; rfl))) ?_
                          rintro _ w207 ⟨rfl, hpN, hmN, c_w207⟩
                          have hs_w207 : w205.heap.size ≤ w207.heap.size := Chg.size c_w207
                          replace p3 := p3.kB c_w207 (by omega)
                          replace p22 := p22.kB c_w207 (by omega)
                          have C_w207 := Chg.newB C_w205 c_w207 (by omega)
                          have hp := hpN
                          clear hpN
                          have hm := hmN
                          clear hmN
                          rw [lw.e5] at hm
                          have K_w207 := Chg.into K_w205 c_w207 (fun _ _ _ m => m)
                          refine ⟨K_w207, ?_⟩
                          refine s_takeMg (M := (blk mb)) rfl rfl (w0 := w199) (fun x_ c_ => r_eql rfl rfl) ?_
                          refine s_takeM (M := (blk mb)) rfl rfl (w0 := w199) (fun x_ c_ => r_pick true rfl) ?_
                          refine s_takeB rfl rfl (by intro x_ hx_; (try subst hx_); exact r_move) (fun h208 => ?_) (fun h208 => ?_)
                          · first | replace h208 := of_decide_eq_true h208 | replace h208 := of_decide_eq_false (nt h208) | skip
                            refine s_takeMg (M := (blk mb)) rfl rfl (w0 := w199) (fun x_ c_ => r_move) ?_
                            refine s_takeMg (M := (blk mb)) rfl rfl (w0 := w199) (fun x_ c_ => r_move) ?_
                            refine s_takeMg (M := (blk mb)) rfl rfl (w0 := w199) (fun x_ c_ => r_move) ?_
                            refine s_takeMg (M := (blk mb)) rfl rfl (w0 := w199) (fun x_ c_ => r_move) ?_
                            refine s_fxMg rfl rfl (w_callV Try.call22 rfl rfl (place_spec (((kk : Nat) : Int)) ot _ _ p3.rd)) ?_
                            rintro _ w209 ⟨rfl, c_w209⟩
                            have hs_w209 : w207.heap.size ≤ w209.heap.size := Chg.size c_w209
                            replace p3 := p3.k c_w209
                            replace p22 := p22.k c_w209
                            replace hm := hm.k c_w209
                            replace hp := hp.k c_w209
                            have C_w209 := Chg.pure C_w207 c_w209
                            have hg_210 := plcI_len ot (((kk : Nat) : Int))
                            have K_w209 := Chg.pure K_w207 c_w209
                            refine ⟨K_w209, ?_⟩
                            refine s_fxMg rfl rfl (w_callV Try.call22 rfl rfl (place_spec (1) ot _ _ p3.rd)) ?_
                            rintro _ w211 ⟨rfl, c_w211⟩
                            have hs_w211 : w209.heap.size ≤ w211.heap.size := Chg.size c_w211
                            replace p3 := p3.k c_w211
                            replace p22 := p22.k c_w211
                            replace hm := hm.k c_w211
                            replace hp := hp.k c_w211
                            have C_w211 := Chg.pure C_w209 c_w211
                            have hg_212 := plcI_len ot (1)
                            have K_w211 := Chg.pure K_w209 c_w211
                            refine ⟨K_w211, ?_⟩
                            refine s_fxMg rfl rfl (w_call Try.call23 rfl (setP_spec (delS (fillS ot 1000) (plcI ot (kk : Nat))) (plcI ot (kk : Nat)) (plcI ot 1) _ _ _ (plcI_len _ _) (plcI_len _ _) plc_ne hp hm hpm lw.hv3 (by exact Or.inr (by rw [lw.len3]; omega)))) ?_
                            rintro _ w213 ⟨rfl, hpN, hmN, c_w213⟩
                            have hs_w213 : w211.heap.size ≤ w213.heap.size := Chg.size c_w213
                            replace p3 := p3.kB c_w213 (by omega)
                            replace p22 := p22.kB c_w213 (by omega)
                            have C_w213 := Chg.newB C_w211 c_w213 (by omega)
                            have hp := hpN
                            clear hpN
                            have hm := hmN
                            clear hmN
                            have K_w213 := Chg.into K_w211 c_w213 (fun _ _ _ m => m)
                            refine ⟨K_w213, ?_⟩
                            refine s_takeMg (M := (blk mb)) rfl rfl (w0 := w199) (fun x_ c_ => r_eql rfl rfl) ?_
                            refine s_takeM (M := (blk mb)) rfl rfl (w0 := w199) (fun x_ c_ => r_pick true rfl) ?_
                            refine s_takeB rfl rfl (by intro x_ hx_; (try subst hx_); exact r_move) (fun h214 => ?_) (fun h214 => ?_)
                            · first | replace h214 := of_decide_eq_true h214 | replace h214 := of_decide_eq_false (nt h214) | skip
                              refine s_takeMg (M := (blk mb)) rfl rfl (w0 := w199) (fun x_ c_ => r_move) ?_
                              refine s_alts ?_ ?_
                              ·
                                refine s_fxMg rfl rfl (w_call Try.call24 rfl (rootM_spec (putS (delS (fillS ot 1000) (plcI ot (kk : Nat))) (plcI ot (kk : Nat)) (plcI ot 1)) _ _ _ (by rw [lw.len6]; omega) (by rw [lw.len6]; omega) lw.hv6 lw.nd6 hp.rd hm)) ?_
                                rintro _ w215 ⟨rfl, c_w215⟩
                                have hs_w215 : w213.heap.size ≤ w215.heap.size := Chg.size c_w215
                                replace p3 := p3.k c_w215
                                replace p22 := p22.k c_w215
                                replace hm := hm.k c_w215
                                replace hp := hp.k c_w215
                                have C_w215 := Chg.pure C_w213 c_w215
                                have hg_216 : (rootF (getS (putS (delS (fillS ot 1000) (plcI ot (kk : Nat))) (plcI ot (kk : Nat)) (plcI ot 1))) ((putS (delS (fillS ot 1000) (plcI ot (kk : Nat))) (plcI ot (kk : Nat)) (plcI ot 1)).map (·.1))).length = 32 := rootF_len _ _
                                have K_w215 := Chg.pure K_w213 c_w215
                                refine ⟨K_w215, ?_⟩
                                refine s_valMg rfl rfl (r_loadN Try.isAgg25 Try.sizeOf25 rfl p22.rd (by first | exact bs_len (by omega) | exact bs_len (by simp; done) | exact bs_len (by simp; omega))) K_w215 ?_
                                refine s_val_g rfl rfl (r_eqArr Try.underlying25 Try.underlying5 Try.sizeOf5 rfl rfl (by first | omega | (simp; done) | (simp; omega)) (by first | omega | (simp; done) | (simp; omega)) (by kernel_rfl)) rfl ?_
                                refine s_val rfl rfl (r_pick true rfl) rfl ?_
                                refine s_val rfl rfl (r_assign) rfl ?_
                                refine s_end ?_
                                refine go_ret ?_
                                refine ⟨_, .cons rfl (.nil), ?_⟩
                                exact ⟨congrArg Value.bool (decide_eq_true lw.e6), C_w215⟩
                              ·
                                refine s_valMg rfl rfl (r_loadN Try.isAgg25 Try.sizeOf25 rfl p22.rd (by first | exact bs_len (by omega) | exact bs_len (by simp; done) | exact bs_len (by simp; omega))) K_w213 ?_
                                refine s_fxMg rfl rfl (w_call Try.call24 rfl (rootM_spec (putS (delS (fillS ot 1000) (plcI ot (kk : Nat))) (plcI ot (kk : Nat)) (plcI ot 1)) _ _ _ (by rw [lw.len6]; omega) (by rw [lw.len6]; omega) lw.hv6 lw.nd6 hp.rd hm)) ?_
                                rintro _ w217 ⟨rfl, c_w217⟩
                                have hs_w217 : w213.heap.size ≤ w217.heap.size := Chg.size c_w217
                                replace p3 := p3.k c_w217
                                replace p22 := p22.k c_w217
                                replace hm := hm.k c_w217
                                replace hp := hp.k c_w217
                                have C_w217 := Chg.pure C_w213 c_w217
                                have hg_218 : (rootF (getS (putS (delS (fillS ot 1000) (plcI ot (kk : Nat))) (plcI ot (kk : Nat)) (plcI ot 1))) ((putS (delS (fillS ot 1000) (plcI ot (kk : Nat))) (plcI ot (kk : Nat)) (plcI ot 1)).map (·.1))).length = 32 := rootF_len _ _
                                have K_w217 := Chg.pure K_w213 c_w217
                                refine ⟨K_w217, ?_⟩
                                refine s_val_g rfl rfl (r_eqArr Try.underlying25 Try.underlying5 Try.sizeOf5 rfl rfl (by first | omega | (simp; done) | (simp; omega)) (by first | omega | (simp; done) | (simp; omega)) (by kernel_rfl)) rfl ?_
                                refine s_val rfl rfl (r_pick true rfl) rfl ?_
                                refine s_val rfl rfl (r_assign) rfl ?_
                                refine s_end ?_
                                refine go_ret ?_
                                refine ⟨_, .cons rfl (.nil), ?_⟩
                                exact ⟨congrArg Value.bool (decide_eq_true lw.e6), C_w217⟩
                            · first | replace h214 := of_decide_eq_false h214 | replace h214 := of_decide_eq_true (nf h214) | skip
                              exfalso
                              exact h214 rfl
                          · first | replace h208 := of_decide_eq_false h208 | replace h208 := of_decide_eq_true (nf h208) | skip
                            exfalso
                            exact h208 rfl
                        · first | replace h204 := of_decide_eq_false h204 | replace h204 := of_decide_eq_true (nf h204) | skip
                          exfalso
                          have := lw.len4
                          omega

end Go.Proofs.Ytdnccchcflaphaa
