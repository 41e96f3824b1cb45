/- YtippcmedgfmgbaaGreatP07: a calculus of walks, plain facts of the numbers that are shared, and contracts of functions of the program: called in any world that meets a contract's premises, a function returns what the contract says and changes no more than it says. -/
import Derived.Test.YtippcmedgfmgbaaGreatP02
import Derived.Test.YtippcmedgfmgbaaGreatP03
import Derived.Test.YtippcmedgfmgbaaGreatP05
import Derived.Test.YtippcmedgfmgbaaGreatP06
import Derived.Test.YtippcmedgfmgbaaGreatChecked
import Derived.WalkKit
import Derived.Deep.QuietTactic
import Derived.Laws.Externs
section
open Go Go.Eng Go.Proofs
namespace Go.Proofs.YtippcmedgfmgbaaGreat
set_option maxHeartbeats 4000000 in
set_option maxRecDepth 100000 in
theorem numbers_spec (k n : List UInt8) (many : Nat) (w : World) (hk : k.length = 32) (hn : n.length = 16) (hm : many ≤ 200) :
  Rtn Tryz.prog 58 [.agg (bs k).toArray, .agg (bs n).toArray, i64 (many : Nat)].toArray w (fun v w' => Owns w' w.heap.size 3 1 v many (fs (numsL (blkB k n) many)) ∧ Kept w w') := by
 have hinj : ∀ i j, i < 256 → j < 256 → blkB k n i = blkB k n j → i = j := fun i j hi hj h => blkB_inj hk hn hi hj h
 refine fn_body (l := [.agg (bs k).toArray, .agg (bs n).toArray, i64 (many : Nat)]) 62 [.tmp 6] Tryz.func58 rfl Tryz.ntmps58 (Nat.le_of_ble_eq_true rfl) (by rw [Tryz.results58]) ?_
 refine go_seq ?_
 refine go_region 3 rfl rfl ?_
 refine s_do rfl rfl (w_boxA rfl) rfl ?_
 rintro _ w1 ⟨b2, rfl, hl_b2, hu_b2, p3, c_w1⟩
 have hs_w1 : w.heap.size ≤ w1.heap.size := Chg.size c_w1
 have C_w1 := Chg.pure (Chg.refl no w) c_w1
 have hn_b2 : w.heap.size ≤ b2 := by have := Chg.size C_w1; omega
 refine s_do rfl rfl (w_boxA rfl) rfl ?_
 rintro _ w4 ⟨b5, rfl, hl_b5, hu_b5, p6, c_w4⟩
 have hs_w4 : w1.heap.size ≤ w4.heap.size := Chg.size c_w4
 replace p3 := p3.k c_w4
 have C_w4 := Chg.pure C_w1 c_w4
 have hn_b5 : w.heap.size ≤ b5 := by have := Chg.size C_w4; omega
 refine s_val rfl rfl (r_assign) rfl ?_
 refine s_end ?_
 refine go_seq ?_
 refine go_region 1 rfl rfl ?_
 refine s_val rfl rfl (r_assign) rfl ?_
 refine s_end ?_
 refine go_seq ?_
 refine go_seq ?_
 refine go_region 1 rfl rfl ?_
 refine s_val rfl rfl (r_assign) rfl ?_
 refine s_end ?_
 refine go_block ?_
 refine go_loopM (σ := Nat × Option Addr × Nat × Nat) [(6, 60)] (fun (x_ : Nat × Option Addr × Nat × Nat) e' w' => match x_ with | (kk, a1, n1, c1) => e' 8 = i64 ((64 * kk : Nat) : Int) ∧ e' 7 = Value.slice a1 n1 c1 ∧ kk ≤ many + 1 ∧ n1 = ((numsTo (blkB k n) kk).take many).length ∧ n1 ≤ c1 ∧ w4.heap.size ≤ w'.heap.size ∧ Owns w' w4.heap.size 3 1 (Value.slice a1 n1 c1) n1 (fs ((numsTo (blkB k n) kk).take many)) ∧ Pc w' b2 0 (bs k) ∧ b2 < w'.heap.size ∧ Pc w' b5 0 (bs n) ∧ b5 < w'.heap.size ∧ Chg no w w') (fun (x_ : Nat × Option Addr × Nat × Nat) => match x_ with | (kk, a1, n1, c1) => many + 1 - kk) (0, none, 0, 0) ?_ ?_
 ·exact ⟨rfl, rfl, by omega, by simp [numsTo], by omega, by omega, by simpa [numsTo, fs] using Owns.nil _ _ _ _, p3, by omega, p6, by omega, C_w4⟩
 rintro ⟨kk, a1, n1, c1⟩ f8 w7 ⟨e9, e10, hkk, hn1, hc1, hB_ho7, ho7, p3, hu_b2, p6, hu_b5, C_w7⟩
 have ob_12 : ∃ g_, f8 = upd g_ 8 (i64 ((64 * kk : Nat) : Int)) := ⟨f8, upd_id e9⟩
 obtain ⟨f11, rfl⟩ := ob_12
 have ob_14 : ∃ g_, f11 = upd g_ 7 (Value.slice a1 n1 c1) := ⟨f11, upd_id e10⟩
 obtain ⟨f13, rfl⟩ := ob_14
 clear e9 e10
 have hs_w7 : w.heap.size ≤ w7.heap.size := Chg.size C_w7
 refine go_seq ?_
 refine go_seq ?_
 refine go_region 4 rfl rfl ?_
 refine s_val rfl rfl (r_move) rfl ?_
 refine s_val rfl rfl (r_len Tryz.runUnderlying63 rfl) rfl ?_
 refine s_val rfl rfl (r_move) rfl ?_
 refine s_val rfl rfl (r_lss rfl rfl) rfl ?_
 refine s_end ?_
 refine go_ifb _ rfl (fun h1 => ?_) (fun h1 => ?_)
 ·first | replace h1 := dcT h1 | replace h1 := dcF (nt h1) | skip
  have hkm := nums_lt (B := (blkB k n)) (fun q => blkB_length k n q) hinj hm hkk hn1 (by omega)
  refine go_skip ?_
  refine go_seq ?_
  refine go_block ?_
  refine go_seq ?_
  refine go_region 9 rfl rfl ?_
  refine s_val rfl rfl (r_loadN Tryz.isAgg23 Tryz.sizeOf23 rfl p3.rd (bs_len (by first | omega | (simp; try omega)))) rfl ?_
  refine s_val rfl rfl (r_loadN Tryz.isAgg89 Tryz.sizeOf89 rfl p6.rd (bs_len (by first | omega | (simp; try omega)))) rfl ?_
  refine s_val rfl rfl (r_move) rfl ?_
  have hH7_ := fun (b_ : Nat) (hb_ : some b_ = (Value.slice a1 n1 c1).ownBlock) => own_lt2 ho7 hb_
  refine s_do rfl rfl (w_call Tryz.call83 rfl (stream_spec k n _ kk _ hk hn (by omega) (by omega))) rfl ?_
  rintro _ w15 ⟨aB, cB, rfl, hcB, oB, c_w15⟩
  have hs_w15 : w7.heap.size ≤ w15.heap.size := Chg.size c_w15
  replace ho7 := ho7.k c_w15
  replace p3 := p3.k c_w15
  replace p6 := p6.k c_w15
  have C_w15 := Chg.pure C_w7 c_w15
  have hB := Owns.sl oB
  have hloB := Owns.lo oB
  clear oB
  have hbl := blkB_length k n kk
  have hos0 := OS.start ho7 hB (by intro h_; rw [h_] at hbl; cases hbl) hH7_ hloB
  clear hB hloB
  refine s_val rfl rfl (r_move) rfl ?_
  refine s_val rfl rfl (r_extract rfl rfl) rfl ?_
  refine s_val rfl rfl (r_extract rfl rfl) rfl ?_
  refine s_val rfl rfl (r_assign) rfl ?_
  refine s_val rfl rfl (r_assign) rfl ?_
  refine s_end ?_
  refine go_seq ?_
  refine go_seq ?_
  refine go_region 2 rfl rfl ?_
  refine s_val rfl rfl (r_move) rfl ?_
  refine s_val rfl rfl (r_neq rfl rfl) rfl ?_
  refine s_end ?_
  refine go_ifb _ rfl (fun h16 => ?_) (fun h16 => ?_)
  ·first | replace h16 := dcT h16 | replace h16 := dcF (nt h16) | skip
   exfalso
   omega
  ·first | replace h16 := dcF h16 | replace h16 := dcT (nf h16) | skip
   refine go_skip ?_
   refine go_seq ?_
   refine go_region 1 rfl rfl ?_
   refine s_val rfl rfl (r_assign) rfl ?_
   refine s_end ?_
   refine go_meet [(7, 7), (11, 12), (29, 60)] (fun e' w' => ∃ (a3 : Option Addr) (n3 : Nat) (c3 : Nat), e' 7 = Value.slice a3 n3 c3 ∧ n3 = ((numsTo (blkB k n) (kk + 1)).take many).length ∧ n3 ≤ c3 ∧ w4.heap.size ≤ w'.heap.size ∧ Owns w' w4.heap.size 3 1 (Value.slice a3 n3 c3) n3 (fs ((numsTo (blkB k n) (kk + 1)).take many)) ∧ Pc w' b2 0 (bs k) ∧ b2 < w'.heap.size ∧ Pc w' b5 0 (bs n) ∧ b5 < w'.heap.size ∧ Chg no w w') ?_ ?_
   ·
    refine go_block ?_
    refine go_loopM (σ := Nat × Option Addr × Nat × Nat) [(7, 7), (11, 12), (29, 60)] (fun (x_ : Nat × Option Addr × Nat × Nat) e' w' => match x_ with | (j, a2, n2, c2) => e' 11 = i64 ((2 * j : Nat) : Int) ∧ e' 7 = Value.slice a2 n2 c2 ∧ j ≤ 32 ∧ n2 = ((numsTo (blkB k n) kk ++ pairsTo (blkB k n kk) j).take many).length ∧ n2 ≤ c2 ∧ OS w' w4.heap.size (Value.slice a2 n2 c2) n2 ((numsTo (blkB k n) kk ++ pairsTo (blkB k n kk) j).take many) aB (blkB k n kk) ∧ w4.heap.size ≤ w'.heap.size ∧ Pc w' b2 0 (bs k) ∧ b2 < w'.heap.size ∧ Pc w' b5 0 (bs n) ∧ b5 < w'.heap.size ∧ Chg no w w') (fun (x_ : Nat × Option Addr × Nat × Nat) => match x_ with | (j, a2, n2, c2) => 32 - j) (0, a1, n1, c1) ?_ ?_
    ·exact ⟨rfl, rfl, by omega, by simpa [pairsTo] using hn1, by omega, by simpa [pairsTo] using hos0, by omega, p3, by omega, p6, by omega, C_w15⟩
    rintro ⟨j, a2, n2, c2⟩ f20 w19 ⟨e21, e22, hj, hn2, hc2, hos, hcw2, p3, hu_b2, p6, hu_b5, C_w19⟩
    have ob_24 : ∃ g_, f20 = upd g_ 11 (i64 ((2 * j : Nat) : Int)) := ⟨f20, upd_id e21⟩
    obtain ⟨f23, rfl⟩ := ob_24
    have ob_26 : ∃ g_, f23 = upd g_ 7 (Value.slice a2 n2 c2) := ⟨f23, upd_id e22⟩
    obtain ⟨f25, rfl⟩ := ob_26
    clear e21 e22
    have hs_w19 : w.heap.size ≤ w19.heap.size := Chg.size C_w19
    refine go_seq ?_
    refine go_seq ?_
    refine go_region 10 rfl rfl ?_
    refine s_val rfl rfl (r_move) rfl ?_
    refine s_val rfl rfl (r_move) rfl ?_
    refine s_val rfl rfl (r_len Tryz.runUnderlying55 rfl) rfl ?_
    refine s_val rfl rfl (r_lss rfl rfl) rfl ?_
    refine s_valB rfl rfl (r_move) rfl (fun h27 => ?_) (fun h27 => ?_)
    ·first | replace h27 := dcT h27 | replace h27 := dcF (nt h27) | skip
     have hj64 := h27
     refine s_val_g rfl rfl (r_move) rfl ?_
     refine s_val_g rfl rfl (r_len Tryz.runUnderlying63 rfl) rfl ?_
     refine s_val_g rfl rfl (r_move) rfl ?_
     refine s_val_g rfl rfl (r_lss rfl rfl) rfl ?_
     refine s_val rfl rfl (r_pick true rfl) rfl ?_
     refine s_end ?_
     refine go_ifb _ rfl (fun h4 => ?_) (fun h4 => ?_)
     ·first | replace h4 := dcT h4 | replace h4 := dcF (nt h4) | skip
      refine go_skip ?_
      refine go_seq ?_
      refine go_block ?_
      refine go_seq ?_
      refine go_drawsE 12 (.take 0 (.take 1 (.take 2 (.take 3 (.take 4 (.take 5 (.take 6 (.take 7 (.take 8 (.take 9 (.take 10 (.take 11 (.eff 12 (.eff 13 .done)))))))))))))) (by kernel_rfl) (by kernel_rfl) fun w28 c_w28 => ?_
      have hs_w28 : w19.heap.size ≤ w28.heap.size := Chg.size c_w28
      replace hos := hos.k c_w28
      replace p3 := p3.k c_w28
      replace p6 := p6.k c_w28
      have C_w28 := Chg.pure C_w19 c_w28
      refine s_takeE rfl rfl (r_move) ?_
      refine s_takeE rfl rfl (r_move) ?_
      refine s_takeE rfl rfl (r_indexSl (k := (2 * j)) Tryz.runUnderlying55 Tryz.sizeOf5 rfl hos.s (bs_ne (by omega)) rfl (by first | rfl | omega) (by omega)) ?_
      refine s_takeE rfl rfl (r_loadSl1 Tryz.isAgg5 rfl hos.s (bs_get (by first | omega | (simp; try omega)))) ?_
      have hx1_ := ((blkB k n kk).getD (2 * j) 0).toNat_lt
      have hy1_ := ((blkB k n kk).getD (2 * j + 1) 0).toNat_lt
      have hpv_ : 256 * ((blkB k n kk).getD (2 * j) 0).toNat + ((blkB k n kk).getD (2 * j + 1) 0).toNat = (pairV (blkB k n kk) j) := rfl
      refine s_takeE rfl rfl (r_conv_i64 Tryz.runUnderlying5 Tryz.runUnderlying3 rfl (u8_rng _)) ?_
      refine s_takeE rfl rfl (r_muli rfl rfl (by omega)) ?_
      refine s_takeE rfl rfl (r_move) ?_
      refine s_takeE rfl rfl (r_move) ?_
      refine s_takeE rfl rfl (r_addi rfl rfl (by omega)) ?_
      refine s_takeE rfl rfl (r_indexSl (k := ((2 * j) + 1)) Tryz.runUnderlying55 Tryz.sizeOf5 rfl hos.s (bs_ne (by omega)) rfl (by first | rfl | omega) (by omega)) ?_
      refine s_takeE rfl rfl (r_loadSl1 Tryz.isAgg5 rfl hos.s (bs_get (by first | omega | (simp; try omega)))) ?_
      refine s_takeE rfl rfl (r_conv_i64 Tryz.runUnderlying5 Tryz.runUnderlying3 rfl (u8_rng _)) ?_
      refine s_val rfl rfl (r_addN (m := (pairV (blkB k n kk) j)) rfl rfl (by omega) (by omega)) rfl ?_
      refine s_val rfl rfl (r_assign) rfl ?_
      refine s_end ?_
      refine go_seq ?_
      refine go_region 2 rfl rfl ?_
      refine s_val rfl rfl (r_move) rfl ?_
      refine s_val rfl rfl (r_lss rfl rfl) rfl ?_
      refine s_end ?_
      refine go_ifb _ rfl (fun h5 => ?_) (fun h5 => ?_)
      ·first | replace h5 := dcT h5 | replace h5 := dcF (nt h5) | skip
       refine go_region 6 rfl rfl ?_
       refine s_val rfl rfl (r_move) rfl ?_
       refine s_val rfl rfl (r_move) rfl ?_
       refine s_val rfl rfl (r_remF (z := (fI (((pairV (blkB k n kk) j) : Nat) : Int))) rfl rfl (by omega) rfl) rfl ?_
       refine s_do rfl rfl (w_build1 (v := (i64 ((((fI (((pairV (blkB k n kk) j) : Nat) : Int)).val : Nat) : Int)))) (E := 3) Tryz.underlying63 (i := Tryz.t3) (by kernel_rfl) rfl rfl rfl rfl rfl) rfl ?_
       rintro _ w29 ⟨b30, rfl, hl_b30, hu_b30, o32, p31, c_w29⟩
       have ne_b30_hos := Owns.ne_ge hos.o1 hl_b30
       have hs_w29 : w28.heap.size ≤ w29.heap.size := Chg.size c_w29
       replace hos := hos.k c_w29
       replace p3 := p3.k c_w29
       replace p6 := p6.k c_w29
       have C_w29 := Chg.pure C_w28 c_w29
       have hn_b30 : w.heap.size ≤ b30 := by have := Chg.size C_w29; omega
       replace p31 : Pc w29 b30 0 (fs [(fI (((pairV (blkB k n kk) j) : Nat) : Int))]) := p31
       refine s_do rfl rfl (w_appendAt (E := 3) (sz := 1) Tryz.underlying63 rfl (i := Tryz.t3) (by kernel_rfl) rfl rfl rfl rfl rfl hos.o1 rfl (SlAt.some p31.rd) (by rw [fs_length]; rfl) (flat_fs _) (by omega) (by omega) (by show _ * 8 ≤ _; omega) (by omega)) rfl ?_
       rintro v35 w33 ⟨o34, hq36, c_w33⟩
       have hs_w33 : w29.heap.size ≤ w33.heap.size := Chg.size c_w33
       replace p3 := p3.kob c_w33 (Owns.ne_lt hos.o1 (by omega))
       replace p6 := p6.kob c_w33 (Owns.ne_lt hos.o1 (by omega))
       replace p31 := p31.kob c_w33 ne_b30_hos
       have C_w33 := Chg.newOb C_w29 c_w33 hos.o1 (by omega)
       replace hos := hos.add o34 hq36 c_w33
       clear hq36
       have hfo_ := Owns.form2 hos.o1
       obtain ⟨A37, cap38, e_, hc_cap38⟩ := hfo_
       subst e_
       refine s_val rfl rfl (r_assign) rfl ?_
       refine s_end ?_
       refine go_nil (block_normal ?_)
       refine go_region 3 rfl rfl ?_
       refine s_val rfl rfl (r_move) rfl ?_
       refine s_val rfl rfl (r_addi rfl rfl (by omega)) rfl ?_
       refine s_val rfl rfl (r_assign) rfl ?_
       refine s_end ?_
       refine go_nil (loop_normal ⟨⟨(j + 1, A37, n2 + 1, cap38), by first | omega | (dsimp only; omega), ⟨congrArg i64 (by omega), rfl, by omega, by rw [nums_t (B := (blkB k n)) hn2 (by omega) (by omega), List.length_append, ← hn2]; rfl, by omega, by rw [nums_t (B := (blkB k n)) hn2 (by omega) (by omega)]; exact hos, by omega, p3, by omega, p6, by omega, C_w33⟩⟩, (by repeat (first | exact same_refl | exact same_over | refine same_upd rfl ?_ | refine same_over2 rfl ?_))⟩)
      ·first | replace h5 := dcF h5 | replace h5 := dcT (nf h5) | skip
       refine go_skip ?_
       refine go_nil (block_normal ?_)
       refine go_region 3 rfl rfl ?_
       refine s_val rfl rfl (r_move) rfl ?_
       refine s_val rfl rfl (r_addi rfl rfl (by omega)) rfl ?_
       refine s_val rfl rfl (r_assign) rfl ?_
       refine s_end ?_
       refine go_nil (loop_normal ⟨⟨(j + 1, a2, n2, c2), by first | omega | (dsimp only; omega), ⟨congrArg i64 (by omega), rfl, by omega, by rw [nums_f (B := (blkB k n)) (by omega)]; exact hn2, by omega, by rw [nums_f (B := (blkB k n)) (by omega)]; exact hos, by omega, p3, by omega, p6, by omega, C_w28⟩⟩, (by repeat (first | exact same_refl | exact same_over | refine same_upd rfl ?_ | refine same_over2 rfl ?_))⟩)
     ·first | replace h4 := dcF h4 | replace h4 := dcT (nf h4) | skip
      refine go_exit (loop_exit (block_hit ?_))
      refine go_nil (loop_normal ⟨?_, (by repeat (first | exact same_refl | exact same_over | refine same_upd rfl ?_ | refine same_over2 rfl ?_))⟩)
      have hcu_ := nums_cut (B := (blkB k n)) hn2 (by omega) (by omega)
      exact ⟨a2, n2, c2, rfl, by rw [hcu_]; exact hn2, by omega, by omega, by rw [hcu_]; exact hos.o1, p3, by omega, p6, by omega, C_w19⟩
    ·first | replace h27 := dcF h27 | replace h27 := dcT (nf h27) | skip
     have hj64 := h27
     refine s_val_not rfl rfl ?_
     refine s_val_not rfl rfl ?_
     refine s_val_not rfl rfl ?_
     refine s_val_not rfl rfl ?_
     refine s_val rfl rfl (r_pick false rfl) rfl ?_
     refine s_end ?_
     refine go_false rfl ?_
     refine go_exit (loop_exit (block_hit ?_))
     refine go_nil (loop_normal ⟨?_, (by repeat (first | exact same_refl | exact same_over | refine same_upd rfl ?_ | refine same_over2 rfl ?_))⟩)
     have hj32 : j = 32 := by omega
     rw [hj32] at hn2 hos
     exact ⟨a2, n2, c2, rfl, hn2, by omega, by omega, hos.o1, p3, by omega, p6, by omega, C_w19⟩
   rintro f18 w17 ⟨a3, n3, c3, e39, hn3, hc3, hB_ho7, ho7, p3, hu_b2, p6, hu_b5, C_w17⟩
   have ob_41 : ∃ g_, f18 = upd g_ 7 (Value.slice a3 n3 c3) := ⟨f18, upd_id e39⟩
   obtain ⟨f40, rfl⟩ := ob_41
   clear e39
   have hs_w17 : w.heap.size ≤ w17.heap.size := Chg.size C_w17
   refine go_nil (block_normal ?_)
   refine go_region 3 rfl rfl ?_
   refine s_val rfl rfl (r_move) rfl ?_
   refine s_val rfl rfl (r_addi rfl rfl (by omega)) rfl ?_
   refine s_val rfl rfl (r_assign) rfl ?_
   refine s_end ?_
   refine go_nil (loop_normal ⟨⟨(kk + 1, a3, n3, c3), by first | omega | (dsimp only; omega), ⟨congrArg i64 (by omega), rfl, by omega, hn3, by omega, by omega, ho7, p3, by omega, p6, by omega, C_w17⟩⟩, (by repeat (first | exact same_refl | exact same_over | refine same_upd rfl ?_ | refine same_over2 rfl ?_))⟩)
 ·first | replace h1 := dcF h1 | replace h1 := dcT (nf h1) | skip
  have hnm : n1 = many := by rw [hn1, List.length_take]; rw [List.length_take] at hn1; omega
  have hdn := nums_done (B := (blkB k n)) (k := kk) (many := many) (by rw [List.length_take] at hn1; omega) hkk
  refine go_exit (loop_exit (block_hit ?_))
  refine go_seq ?_
  refine go_region 2 rfl rfl ?_
  refine s_val rfl rfl (r_move) rfl ?_
  refine s_val rfl rfl (r_assign) rfl ?_
  refine s_end ?_
  refine go_ret ?_
  refine ⟨_, .cons rfl (.nil), ?_⟩
  have h_ := ho7
  rw [hdn] at h_
  rw [hnm] at h_
  exact ⟨by have e_ := congrArg (fun m_ => Value.slice a1 m_ c1) hnm; exact (show Owns _ _ _ _ (Value.slice a1 n1 c1) _ _ from e_ ▸ Owns.mono h_ (by omega)), C_w7⟩
end Go.Proofs.YtippcmedgfmgbaaGreat
end
section
open Go Go.Eng Go.Proofs
namespace Go.Proofs.YtippcmedgfmgbaaGreat
theorem blkR_eq (k n : List UInt8) (q : Nat) : stir (putAt (putAt (putAt (List.replicate 64 0) 0 (k.take (64 - 0))) 32 (n.take (64 - 32))) 56 ((longTo q 8).take (64 - 56))) = blkB k n q := by
  rw [blkB, seedB, long_eq, stir_eq]
theorem outR_two {k n O : List UInt8} {q s : Nat} (hO : O = []) (hs : s = 0) : O ++ blkB k n (q + s) = blkB k n q := by
  subst hO
  subst hs
  rw [List.nil_append, Nat.add_zero]
set_option maxHeartbeats 4000000 in
set_option maxRecDepth 100000 in
theorem streamR_spec (k n : List UInt8) (at_ q : Nat) (w : World) (hk : k.length = 32) (hn : n.length = 16) (hat : at_ = 64 * q) (hq : q ≤ 1000) :
  Rtn Tryz.prog 76 [.agg (bs k).toArray, .agg (bs n).toArray, i64 (at_ : Nat), i64 64].toArray w (fun v w' => ∃ a c, v = .slice a 64 c ∧ 64 ≤ c ∧ Owns w' w.heap.size 5 1 (.slice a 64 c) 64 (bs (blkB k n q)) ∧ Kept w w') := by
 refine fn_body (l := [.agg (bs k).toArray, .agg (bs n).toArray, i64 (at_ : Nat), i64 64]) 57 [.tmp 8] Tryz.func76 rfl Tryz.ntmps76 (Nat.le_of_ble_eq_true rfl) (by rw [Tryz.results76]) ?_
 refine go_seq ?_
 refine go_region 3 rfl rfl ?_
 refine s_do rfl rfl (w_boxA rfl) rfl ?_
 rintro _ w1 ⟨b2, rfl, hl_b2, hu_b2, p3, c_w1⟩
 have hs_w1 : w.heap.size ≤ w1.heap.size := Chg.size c_w1
 have C_w1 := Chg.pure (Chg.refl no w) c_w1
 have hn_b2 : w.heap.size ≤ b2 := by have := Chg.size C_w1; omega
 refine s_do rfl rfl (w_boxA rfl) rfl ?_
 rintro _ w4 ⟨b5, rfl, hl_b5, hu_b5, p6, c_w4⟩
 have hs_w4 : w1.heap.size ≤ w4.heap.size := Chg.size c_w4
 replace p3 := p3.k c_w4
 have C_w4 := Chg.pure C_w1 c_w4
 have hn_b5 : w.heap.size ≤ b5 := by have := Chg.size C_w4; omega
 refine s_val rfl rfl (r_assign) rfl ?_
 refine s_end ?_
 refine go_seq ?_
 refine go_region 1 rfl rfl ?_
 refine s_val rfl rfl (r_assign) rfl ?_
 refine s_end ?_
 refine go_seq ?_
 refine go_seq ?_
 refine go_region 2 rfl rfl ?_
 refine s_val rfl rfl (r_move) rfl ?_
 refine s_val rfl rfl (r_assign) rfl ?_
 refine s_end ?_
 refine go_block ?_
 refine go_loopM (σ := Nat × List UInt8 × Option Addr × Nat × Nat) [(9, 12), (14, 55)] (fun (x_ : Nat × List UInt8 × Option Addr × Nat × Nat) e' w' => match x_ with | (s, O, a1, n1, c1) => e' 10 = i64 (((at_ + 64 * s) : Nat) : Int) ∧ e' 9 = Value.slice a1 n1 c1 ∧ s ≤ 1 ∧ n1 = 64 * s ∧ (s = 0 → O = []) ∧ (s = 1 → O = blkB k n q) ∧ w4.heap.size ≤ w'.heap.size ∧ Owns w' w4.heap.size 5 1 (Value.slice a1 n1 c1) n1 (bs O) ∧ n1 ≤ c1 ∧ Pc w' b2 0 (bs k) ∧ b2 < w'.heap.size ∧ Pc w' b5 0 (bs n) ∧ b5 < w'.heap.size ∧ Chg no w w') (fun (x_ : Nat × List UInt8 × Option Addr × Nat × Nat) => match x_ with | (s, O, a1, n1, c1) => 1 - s) (0, [], none, 0, 0) ?_ ?_
 ·exact ⟨congrArg i64 (by omega), rfl, by omega, rfl, fun _ => rfl, fun h_ => by omega, by omega, Owns.nil _ _ _ _, by omega, p3, by omega, p6, by omega, C_w4⟩
 rintro ⟨s, O, a1, n1, c1⟩ f8 w7 ⟨e9, e10, hs1, hn1, hO0, hO1, hB_ho9, ho9, hc1, p3, hu_b2, p6, hu_b5, C_w7⟩
 have ob_12 : ∃ g_, f8 = upd g_ 10 (i64 (((at_ + 64 * s) : Nat) : Int)) := ⟨f8, upd_id e9⟩
 obtain ⟨f11, rfl⟩ := ob_12
 have ob_14 : ∃ g_, f11 = upd g_ 9 (Value.slice a1 n1 c1) := ⟨f11, upd_id e10⟩
 obtain ⟨f13, rfl⟩ := ob_14
 clear e9 e10
 have hs_w7 : w.heap.size ≤ w7.heap.size := Chg.size C_w7
 refine go_seq ?_
 refine go_seq ?_
 refine go_region 5 rfl rfl ?_
 refine s_val rfl rfl (r_move) rfl ?_
 refine s_val rfl rfl (r_move) rfl ?_
 refine s_val rfl rfl (r_move) rfl ?_
 refine s_val rfl rfl (r_addi rfl rfl (by omega)) rfl ?_
 refine s_val rfl rfl (r_lss rfl rfl) rfl ?_
 refine s_end ?_
 refine go_ifb _ rfl (fun h1 => ?_) (fun h1 => ?_)
 ·first | replace h1 := dcT h1 | replace h1 := dcF (nt h1) | skip
  have hs0 : s = 0 := by omega
  have e1_ : (putAt (List.replicate 64 (0 : UInt8)) 0 (k.take (64 - 0))).length = 64 := by rw [putAt_length _ _ _ (by simp; omega)]; simp
  have e2_ : (putAt (putAt (List.replicate 64 (0 : UInt8)) 0 (k.take (64 - 0))) 32 (n.take (64 - 32))).length = 64 := by rw [putAt_length _ _ _ (by rw [e1_]; simp; omega), e1_]
  have hl4_ : (putAt (putAt (putAt (List.replicate 64 (0 : UInt8)) 0 (k.take (64 - 0))) 32 (n.take (64 - 32))) 56 ((longTo (q + s) 8).take (64 - 56))).length = 64 := by rw [putAt_length _ _ _ (by rw [e2_]; simp), e2_]
  refine go_skip ?_
  refine go_seq ?_
  refine go_block ?_
  refine go_seq ?_
  refine go_region 1 rfl rfl ?_
  refine s_do rfl rfl (w_alloc (bs (List.replicate 64 0)) Tryz.zeroValue86 (by kernel_rfl)) rfl ?_
  rintro _ w15 ⟨b16, rfl, hl_b16, hu_b16, p17, c_w15⟩
  have ne_b16_ho9 := Owns.ne_ge ho9 hl_b16
  have hs_w15 : w7.heap.size ≤ w15.heap.size := Chg.size c_w15
  replace ho9 := ho9.k c_w15
  replace p3 := p3.k c_w15
  replace p6 := p6.k c_w15
  have C_w15 := Chg.pure C_w7 c_w15
  have hn_b16 : w.heap.size ≤ b16 := by have := Chg.size C_w15; omega
  refine s_end ?_
  refine go_seq ?_
  refine go_drawsE 2 (.take 0 (.take 1 (.eff 2 .done))) (by kernel_rfl) (by kernel_rfl) fun w18 c_w18 => ?_
  have hs_w18 : w15.heap.size ≤ w18.heap.size := Chg.size c_w18
  replace ho9 := ho9.k c_w18
  replace p3 := p3.k c_w18
  replace p6 := p6.k c_w18
  replace p17 := p17.k c_w18
  have C_w18 := Chg.pure C_w15 c_w18
  refine s_takeE rfl rfl (r_sliceA (l := 0) (h := 64) (m := 64) Tryz.runUnderlying86 Tryz.sizeOf5 rfl rfl rfl rfl (by first | decide | (intro h_; cases h_)) (by first | decide | omega) (by first | decide | omega | (intro _; omega)) (by first | decide | omega) (by first | decide | omega)) ?_
  refine s_takeE rfl rfl (r_sliceA (l := 0) (h := 32) (m := 32) Tryz.runUnderlying23 Tryz.sizeOf5 rfl rfl rfl rfl (by first | decide | (intro h_; cases h_)) (by first | decide | omega) (by first | decide | omega | (intro _; omega)) (by first | decide | omega) (by first | decide | omega)) ?_
  refine s_do rfl rfl (w_copy_b (o := 0) (lo := 0) Tryz.underlying55 (by kernel_rfl) rfl rfl p17 (by first | omega | (simp; try omega)) (SlAt.some p3.rd) (by first | rfl | omega | (simp; done) | (simp; omega))) rfl ?_
  rintro _ w19 ⟨rfl, q_w19, c_w19⟩
  have hs_w19 : w18.heap.size ≤ w19.heap.size := Chg.size c_w19
  replace ho9 := ho9.kb c_w19 ne_b16_ho9
  replace p3 := p3.kb c_w19 (by omega)
  replace p6 := p6.kb c_w19 (by omega)
  have C_w19 := Chg.newRng C_w18 c_w19 (by omega)
  have p17 := q_w19
  refine s_end ?_
  refine go_seq ?_
  refine go_drawsE 2 (.take 0 (.take 1 (.eff 2 .done))) (by kernel_rfl) (by kernel_rfl) fun w20 c_w20 => ?_
  have hs_w20 : w19.heap.size ≤ w20.heap.size := Chg.size c_w20
  replace ho9 := ho9.k c_w20
  replace p3 := p3.k c_w20
  replace p6 := p6.k c_w20
  replace p17 := p17.k c_w20
  have C_w20 := Chg.pure C_w19 c_w20
  refine s_takeE rfl rfl (r_sliceA (l := 32) (h := 64) (m := 64) Tryz.runUnderlying86 Tryz.sizeOf5 rfl ⟨_, _, rfl, by first | rfl | omega⟩ rfl rfl (by first | decide | (intro h_; cases h_)) (by first | decide | omega) (by first | decide | omega | (intro _; omega)) (by first | decide | omega) (by first | decide | omega)) ?_
  refine s_takeE rfl rfl (r_sliceA (l := 0) (h := 16) (m := 16) Tryz.runUnderlying89 Tryz.sizeOf5 rfl rfl rfl rfl (by first | decide | (intro h_; cases h_)) (by first | decide | omega) (by first | decide | omega | (intro _; omega)) (by first | decide | omega) (by first | decide | omega)) ?_
  refine s_do rfl rfl (w_copy_b (o := 0) (lo := 32) Tryz.underlying55 (by kernel_rfl) rfl rfl p17 (by first | omega | (simp; try omega)) (SlAt.some p6.rd) (by first | rfl | omega | (simp; done) | (simp; omega))) rfl ?_
  rintro _ w21 ⟨rfl, q_w21, c_w21⟩
  have hs_w21 : w20.heap.size ≤ w21.heap.size := Chg.size c_w21
  replace ho9 := ho9.kb c_w21 ne_b16_ho9
  replace p3 := p3.kb c_w21 (by omega)
  replace p6 := p6.kb c_w21 (by omega)
  have C_w21 := Chg.newRng C_w20 c_w21 (by omega)
  have p17 := q_w21
  refine s_end ?_
  refine go_seq ?_
  refine go_drawsK 4 (.take 0 (.take 1 (.take 2 (.eff 3 (.eff 4 .done))))) (by kernel_rfl) (by kernel_rfl) fun w22 c_w22 => ?_
  have hs_w22 : w21.heap.size ≤ w22.heap.size := Chg.size c_w22
  replace ho9 := ho9.k c_w22
  replace p3 := p3.k c_w22
  replace p6 := p6.k c_w22
  replace p17 := p17.k c_w22
  have C_w22 := Chg.pure C_w21 c_w22
  have ho9_0 := ho9
  have p3_0 := p3
  have p6_0 := p6
  have p17_0 := p17
  refine s_takeK rfl rfl (w0 := w22) (fun x_ c_ => r_sliceA (l := 56) (h := 64) (m := 64) Tryz.runUnderlying86 Tryz.sizeOf5 rfl ⟨_, _, rfl, by first | rfl | omega⟩ rfl rfl (by first | decide | (intro h_; cases h_)) (by first | decide | omega) (by first | decide | omega | (intro _; omega)) (by first | decide | omega) (by first | decide | omega)) ?_
  refine s_takeK rfl rfl (w0 := w22) (fun x_ c_ => r_move) ?_
  refine s_takeK rfl rfl (w0 := w22) (fun x_ c_ => r_quoN (m := q + s) rfl rfl (by omega) (by omega)) ?_
  skip
  have hcall_ := long_spec (q + s) w22 (by omega)
  refine s_fxK rfl rfl (w_call Tryz.call74 rfl hcall_) ?_
  rintro _ w23 ⟨b24, rfl, hl_b24, hu_b24, p25, c_w23⟩
  have ne_b24_ho9 := Owns.ne_ge ho9 hl_b24
  have hs_w23 : w22.heap.size ≤ w23.heap.size := Chg.size c_w23
  replace ho9 := ho9.k c_w23
  replace p3 := p3.k c_w23
  replace p6 := p6.k c_w23
  replace p17 := p17.k c_w23
  have C_w23 := Chg.pure C_w22 c_w23
  have hn_b24 : w.heap.size ≤ b24 := by have := Chg.size C_w23; omega
  have K_w23 := Chg.pure (Chg.refl no w22) c_w23
  refine ⟨K_w23, ?_⟩
  refine s_do rfl rfl (w_copy_b (o := 0) (lo := 56) Tryz.underlying55 (by kernel_rfl) rfl rfl p17 (by first | omega | (simp; try omega)) (SlAt.some p25.rd) (by first | rfl | omega | (simp; done) | (simp; omega))) rfl ?_
  rintro _ w26 ⟨rfl, q_w26, c_w26⟩
  have hs_w26 : w23.heap.size ≤ w26.heap.size := Chg.size c_w26
  replace ho9 := ho9.kb c_w26 ne_b16_ho9
  replace p3 := p3.kb c_w26 (by omega)
  replace p6 := p6.kb c_w26 (by omega)
  replace p25 := p25.kb c_w26 (by omega)
  have C_w26 := Chg.newRng C_w23 c_w26 (by omega)
  have p17 := q_w26
  refine s_end ?_
  refine go_seq ?_
  refine go_region 3 rfl rfl ?_
  refine s_val rfl rfl (r_loadN Tryz.isAgg86 Tryz.sizeOf86 rfl p17.rd (bs_len (by first | omega | (simp; try omega)))) rfl ?_
  have hcall_ := stirR_spec _ w26 hl4_
  rw [blkR_eq] at hcall_
  refine s_do rfl rfl (w_call Tryz.call75 rfl hcall_) rfl ?_
  rintro _ w27 ⟨rfl, c_w27⟩
  have hs_w27 : w26.heap.size ≤ w27.heap.size := Chg.size c_w27
  replace ho9 := ho9.k c_w27
  replace p3 := p3.k c_w27
  replace p6 := p6.k c_w27
  replace p25 := p25.k c_w27
  replace p17 := p17.k c_w27
  have C_w27 := Chg.pure C_w26 c_w27
  refine s_do rfl rfl (w_storeA (o := 0) Tryz.sizeOf86 rfl rfl (bs_len (by first | omega | (simp; try omega))) (flat_bs _) p17 (bs_len (by first | omega | (simp; try omega)))) rfl ?_
  rintro _ w28 ⟨q_w28, c_w28⟩
  have hs_w28 : w27.heap.size ≤ w28.heap.size := Chg.size c_w28
  replace ho9 := ho9.kb c_w28 ne_b16_ho9
  replace p3 := p3.kb c_w28 (by omega)
  replace p6 := p6.kb c_w28 (by omega)
  replace p25 := p25.kb c_w28 (by omega)
  have C_w28 := Chg.newRng C_w27 c_w28 (by omega)
  have p17 := q_w28
  refine s_end ?_
  refine go_seq ?_
  refine go_region 10 rfl rfl ?_
  refine s_val rfl rfl (r_move) rfl ?_
  refine s_val rfl rfl (r_remN (m := 0) rfl rfl (by omega) (by omega)) rfl ?_
  refine s_val rfl rfl (r_move) rfl ?_
  refine s_val rfl rfl (r_addN (m := at_) rfl rfl (by omega) (by omega)) rfl ?_
  refine s_val rfl rfl (r_move) rfl ?_
  refine s_val rfl rfl (r_addN (m := at_ + 64) rfl rfl (by omega) (by omega)) rfl ?_
  refine s_val rfl rfl (r_move) rfl ?_
  refine s_val rfl rfl (r_subN (m := 64) rfl rfl (by omega) (by omega)) rfl ?_
  refine s_val rfl rfl (r_minN (m := 64) rfl rfl (by decide)) rfl ?_
  refine s_val rfl rfl (r_assign) rfl ?_
  refine s_end ?_
  refine go_seq ?_
  refine go_region 7 rfl rfl ?_
  refine s_val rfl rfl (r_move) rfl ?_
  refine s_val rfl rfl (r_move) rfl ?_
  refine s_val rfl rfl (r_remN (m := 0) rfl rfl (by omega) (by omega)) rfl ?_
  refine s_val rfl rfl (r_move) rfl ?_
  refine s_val rfl rfl (r_sliceA (l := 0) (h := 64) (m := 64) Tryz.runUnderlying86 Tryz.sizeOf5 rfl ⟨_, _, rfl, by first | rfl | omega⟩ ⟨_, _, rfl, by first | rfl | omega⟩ rfl (by first | decide | (intro h_; cases h_)) (by decide) (by intro _; decide) (by decide) (by decide)) rfl ?_
  refine s_do rfl rfl (w_append (E := 5) (sz := 1) Tryz.underlying55 rfl (i := Tryz.t5) (by kernel_rfl) rfl rfl rfl rfl (by rfl) ho9 rfl (SlAt.some p17.rd) (by rw [bs_length, blkB_length]) (flat_bs _) (by omega) (by show _ * 1 ≤ _; omega) (by omega)) rfl ?_
  rintro v33 w29 ⟨o30, c_w29⟩
  have hs_w29 : w28.heap.size ≤ w29.heap.size := Chg.size c_w29
  replace p3 := p3.kob c_w29 (Owns.ne_lt ho9 (by omega))
  replace p6 := p6.kob c_w29 (Owns.ne_lt ho9 (by omega))
  replace p25 := p25.kob c_w29 ne_b24_ho9
  replace p17 := p17.kob c_w29 ne_b16_ho9
  have C_w29 := Chg.newOb C_w28 c_w29 ho9 (by omega)
  have hfo_o30 := Owns.form2 o30
  obtain ⟨A31, cap32, e_o30, hc_cap32⟩ := hfo_o30
  subst e_o30
  replace o30 := Owns.appB o30
  refine s_val rfl rfl (r_assign) rfl ?_
  refine s_end ?_
  refine go_region 8 rfl rfl ?_
  refine s_val rfl rfl (r_move) rfl ?_
  refine s_val rfl rfl (r_move) rfl ?_
  refine s_val rfl rfl (r_move) rfl ?_
  refine s_val rfl rfl (r_remN (m := 0) rfl rfl (by omega) (by omega)) rfl ?_
  refine s_val rfl rfl (r_subN (m := 64) rfl rfl (by omega) (by omega)) rfl ?_
  refine s_val rfl rfl (r_subN (m := 63) rfl rfl (by omega) (by omega)) rfl ?_
  refine s_val rfl rfl (r_addN (m := at_ + 64 * s + 63) rfl rfl (by omega) (by omega)) rfl ?_
  refine s_val rfl rfl (r_assign) rfl ?_
  refine s_end ?_
  refine go_nil (block_normal ?_)
  refine go_region 3 rfl rfl ?_
  refine s_val rfl rfl (r_move) rfl ?_
  refine s_val rfl rfl (r_addN (m := at_ + 64 * (s + 1)) rfl rfl (by omega) (by omega)) rfl ?_
  refine s_val rfl rfl (r_assign) rfl ?_
  refine s_end ?_
  refine go_nil (loop_normal ⟨⟨(s + 1, (O ++ blkB k n (q + s)), A31, n1 + (64 - 0), cap32), by first | omega | (dsimp only; omega), ⟨rfl, rfl, by omega, by omega, fun h_ => by omega, fun _ => outR_two (hO0 (by omega)) (by omega), by omega, o30, by omega, p3, by omega, p6, by omega, C_w29⟩⟩, (by repeat (first | exact same_refl | exact same_over | refine same_upd rfl ?_ | refine same_over2 rfl ?_))⟩)
 ·first | replace h1 := dcF h1 | replace h1 := dcT (nf h1) | skip
  have hs_ : s = 1 := by omega
  have hOe := hO1 hs_
  have hne : n1 = 64 := by omega
  refine go_exit (loop_exit (block_hit ?_))
  refine go_seq ?_
  refine go_region 2 rfl rfl ?_
  refine s_val rfl rfl (r_move) rfl ?_
  refine s_val rfl rfl (r_assign) rfl ?_
  refine s_end ?_
  refine go_ret ?_
  refine ⟨_, .cons rfl (.nil), ?_⟩
  exact ⟨a1, c1, congrArg (fun m_ => Value.slice a1 m_ c1) hne, by omega, by have h_ := ho9; rw [hOe, hne] at h_; exact Owns.mono h_ (by omega), C_w7⟩
end Go.Proofs.YtippcmedgfmgbaaGreat
end
section
open Go Go.Eng Go.Proofs
namespace Go.Proofs.YtippcmedgfmgbaaGreat
theorem numberOf_spec (l : List UInt8) (a : Option Addr) (n c : Nat) (w : World) (hn : l.length = n) (hb : n ≤ 2) (hsl : SlAt w a (bs l)) :
  Rtn Tryz.prog 77 [Value.slice a n c].toArray w (fun v w' => v = i64 ((numTo l n : Nat) : Int) ∧ Kept w w') := by
 refine fn_body (l := [Value.slice a n c]) 19 [.tmp 2] Tryz.func77 rfl Tryz.ntmps77 (Nat.le_of_ble_eq_true rfl) (by rw [Tryz.results77]) ?_
 refine go_seq ?_
 refine go_region 1 rfl rfl ?_
 refine s_val rfl rfl (r_assign) rfl ?_
 refine s_end ?_
 refine go_seq ?_
 refine go_region 1 rfl rfl ?_
 refine s_val rfl rfl (r_assign) rfl ?_
 refine s_end ?_
 refine go_seq ?_
 refine go_seq ?_
 refine go_region 3 rfl rfl ?_
 refine s_val rfl rfl (r_move) rfl ?_
 refine s_val rfl rfl (r_len Tryz.runUnderlying55 rfl) rfl ?_
 refine s_val rfl rfl (r_move) rfl ?_
 refine s_end ?_
 refine go_block ?_
 refine go_loopM (σ := Nat × Nat) [(3, 3), (5, 5), (8, 17)] (fun (x_ : Nat × Nat) e' w' => match x_ with | (k, q) => e' 8 = i64 (k : Nat) ∧ e' 3 = i64 (q : Nat) ∧ k ≤ n ∧ q = numTo l k ∧ Chg no w w') (fun (x_ : Nat × Nat) => match x_ with | (k, q) => n - k) (0, 0) ?_ ?_
 ·exact ⟨rfl, rfl, by omega, rfl, (Chg.refl no w)⟩
 rintro ⟨k, q⟩ f2 w1 ⟨e3, e4, hk, hq, C_w1⟩
 have ob_6 : ∃ g_, f2 = upd g_ 8 (i64 (k : Nat)) := ⟨f2, upd_id e3⟩
 obtain ⟨f5, rfl⟩ := ob_6
 have ob_8 : ∃ g_, f5 = upd g_ 3 (i64 (q : Nat)) := ⟨f5, upd_id e4⟩
 obtain ⟨f7, rfl⟩ := ob_8
 clear e3 e4
 have hs_w1 : w.heap.size ≤ w1.heap.size := Chg.size C_w1
 have hle_ := numTo_le l k (by omega)
 refine go_seq ?_
 refine go_region 1 rfl rfl ?_
 refine s_val rfl rfl (r_lss rfl rfl) rfl ?_
 refine s_end ?_
 refine go_seq ?_
 refine go_ifb _ rfl (fun h1 => ?_) (fun h1 => ?_)
 ·first | replace h1 := dcT h1 | replace h1 := dcF (nt h1) | skip
  refine go_skip ?_
  refine go_seq ?_
  refine go_block ?_
  refine go_seq ?_
  refine go_region 3 rfl rfl ?_
  refine s_val rfl rfl (r_indexSl (k := k) Tryz.runUnderlying55 Tryz.sizeOf5 rfl (hsl.k C_w1) (bs_ne (by omega)) rfl (by first | rfl | omega) (by omega)) rfl ?_
  refine s_val rfl rfl (r_loadSl1 Tryz.isAgg5 rfl (hsl.k C_w1) (bs_get (by first | omega | (simp; try omega)))) rfl ?_
  refine s_val rfl rfl (r_assign) rfl ?_
  refine s_end ?_
  refine go_region 6 rfl rfl ?_
  refine s_val rfl rfl (r_move) rfl ?_
  refine s_val rfl rfl (r_shl8N (m := q * 256) rfl rfl (by omega) (by omega)) rfl ?_
  refine s_val rfl rfl (r_move) rfl ?_
  refine s_val rfl rfl (r_conv_i64 Tryz.runUnderlying5 Tryz.runUnderlying3 rfl (u8_rng _)) rfl ?_
  refine s_val rfl rfl (r_addN (m := q * 256 + (l.getD k 0).toNat) rfl rfl (by omega) (by have h_ := (l.getD k 0).toNat_lt; omega)) rfl ?_
  refine s_val rfl rfl (r_assign) rfl ?_
  refine s_end ?_
  refine go_nil (block_normal ?_)
  refine go_region 2 rfl rfl ?_
  refine s_val rfl rfl (r_addi rfl rfl (by omega)) rfl ?_
  refine s_val rfl rfl (r_move) rfl ?_
  refine s_end ?_
  refine go_nil (loop_normal ⟨⟨(k + 1, q * 256 + (l.getD k 0).toNat), by first | omega | (dsimp only; omega), ⟨rfl, rfl, by omega, by rw [hq]; rfl, C_w1⟩⟩, (by repeat (first | exact same_refl | exact same_over | refine same_upd rfl ?_ | refine same_over2 rfl ?_))⟩)
 ·first | replace h1 := dcF h1 | replace h1 := dcT (nf h1) | skip
  have hkn : k = n := by omega
  refine go_exit (loop_exit (block_hit ?_))
  refine go_seq ?_
  refine go_region 2 rfl rfl ?_
  refine s_val rfl rfl (r_move) rfl ?_
  refine s_val rfl rfl (r_assign) rfl ?_
  refine s_end ?_
  refine go_ret ?_
  refine ⟨_, .cons rfl (.nil), ?_⟩
  exact ⟨congrArg (fun m_ : Nat => i64 (m_ : Int)) (hq.trans (congrArg (numTo l) hkn)), C_w1⟩
set_option maxHeartbeats 4000000 in
set_option maxRecDepth 100000 in
theorem numbersOf_spec (k n : List UInt8) (many : Nat) (w : World) (hk : k.length = 32) (hn : n.length = 16) (hm : many ≤ 200) :
  Rtn Tryz.prog 48 [.agg (bs k).toArray, .agg (bs n).toArray, i64 (many : Nat)].toArray w (fun v w' => Owns w' w.heap.size 3 1 v many (fs (numsL (blkB k n) many)) ∧ Kept w w') := by
 have hinj : ∀ i j, i < 256 → j < 256 → blkB k n i = blkB k n j → i = j := fun i j hi hj h => blkB_inj hk hn hi hj h
 refine fn_body (l := [.agg (bs k).toArray, .agg (bs n).toArray, i64 (many : Nat)]) 46 [.tmp 6] Tryz.func48 rfl Tryz.ntmps48 (Nat.le_of_ble_eq_true rfl) (by rw [Tryz.results48]) ?_
 refine go_seq ?_
 refine go_region 3 rfl rfl ?_
 refine s_do rfl rfl (w_boxA rfl) rfl ?_
 rintro _ w1 ⟨b2, rfl, hl_b2, hu_b2, p3, c_w1⟩
 have hs_w1 : w.heap.size ≤ w1.heap.size := Chg.size c_w1
 have C_w1 := Chg.pure (Chg.refl no w) c_w1
 have hn_b2 : w.heap.size ≤ b2 := by have := Chg.size C_w1; omega
 refine s_do rfl rfl (w_boxA rfl) rfl ?_
 rintro _ w4 ⟨b5, rfl, hl_b5, hu_b5, p6, c_w4⟩
 have hs_w4 : w1.heap.size ≤ w4.heap.size := Chg.size c_w4
 replace p3 := p3.k c_w4
 have C_w4 := Chg.pure C_w1 c_w4
 have hn_b5 : w.heap.size ≤ b5 := by have := Chg.size C_w4; omega
 refine s_val rfl rfl (r_assign) rfl ?_
 refine s_end ?_
 refine go_seq ?_
 refine go_region 1 rfl rfl ?_
 refine s_val rfl rfl (r_assign) rfl ?_
 refine s_end ?_
 refine go_seq ?_
 refine go_seq ?_
 refine go_region 1 rfl rfl ?_
 refine s_val rfl rfl (r_assign) rfl ?_
 refine s_end ?_
 refine go_block ?_
 refine go_loopM (σ := Nat × Option Addr × Nat × Nat) [(7, 44)] (fun (x_ : Nat × Option Addr × Nat × Nat) e' w' => match x_ with | (kk, a1, n1, c1) => e' 8 = i64 ((64 * kk : Nat) : Int) ∧ e' 7 = Value.slice a1 n1 c1 ∧ kk ≤ many + 1 ∧ n1 = ((numsTo (blkB k n) kk).take many).length ∧ n1 ≤ c1 ∧ w4.heap.size ≤ w'.heap.size ∧ Owns w' w4.heap.size 3 1 (Value.slice a1 n1 c1) n1 (fs ((numsTo (blkB k n) kk).take many)) ∧ Pc w' b2 0 (bs k) ∧ b2 < w'.heap.size ∧ Pc w' b5 0 (bs n) ∧ b5 < w'.heap.size ∧ Chg no w w') (fun (x_ : Nat × Option Addr × Nat × Nat) => match x_ with | (kk, a1, n1, c1) => many + 1 - kk) (0, none, 0, 0) ?_ ?_
 ·exact ⟨rfl, rfl, by omega, by simp [numsTo], by omega, by omega, by simpa [numsTo, fs] using Owns.nil _ _ _ _, p3, by omega, p6, by omega, C_w4⟩
 rintro ⟨kk, a1, n1, c1⟩ f8 w7 ⟨e9, e10, hkk, hn1, hc1, hB_ho7, ho7, p3, hu_b2, p6, hu_b5, C_w7⟩
 have ob_12 : ∃ g_, f8 = upd g_ 8 (i64 ((64 * kk : Nat) : Int)) := ⟨f8, upd_id e9⟩
 obtain ⟨f11, rfl⟩ := ob_12
 have ob_14 : ∃ g_, f11 = upd g_ 7 (Value.slice a1 n1 c1) := ⟨f11, upd_id e10⟩
 obtain ⟨f13, rfl⟩ := ob_14
 clear e9 e10
 have hs_w7 : w.heap.size ≤ w7.heap.size := Chg.size C_w7
 refine go_seq ?_
 refine go_seq ?_
 refine go_region 4 rfl rfl ?_
 refine s_val rfl rfl (r_move) rfl ?_
 refine s_val rfl rfl (r_len Tryz.runUnderlying63 rfl) rfl ?_
 refine s_val rfl rfl (r_move) rfl ?_
 refine s_val rfl rfl (r_lss rfl rfl) rfl ?_
 refine s_end ?_
 refine go_ifb _ rfl (fun h1 => ?_) (fun h1 => ?_)
 ·first | replace h1 := dcT h1 | replace h1 := dcF (nt h1) | skip
  have hkm := nums_lt (B := (blkB k n)) (fun q => blkB_length k n q) hinj hm hkk hn1 (by omega)
  refine go_skip ?_
  refine go_seq ?_
  refine go_block ?_
  refine go_seq ?_
  refine go_region 5 rfl rfl ?_
  refine s_val rfl rfl (r_loadN Tryz.isAgg23 Tryz.sizeOf23 rfl p3.rd (bs_len (by first | omega | (simp; try omega)))) rfl ?_
  refine s_val rfl rfl (r_loadN Tryz.isAgg89 Tryz.sizeOf89 rfl p6.rd (bs_len (by first | omega | (simp; try omega)))) rfl ?_
  refine s_val rfl rfl (r_move) rfl ?_
  have hH7_ := fun (b_ : Nat) (hb_ : some b_ = (Value.slice a1 n1 c1).ownBlock) => own_lt2 ho7 hb_
  refine s_do rfl rfl (w_call Tryz.call76 rfl (streamR_spec k n _ kk _ hk hn (by omega) (by omega))) rfl ?_
  rintro _ w15 ⟨aB, cB, rfl, hcB, oB, c_w15⟩
  have hs_w15 : w7.heap.size ≤ w15.heap.size := Chg.size c_w15
  replace ho7 := ho7.k c_w15
  replace p3 := p3.k c_w15
  replace p6 := p6.k c_w15
  have C_w15 := Chg.pure C_w7 c_w15
  have hB := Owns.sl oB
  have hloB := Owns.lo oB
  clear oB
  have hbl := blkB_length k n kk
  have hos0 := OS.start ho7 hB (by intro h_; rw [h_] at hbl; cases hbl) hH7_ hloB
  clear hB hloB
  refine s_val rfl rfl (r_assign) rfl ?_
  refine s_end ?_
  refine go_seq ?_
  refine go_region 1 rfl rfl ?_
  refine s_val rfl rfl (r_assign) rfl ?_
  refine s_end ?_
  refine go_meet [(7, 7), (10, 11), (22, 44)] (fun e' w' => ∃ (a3 : Option Addr) (n3 : Nat) (c3 : Nat), e' 7 = Value.slice a3 n3 c3 ∧ n3 = ((numsTo (blkB k n) (kk + 1)).take many).length ∧ n3 ≤ c3 ∧ w4.heap.size ≤ w'.heap.size ∧ Owns w' w4.heap.size 3 1 (Value.slice a3 n3 c3) n3 (fs ((numsTo (blkB k n) (kk + 1)).take many)) ∧ Pc w' b2 0 (bs k) ∧ b2 < w'.heap.size ∧ Pc w' b5 0 (bs n) ∧ b5 < w'.heap.size ∧ Chg no w w') ?_ ?_
  ·
   refine go_block ?_
   refine go_loopM (σ := Nat × Option Addr × Nat × Nat) [(7, 7), (10, 11), (22, 44)] (fun (x_ : Nat × Option Addr × Nat × Nat) e' w' => match x_ with | (j, a2, n2, c2) => e' 10 = i64 ((2 * j : Nat) : Int) ∧ e' 7 = Value.slice a2 n2 c2 ∧ j ≤ 32 ∧ n2 = ((numsTo (blkB k n) kk ++ pairsTo (blkB k n kk) j).take many).length ∧ n2 ≤ c2 ∧ OS w' w4.heap.size (Value.slice a2 n2 c2) n2 ((numsTo (blkB k n) kk ++ pairsTo (blkB k n kk) j).take many) aB (blkB k n kk) ∧ w4.heap.size ≤ w'.heap.size ∧ Pc w' b2 0 (bs k) ∧ b2 < w'.heap.size ∧ Pc w' b5 0 (bs n) ∧ b5 < w'.heap.size ∧ Chg no w w') (fun (x_ : Nat × Option Addr × Nat × Nat) => match x_ with | (j, a2, n2, c2) => 32 - j) (0, a1, n1, c1) ?_ ?_
   ·exact ⟨rfl, rfl, by omega, by simpa [pairsTo] using hn1, by omega, by simpa [pairsTo] using hos0, by omega, p3, by omega, p6, by omega, C_w15⟩
   rintro ⟨j, a2, n2, c2⟩ f19 w18 ⟨e20, e21, hj, hn2, hc2, hos, hcw2, p3, hu_b2, p6, hu_b5, C_w18⟩
   have ob_23 : ∃ g_, f19 = upd g_ 10 (i64 ((2 * j : Nat) : Int)) := ⟨f19, upd_id e20⟩
   obtain ⟨f22, rfl⟩ := ob_23
   have ob_25 : ∃ g_, f22 = upd g_ 7 (Value.slice a2 n2 c2) := ⟨f22, upd_id e21⟩
   obtain ⟨f24, rfl⟩ := ob_25
   clear e20 e21
   have hs_w18 : w.heap.size ≤ w18.heap.size := Chg.size C_w18
   refine go_seq ?_
   refine go_seq ?_
   refine go_region 8 rfl rfl ?_
   refine s_val rfl rfl (r_move) rfl ?_
   refine s_val rfl rfl (r_lss rfl rfl) rfl ?_
   refine s_valB rfl rfl (r_move) rfl (fun h26 => ?_) (fun h26 => ?_)
   ·first | replace h26 := dcT h26 | replace h26 := dcF (nt h26) | skip
    have hj64 := h26
    refine s_val_g rfl rfl (r_move) rfl ?_
    refine s_val_g rfl rfl (r_len Tryz.runUnderlying63 rfl) rfl ?_
    refine s_val_g rfl rfl (r_move) rfl ?_
    refine s_val_g rfl rfl (r_lss rfl rfl) rfl ?_
    refine s_val rfl rfl (r_pick true rfl) rfl ?_
    refine s_end ?_
    refine go_ifb _ rfl (fun h4 => ?_) (fun h4 => ?_)
    ·first | replace h4 := dcT h4 | replace h4 := dcF (nt h4) | skip
     refine go_skip ?_
     refine go_seq ?_
     refine go_block ?_
     refine go_seq ?_
     refine go_region 7 rfl rfl ?_
     refine s_val rfl rfl (r_move) rfl ?_
     refine s_val rfl rfl (r_move) rfl ?_
     refine s_val rfl rfl (r_move) rfl ?_
     refine s_val rfl rfl (r_addi rfl rfl (by omega)) rfl ?_
     have hcut_ := SlAt.cutB_mid hos.s (2 * j) (2 * j + 2) cB (by rw [blkB_length]; omega)
     refine s_val rfl rfl (r_sliceSl (l := 2 * j) (h := 2 * j + 2) (m := cB) Tryz.runUnderlying55 Tryz.sizeOf5 rfl ⟨_, _, rfl, by first | rfl | omega⟩ ⟨_, _, rfl, by first | rfl | omega⟩ rfl (by first | decide | (intro h_; cases h_)) (by omega) (by intro _; omega) (by exact Nat.le_refl _)) rfl ?_
     have hcall_ := numberOf_spec (((blkB k n kk).drop (2 * j)).take (2 * j + 2 - 2 * j)) (cutA aB (2 * j) cB 1) (2 * j + 2 - 2 * j) (cB - 2 * j) w18 (by rw [List.length_take, List.length_drop, blkB_length]; omega) (by omega) hcut_
     rw [numTo_pair] at hcall_
     have hx1_ := ((blkB k n kk).getD (2 * j) 0).toNat_lt
     have hy1_ := ((blkB k n kk).getD (2 * j + 1) 0).toNat_lt
     have hpv_ : 256 * ((blkB k n kk).getD (2 * j) 0).toNat + ((blkB k n kk).getD (2 * j + 1) 0).toNat = (pairV (blkB k n kk) j) := rfl
     refine s_do rfl rfl (w_call Tryz.call77 rfl hcall_) rfl ?_
     rintro _ w27 ⟨rfl, c_w27⟩
     clear hcut_
     have hs_w27 : w18.heap.size ≤ w27.heap.size := Chg.size c_w27
     replace hos := hos.k c_w27
     replace p3 := p3.k c_w27
     replace p6 := p6.k c_w27
     have C_w27 := Chg.pure C_w18 c_w27
     refine s_val rfl rfl (r_assign) rfl ?_
     refine s_end ?_
     refine go_seq ?_
     refine go_region 2 rfl rfl ?_
     refine s_val rfl rfl (r_move) rfl ?_
     refine s_val rfl rfl (r_lss rfl rfl) rfl ?_
     refine s_end ?_
     refine go_ifb _ rfl (fun h5 => ?_) (fun h5 => ?_)
     ·first | replace h5 := dcT h5 | replace h5 := dcF (nt h5) | skip
      refine go_region 6 rfl rfl ?_
      refine s_val rfl rfl (r_move) rfl ?_
      refine s_val rfl rfl (r_move) rfl ?_
      refine s_val rfl rfl (r_remF (z := (fI (((pairV (blkB k n kk) j) : Nat) : Int))) rfl rfl (by omega) rfl) rfl ?_
      refine s_do rfl rfl (w_build1 (v := (i64 ((((fI (((pairV (blkB k n kk) j) : Nat) : Int)).val : Nat) : Int)))) (E := 3) Tryz.underlying63 (i := Tryz.t3) (by kernel_rfl) rfl rfl rfl rfl rfl) rfl ?_
      rintro _ w28 ⟨b29, rfl, hl_b29, hu_b29, o31, p30, c_w28⟩
      have ne_b29_hos := Owns.ne_ge hos.o1 hl_b29
      have hs_w28 : w27.heap.size ≤ w28.heap.size := Chg.size c_w28
      replace hos := hos.k c_w28
      replace p3 := p3.k c_w28
      replace p6 := p6.k c_w28
      have C_w28 := Chg.pure C_w27 c_w28
      have hn_b29 : w.heap.size ≤ b29 := by have := Chg.size C_w28; omega
      replace p30 : Pc w28 b29 0 (fs [(fI (((pairV (blkB k n kk) j) : Nat) : Int))]) := p30
      refine s_do rfl rfl (w_appendAt (E := 3) (sz := 1) Tryz.underlying63 rfl (i := Tryz.t3) (by kernel_rfl) rfl rfl rfl rfl rfl hos.o1 rfl (SlAt.some p30.rd) (by rw [fs_length]; rfl) (flat_fs _) (by omega) (by omega) (by show _ * 8 ≤ _; omega) (by omega)) rfl ?_
      rintro v34 w32 ⟨o33, hq35, c_w32⟩
      have hs_w32 : w28.heap.size ≤ w32.heap.size := Chg.size c_w32
      replace p3 := p3.kob c_w32 (Owns.ne_lt hos.o1 (by omega))
      replace p6 := p6.kob c_w32 (Owns.ne_lt hos.o1 (by omega))
      replace p30 := p30.kob c_w32 ne_b29_hos
      have C_w32 := Chg.newOb C_w28 c_w32 hos.o1 (by omega)
      replace hos := hos.add o33 hq35 c_w32
      clear hq35
      have hfo_ := Owns.form2 hos.o1
      obtain ⟨A36, cap37, e_, hc_cap37⟩ := hfo_
      subst e_
      refine s_val rfl rfl (r_assign) rfl ?_
      refine s_end ?_
      refine go_nil (block_normal ?_)
      refine go_region 3 rfl rfl ?_
      refine s_val rfl rfl (r_move) rfl ?_
      refine s_val rfl rfl (r_addi rfl rfl (by omega)) rfl ?_
      refine s_val rfl rfl (r_assign) rfl ?_
      refine s_end ?_
      refine go_nil (loop_normal ⟨⟨(j + 1, A36, n2 + 1, cap37), by first | omega | (dsimp only; omega), ⟨congrArg i64 (by omega), rfl, by omega, by rw [nums_t (B := (blkB k n)) hn2 (by omega) (by omega), List.length_append, ← hn2]; rfl, by omega, by rw [nums_t (B := (blkB k n)) hn2 (by omega) (by omega)]; exact hos, by omega, p3, by omega, p6, by omega, C_w32⟩⟩, (by repeat (first | exact same_refl | exact same_over | refine same_upd rfl ?_ | refine same_over2 rfl ?_))⟩)
     ·first | replace h5 := dcF h5 | replace h5 := dcT (nf h5) | skip
      refine go_skip ?_
      refine go_nil (block_normal ?_)
      refine go_region 3 rfl rfl ?_
      refine s_val rfl rfl (r_move) rfl ?_
      refine s_val rfl rfl (r_addi rfl rfl (by omega)) rfl ?_
      refine s_val rfl rfl (r_assign) rfl ?_
      refine s_end ?_
      refine go_nil (loop_normal ⟨⟨(j + 1, a2, n2, c2), by first | omega | (dsimp only; omega), ⟨congrArg i64 (by omega), rfl, by omega, by rw [nums_f (B := (blkB k n)) (by omega)]; exact hn2, by omega, by rw [nums_f (B := (blkB k n)) (by omega)]; exact hos, by omega, p3, by omega, p6, by omega, C_w27⟩⟩, (by repeat (first | exact same_refl | exact same_over | refine same_upd rfl ?_ | refine same_over2 rfl ?_))⟩)
    ·first | replace h4 := dcF h4 | replace h4 := dcT (nf h4) | skip
     refine go_exit (loop_exit (block_hit ?_))
     refine go_nil (loop_normal ⟨?_, (by repeat (first | exact same_refl | exact same_over | refine same_upd rfl ?_ | refine same_over2 rfl ?_))⟩)
     have hcu_ := nums_cut (B := (blkB k n)) hn2 (by omega) (by omega)
     exact ⟨a2, n2, c2, rfl, by rw [hcu_]; exact hn2, by omega, by omega, by rw [hcu_]; exact hos.o1, p3, by omega, p6, by omega, C_w18⟩
   ·first | replace h26 := dcF h26 | replace h26 := dcT (nf h26) | skip
    have hj64 := h26
    refine s_val_not rfl rfl ?_
    refine s_val_not rfl rfl ?_
    refine s_val_not rfl rfl ?_
    refine s_val_not rfl rfl ?_
    refine s_val rfl rfl (r_pick false rfl) rfl ?_
    refine s_end ?_
    refine go_false rfl ?_
    refine go_exit (loop_exit (block_hit ?_))
    refine go_nil (loop_normal ⟨?_, (by repeat (first | exact same_refl | exact same_over | refine same_upd rfl ?_ | refine same_over2 rfl ?_))⟩)
    have hj32 : j = 32 := by omega
    rw [hj32] at hn2 hos
    exact ⟨a2, n2, c2, rfl, hn2, by omega, by omega, hos.o1, p3, by omega, p6, by omega, C_w18⟩
  rintro f17 w16 ⟨a3, n3, c3, e38, hn3, hc3, hB_ho7, ho7, p3, hu_b2, p6, hu_b5, C_w16⟩
  have ob_40 : ∃ g_, f17 = upd g_ 7 (Value.slice a3 n3 c3) := ⟨f17, upd_id e38⟩
  obtain ⟨f39, rfl⟩ := ob_40
  clear e38
  have hs_w16 : w.heap.size ≤ w16.heap.size := Chg.size C_w16
  refine go_nil (block_normal ?_)
  refine go_region 3 rfl rfl ?_
  refine s_val rfl rfl (r_move) rfl ?_
  refine s_val rfl rfl (r_addi rfl rfl (by omega)) rfl ?_
  refine s_val rfl rfl (r_assign) rfl ?_
  refine s_end ?_
  refine go_nil (loop_normal ⟨⟨(kk + 1, a3, n3, c3), by first | omega | (dsimp only; omega), ⟨congrArg i64 (by omega), rfl, by omega, hn3, by omega, by omega, ho7, p3, by omega, p6, by omega, C_w16⟩⟩, (by repeat (first | exact same_refl | exact same_over | refine same_upd rfl ?_ | refine same_over2 rfl ?_))⟩)
 ·first | replace h1 := dcF h1 | replace h1 := dcT (nf h1) | skip
  have hnm : n1 = many := by rw [hn1, List.length_take]; rw [List.length_take] at hn1; omega
  have hdn := nums_done (B := (blkB k n)) (k := kk) (many := many) (by rw [List.length_take] at hn1; omega) hkk
  refine go_exit (loop_exit (block_hit ?_))
  refine go_seq ?_
  refine go_region 2 rfl rfl ?_
  refine s_val rfl rfl (r_move) rfl ?_
  refine s_val rfl rfl (r_assign) rfl ?_
  refine s_end ?_
  refine go_ret ?_
  refine ⟨_, .cons rfl (.nil), ?_⟩
  have h_ := ho7
  rw [hdn] at h_
  rw [hnm] at h_
  exact ⟨by have e_ := congrArg (fun m_ => Value.slice a1 m_ c1) hnm; exact (show Owns _ _ _ _ (Value.slice a1 n1 c1) _ _ from e_ ▸ Owns.mono h_ (by omega)), C_w7⟩
end Go.Proofs.YtippcmedgfmgbaaGreat
end
section
open Go Go.Eng Go.Proofs
namespace Go.Proofs.YtippcmedgfmgbaaGreat
def nonceO (o : Nat) : List UInt8 := ((List.replicate 16 0).set 14 (b8 0)).set 15 (b8 (o : Int))
theorem nonceO_length (o : Nat) : (nonceO o).length = 16 := by simp [nonceO]
theorem nonceO_eq (o : Nat) : (List.replicate 16 (0 : UInt8)).set 15 (b8 (o : Int)) = nonceO o := by
  unfold nonceO
  have e : (List.replicate 16 (0 : UInt8)).set 14 (b8 0) = List.replicate 16 0 := by decide +kernel
  rw [e]
/-- the polynomial of an octet -/
def polyL (z : F) (seed : List UInt8) (o need : Nat) : List F := z :: numsL (blkB seed (nonceO o)) (need - 1)
theorem polyL_length {z : F} {seed : List UInt8} {o need : Nat} (hs : seed.length = 32) (h0 : 0 < need) (hb : need ≤ 200) : (polyL z seed o need).length = need := by
  have := numsL_len (B := blkB seed (nonceO o)) (fun q => blkB_length _ _ q) (fun i j hi hj h => blkB_inj hs (nonceO_length o) hi hj h) (many := need - 1) (by omega)
  rw [polyL, List.length_cons, this]; omega
set_option maxHeartbeats 2000000 in
theorem polynomial_spec (z : F) (c0 need o : Nat) (seed : List UInt8) (w : World) (hz : z.val = c0) (h0 : 0 < need) (hb : need ≤ 200) (hs : seed.length = 32) :
  Rtn Tryz.prog 33 [i64 (c0 : Nat), i64 (need : Nat), .agg (bs seed).toArray, i64 0, i64 (o : Nat)].toArray w (fun v w' => Owns w' w.heap.size 3 1 v need (fs (polyL z seed o need)) ∧ Kept w w') := by
 subst hz
 have hno := nonceO_length o
 refine fn_body (l := [fi z, i64 (need : Nat), .agg (bs seed).toArray, i64 0, i64 (o : Nat)]) 26 [.tmp 10] Tryz.func33 rfl Tryz.ntmps33 (Nat.le_of_ble_eq_true rfl) (by rw [Tryz.results33]) ?_
 refine go_seq ?_
 refine go_region 2 rfl rfl ?_
 refine s_do rfl rfl (w_boxA rfl) rfl ?_
 rintro _ w1 ⟨b2, rfl, hl_b2, hu_b2, p3, c_w1⟩
 have hs_w1 : w.heap.size ≤ w1.heap.size := Chg.size c_w1
 have C_w1 := Chg.pure (Chg.refl no w) c_w1
 have hn_b2 : w.heap.size ≤ b2 := by have := Chg.size C_w1; omega
 refine s_val rfl rfl (r_assign) rfl ?_
 refine s_end ?_
 refine go_seq ?_
 refine go_region 1 rfl rfl ?_
 refine s_do rfl rfl (w_alloc (bs (List.replicate 16 0)) Tryz.zeroValue89 (by kernel_rfl)) rfl ?_
 rintro _ w4 ⟨b5, rfl, hl_b5, hu_b5, p6, c_w4⟩
 have hs_w4 : w1.heap.size ≤ w4.heap.size := Chg.size c_w4
 replace p3 := p3.k c_w4
 have C_w4 := Chg.pure C_w1 c_w4
 have hn_b5 : w.heap.size ≤ b5 := by have := Chg.size C_w4; omega
 refine s_end ?_
 refine go_seq ?_
 refine go_region 8 rfl rfl ?_
 refine s_val rfl rfl (r_move) rfl ?_
 refine s_val rfl rfl (r_conv_u8 Tryz.runUnderlying3 Tryz.runUnderlying5 rfl) rfl ?_
 refine s_val rfl rfl (r_move) rfl ?_
 refine s_val rfl rfl (r_conv_u8 Tryz.runUnderlying3 Tryz.runUnderlying5 rfl) rfl ?_
 refine s_val rfl rfl (r_indexArr (k := 14) Tryz.runUnderlying89 Tryz.sizeOf5 rfl rfl (by first | rfl | omega) (by first | decide | omega)) rfl ?_
 refine s_do rfl rfl (w_set_b (o := 0) (k := 14) Tryz.sizeOf5 rfl rfl p6 (by first | omega | (simp; try omega))) rfl ?_
 rintro _ w7 ⟨q_w7, c_w7⟩
 have hs_w7 : w4.heap.size ≤ w7.heap.size := Chg.size c_w7
 replace p3 := p3.kb c_w7 (by omega)
 have C_w7 := Chg.newRng C_w4 c_w7 (by omega)
 have p6 := q_w7
 refine s_val rfl rfl (r_indexArr (k := 15) Tryz.runUnderlying89 Tryz.sizeOf5 rfl rfl (by first | rfl | omega) (by first | decide | omega)) rfl ?_
 refine s_do rfl rfl (w_set_b (o := 0) (k := 15) Tryz.sizeOf5 rfl rfl p6 (by first | omega | (simp; try omega))) rfl ?_
 rintro _ w8 ⟨q_w8, c_w8⟩
 have hs_w8 : w7.heap.size ≤ w8.heap.size := Chg.size c_w8
 replace p3 := p3.kb c_w8 (by omega)
 have C_w8 := Chg.newRng C_w7 c_w8 (by omega)
 have p6 := q_w8
 refine s_end ?_
 refine go_seq ?_
 refine go_region 9 rfl rfl ?_
 refine s_val rfl rfl (r_move) rfl ?_
 refine s_do rfl rfl (w_build1 (v := (i64 (((z.val : Nat) : Int)))) (E := 3) Tryz.underlying63 (i := Tryz.t3) (by kernel_rfl) rfl rfl rfl rfl rfl) rfl ?_
 rintro _ w9 ⟨b10, rfl, hl_b10, hu_b10, o12, p11, c_w9⟩
 have hs_w9 : w8.heap.size ≤ w9.heap.size := Chg.size c_w9
 replace p3 := p3.k c_w9
 replace p6 := p6.k c_w9
 have C_w9 := Chg.pure C_w8 c_w9
 have hn_b10 : w.heap.size ≤ b10 := by have := Chg.size C_w9; omega
 replace o12 : Owns w9 w8.heap.size 3 1 (.slice (some ⟨b10, 0, none⟩) 1 1) 1 (fs [z]) := o12
 clear p11
 refine s_val rfl rfl (r_loadN Tryz.isAgg23 Tryz.sizeOf23 rfl p3.rd (bs_len (by first | omega | (simp; try omega)))) rfl ?_
 refine s_val rfl rfl (r_loadN Tryz.isAgg89 Tryz.sizeOf89 rfl p6.rd (bs_len (by simp))) rfl ?_
 refine s_val rfl rfl (r_move) rfl ?_
 refine s_val rfl rfl (r_subN (m := need - 1) rfl rfl (by omega) (by omega)) rfl ?_
 have hcall_ := numbers_spec seed (nonceO o) (need - 1) w9 hs hno (by omega)
 refine s_do rfl rfl (w_call Tryz.call58 rfl hcall_) rfl ?_
 rintro v15 w13 ⟨o14, c_w13⟩
 clear hcall_
 have hs_w13 : w9.heap.size ≤ w13.heap.size := Chg.size c_w13
 replace p3 := p3.k c_w13
 replace p6 := p6.k c_w13
 replace o12 := o12.k c_w13
 have C_w13 := Chg.pure C_w9 c_w13
 have hfo_o14 := Owns.form2 o14
 obtain ⟨A16, cap17, e_o14, hc_cap17⟩ := hfo_o14
 subst e_o14
 replace o14 := Owns.sl o14
 have hnl_o14 := numsL_len (B := blkB seed (nonceO o)) (fun q_ => blkB_length _ _ q_) (fun i_ j_ hi_ hj_ h_ => blkB_inj hs hno hi_ hj_ h_) (many := (need - 1)) (by omega)
 refine s_do rfl rfl (w_append (E := 3) (sz := 1) Tryz.underlying63 rfl (i := Tryz.t3) (by kernel_rfl) rfl rfl rfl rfl (by rfl) o12 rfl o14 (by rw [fs_length]; omega) (flat_fs _) (by omega) (by show _ * 8 ≤ _; omega) (by omega)) rfl ?_
 rintro v22 w18 ⟨o19, c_w18⟩
 have hs_w18 : w13.heap.size ≤ w18.heap.size := Chg.size c_w18
 replace p3 := p3.kob c_w18 (Owns.ne_lt o12 (by omega))
 replace p6 := p6.kob c_w18 (Owns.ne_lt o12 (by omega))
 have C_w18 := Chg.newOb C_w13 c_w18 o12 (by omega)
 have hfo_o19 := Owns.form2 o19
 obtain ⟨A20, cap21, e_o19, hc_cap21⟩ := hfo_o19
 subst e_o19
 refine s_val rfl rfl (r_assign) rfl ?_
 refine s_end ?_
 refine go_ret ?_
 refine ⟨_, .cons rfl (.nil), ?_⟩
 have h_ := o19
 have en_ : 1 + (need - 1) = need := by omega
 have e_ := congrArg (fun m_ => Value.slice A20 m_ cap21) en_
 exact ⟨show Owns _ _ _ _ (Value.slice A20 (1 + (need - 1)) cap21) need (fs (polyL z seed o need)) from by rw [en_] at h_ ⊢; exact Owns.mono h_ (by omega), C_w18⟩
end Go.Proofs.YtippcmedgfmgbaaGreat
end
section
open Go Go.Eng Go.Proofs
namespace Go.Proofs.YtippcmedgfmgbaaGreat
/-- the polynomials of all octets, so far -/
def polysTo (secret seed : List UInt8) (need : Nat) : Nat → List (List F)
  | 0 => List.replicate 32 []
  | k + 1 => (polysTo secret seed need k).set k (polyL (fI (((secret.getD k 0).toNat : Nat) : Int)) seed k need)
set_option maxHeartbeats 8000000 in
set_option maxRecDepth 100000 in
theorem polynomials_spec (secret seed : List UInt8) (need : Nat) (w : World) (hk : secret.length = 32) (h0 : 0 < need) (hb : need ≤ 200) (hs : seed.length = 32) :
  Rtn Tryz.prog 24 [.agg (bs secret).toArray, i64 (need : Nat), .agg (bs seed).toArray, .bool false].toArray w (fun v w' => ∃ vs, v = .agg vs.toArray ∧ vs.length = 32 ∧ PolOk (fun b => w.heap.size ≤ b) w' vs (polysTo secret seed need 32) ∧ Kept w w') := by
 refine fn_body (l := [.agg (bs secret).toArray, i64 (need : Nat), .agg (bs seed).toArray, .bool false]) 37 [.cell 8 64] Tryz.func24 rfl Tryz.ntmps24 (Nat.le_of_ble_eq_true rfl) (by rw [Tryz.results24]) ?_
 refine go_seq ?_
 refine go_region 3 rfl rfl ?_
 refine s_do rfl rfl (w_boxA rfl) rfl ?_
 rintro _ w1 ⟨b2, rfl, hl_b2, hu_b2, p3, c_w1⟩
 have hs_w1 : w.heap.size ≤ w1.heap.size := Chg.size c_w1
 have C_w1 := Chg.pure (Chg.refl no w) c_w1
 have hn_b2 : w.heap.size ≤ b2 := by have := Chg.size C_w1; omega
 refine s_do rfl rfl (w_boxA rfl) rfl ?_
 rintro _ w4 ⟨b5, rfl, hl_b5, hu_b5, p6, c_w4⟩
 have hs_w4 : w1.heap.size ≤ w4.heap.size := Chg.size c_w4
 replace p3 := p3.k c_w4
 have C_w4 := Chg.pure C_w1 c_w4
 have hn_b5 : w.heap.size ≤ b5 := by have := Chg.size C_w4; omega
 refine s_do rfl rfl (w_alloc (List.replicate 32 (.slice none 0 0)) Tryz.zeroValue64 (by kernel_rfl)) rfl ?_
 rintro _ w7 ⟨b8, rfl, hl_b8, hu_b8, p9, c_w7⟩
 have hs_w7 : w4.heap.size ≤ w7.heap.size := Chg.size c_w7
 replace p3 := p3.k c_w7
 replace p6 := p6.k c_w7
 have C_w7 := Chg.pure C_w4 c_w7
 have hn_b8 : w.heap.size ≤ b8 := by have := Chg.size C_w7; omega
 refine s_end ?_
 refine go_seq ?_
 refine go_region 1 rfl rfl ?_
 refine s_do rfl rfl (w_alloc (List.replicate 32 (.slice none 0 0)) Tryz.zeroValue64 (by kernel_rfl)) rfl ?_
 rintro _ w10 ⟨b11, rfl, hl_b11, hu_b11, p12, c_w10⟩
 have hs_w10 : w7.heap.size ≤ w10.heap.size := Chg.size c_w10
 replace p3 := p3.k c_w10
 replace p6 := p6.k c_w10
 replace p9 := p9.k c_w10
 have C_w10 := Chg.pure C_w7 c_w10
 have hn_b11 : w.heap.size ≤ b11 := by have := Chg.size C_w10; omega
 refine s_end ?_
 refine go_seq ?_
 refine go_seq ?_
 refine go_region 1 rfl rfl ?_
 refine s_val rfl rfl (r_move) rfl ?_
 refine s_end ?_
 refine go_block ?_
 refine go_loopM (σ := Nat × List Value) [(10, 35)] (fun (x_ : Nat × List Value) e' w' => match x_ with | (k, vs) => e' 13 = i64 (k : Nat) ∧ k ≤ 32 ∧ vs.length = 32 ∧ Pc w' b11 0 vs ∧ PolOk (fun b_ => w10.heap.size ≤ b_) w' vs (polysTo secret seed need k) ∧ b11 < w10.heap.size ∧ w10.heap.size ≤ w'.heap.size ∧ Pc w' b8 0 (List.replicate 32 (.slice none 0 0)) ∧ b8 < w10.heap.size ∧ Pc w' b2 0 (bs secret) ∧ b2 < w'.heap.size ∧ Pc w' b5 0 (bs seed) ∧ b5 < w'.heap.size ∧ Chg no w w') (fun (x_ : Nat × List Value) => match x_ with | (k, vs) => 32 - k) (0, List.replicate 32 (.slice none 0 0)) ?_ ?_
 ·exact ⟨rfl, by omega, by simp, p12, PolOk.start _ 32, by omega, by omega, p9, by omega, p3, by omega, p6, by omega, C_w10⟩
 rintro ⟨k, vs⟩ f14 w13 ⟨e15, hk1, hvl, hP9, hpol, hu9, hcw, hP8, hu8, p3, hu_b2, p6, hu_b5, C_w13⟩
 have ob_17 : ∃ g_, f14 = upd g_ 13 (i64 (k : Nat)) := ⟨f14, upd_id e15⟩
 obtain ⟨f16, rfl⟩ := ob_17
 clear e15
 have hs_w13 : w.heap.size ≤ w13.heap.size := Chg.size C_w13
 have hpolQ_ := hpol
 replace hpol := hpol.mono (Q' := fun b_ => w10.heap.size ≤ b_ ∧ b_ < w13.heap.size) (fun b_ h_ h2_ => ⟨h2_, h_⟩)
 refine go_seq ?_
 refine go_region 1 rfl rfl ?_
 refine s_val rfl rfl (r_lss rfl rfl) rfl ?_
 refine s_end ?_
 refine go_seq ?_
 refine go_ifb _ rfl (fun h1 => ?_) (fun h1 => ?_)
 ·first | replace h1 := dcT h1 | replace h1 := dcF (nt h1) | skip
  refine go_skip ?_
  refine go_seq ?_
  refine go_block ?_
  refine go_seq ?_
  refine go_region 2 rfl rfl ?_
  refine s_val rfl rfl (r_move) rfl ?_
  refine s_val rfl rfl (r_assign) rfl ?_
  refine s_end ?_
  refine go_seq ?_
  refine go_region 1 rfl rfl ?_
  refine s_do rfl rfl (w_alloc (bs (List.replicate 16 0)) Tryz.zeroValue89 (by kernel_rfl)) rfl ?_
  rintro _ w18 ⟨b19, rfl, hl_b19, hu_b19, p20, c_w18⟩
  have hs_w18 : w13.heap.size ≤ w18.heap.size := Chg.size c_w18
  replace hP9 := hP9.k c_w18
  replace hpol := hpol.k c_w18
  replace hP8 := hP8.k c_w18
  replace p3 := p3.k c_w18
  replace p6 := p6.k c_w18
  have C_w18 := Chg.pure C_w13 c_w18
  have hn_b19 : w.heap.size ≤ b19 := by have := Chg.size C_w18; omega
  refine s_end ?_
  refine go_seq ?_
  refine go_region 4 rfl rfl ?_
  refine s_val rfl rfl (r_move) rfl ?_
  refine s_val rfl rfl (r_conv_u8 Tryz.runUnderlying3 Tryz.runUnderlying5 rfl) rfl ?_
  refine s_val rfl rfl (r_indexArr (k := 15) Tryz.runUnderlying89 Tryz.sizeOf5 rfl rfl (by first | rfl | omega) (by first | decide | omega)) rfl ?_
  refine s_do rfl rfl (w_set_b (o := 0) (k := 15) Tryz.sizeOf5 rfl rfl p20 (by first | omega | (simp; try omega))) rfl ?_
  rintro _ w21 ⟨q_w21, c_w21⟩
  have hs_w21 : w18.heap.size ≤ w21.heap.size := Chg.size c_w21
  replace hP9 := hP9.kb c_w21 (by omega)
  replace hpol := hpol.kb c_w21 (fun h_ => by first | omega | (simp only at h_; omega))
  replace hP8 := hP8.kb c_w21 (by omega)
  replace p3 := p3.kb c_w21 (by omega)
  replace p6 := p6.kb c_w21 (by omega)
  have C_w21 := Chg.newRng C_w18 c_w21 (by omega)
  have p20 := q_w21
  refine s_end ?_
  refine go_seq ?_
  refine go_region 5 rfl rfl ?_
  refine s_val rfl rfl (r_move) rfl ?_
  refine s_val rfl rfl (r_indexArr (k := k) Tryz.runUnderlying23 Tryz.sizeOf5 rfl rfl (by first | rfl | omega) (by first | decide | omega)) rfl ?_
  refine s_val rfl rfl (r_load1 Tryz.isAgg5 rfl (Rd.at1 p3.rd (bs_get (by first | omega | (simp; try omega))))) rfl ?_
  refine s_val rfl rfl (r_conv_u8F Tryz.runUnderlying5 Tryz.runUnderlying3 rfl) rfl ?_
  refine s_val rfl rfl (r_assign) rfl ?_
  refine s_end ?_
  refine go_seq ?_
  refine go_seq ?_
  refine go_region 1 rfl rfl ?_
  refine s_val rfl rfl (r_move) rfl ?_
  refine s_end ?_
  refine go_false rfl ?_
  refine go_skip ?_
  refine go_region 11 rfl rfl ?_
  refine s_val rfl rfl (r_move) rfl ?_
  refine s_val rfl rfl (r_move) rfl ?_
  refine s_do rfl rfl (w_build1 (v := (i64 ((((fI (((secret.getD k 0).toNat : Nat) : Int)).val : Nat) : Int)))) (E := 3) Tryz.underlying63 (i := Tryz.t3) (by kernel_rfl) rfl rfl rfl rfl rfl) rfl ?_
  rintro _ w22 ⟨b23, rfl, hl_b23, hu_b23, o25, p24, c_w22⟩
  have hs_w22 : w21.heap.size ≤ w22.heap.size := Chg.size c_w22
  replace hP9 := hP9.k c_w22
  replace hpol := hpol.k c_w22
  replace hP8 := hP8.k c_w22
  replace p3 := p3.k c_w22
  replace p6 := p6.k c_w22
  replace p20 := p20.k c_w22
  have C_w22 := Chg.pure C_w21 c_w22
  have hn_b23 : w.heap.size ≤ b23 := by have := Chg.size C_w22; omega
  replace o25 : Owns w22 w21.heap.size 3 1 (.slice (some ⟨b23, 0, none⟩) 1 1) 1 (fs [(fI (((secret.getD k 0).toNat : Nat) : Int))]) := o25
  clear p24
  refine s_val rfl rfl (r_loadN Tryz.isAgg23 Tryz.sizeOf23 rfl p6.rd (bs_len (by first | omega | (simp; try omega)))) rfl ?_
  rw [nonceO_eq] at p20
  refine s_val rfl rfl (r_loadN Tryz.isAgg89 Tryz.sizeOf89 rfl p20.rd (bs_len (nonceO_length k))) rfl ?_
  refine s_val rfl rfl (r_move) rfl ?_
  refine s_val rfl rfl (r_subN (m := need - 1) rfl rfl (by omega) (by omega)) rfl ?_
  have hcall_ := numbersOf_spec seed (nonceO k) (need - 1) w22 hs (nonceO_length k) (by omega)
  refine s_do rfl rfl (w_call Tryz.call48 rfl hcall_) rfl ?_
  rintro v28 w26 ⟨o27, c_w26⟩
  clear hcall_
  have hs_w26 : w22.heap.size ≤ w26.heap.size := Chg.size c_w26
  replace hP9 := hP9.k c_w26
  replace hpol := hpol.k c_w26
  replace hP8 := hP8.k c_w26
  replace p3 := p3.k c_w26
  replace p6 := p6.k c_w26
  replace p20 := p20.k c_w26
  replace o25 := o25.k c_w26
  have C_w26 := Chg.pure C_w22 c_w26
  have hfo_o27 := Owns.form2 o27
  obtain ⟨A29, cap30, e_o27, hc_cap30⟩ := hfo_o27
  subst e_o27
  replace o27 := Owns.sl o27
  have hnl_o27 := numsL_len (B := blkB seed (nonceO k)) (fun q_ => blkB_length _ _ q_) (fun i_ j_ hi_ hj_ h_ => blkB_inj hs (nonceO_length k) hi_ hj_ h_) (many := (need - 1)) (by omega)
  refine s_do rfl rfl (w_append (E := 3) (sz := 1) Tryz.underlying63 rfl (i := Tryz.t3) (by kernel_rfl) rfl rfl rfl rfl (by rfl) o25 rfl o27 (by rw [fs_length]; omega) (flat_fs _) (by omega) (by show _ * 8 ≤ _; omega) (by omega)) rfl ?_
  rintro v35 w31 ⟨o32, c_w31⟩
  have hs_w31 : w26.heap.size ≤ w31.heap.size := Chg.size c_w31
  replace hP9 := hP9.kob c_w31 (Owns.ne_lt o25 (by omega))
  replace hpol := hpol.kob c_w31 (fun b_ h_ => Owns.ne_lt o25 (by first | omega | (simp only at h_; omega)))
  replace hP8 := hP8.kob c_w31 (Owns.ne_lt o25 (by omega))
  replace p3 := p3.kob c_w31 (Owns.ne_lt o25 (by omega))
  replace p6 := p6.kob c_w31 (Owns.ne_lt o25 (by omega))
  replace p20 := p20.kob c_w31 (Owns.ne_lt o25 (by omega))
  have C_w31 := Chg.newOb C_w26 c_w31 o25 (by omega)
  have hfo_o32 := Owns.form2 o32
  obtain ⟨A33, cap34, e_o32, hc_cap34⟩ := hfo_o32
  subst e_o32
  refine s_val rfl rfl (r_indexArr (k := k) Tryz.runUnderlying64 Tryz.sizeOf63 rfl rfl (by first | rfl | omega) (by first | decide | omega)) rfl ?_
  refine s_do rfl rfl (w_set_one (k := k) (v := (Value.slice A33 (1 + (need - 1)) cap34)) (cs := vs) Tryz.sizeOf63 rfl rfl rfl rfl hP9 (by first | omega | (simp; omega))) rfl ?_
  rintro _ w36 ⟨q_w36, c_w36⟩
  have hs_w36 : w31.heap.size ≤ w36.heap.size := Chg.size c_w36
  replace hpol := hpol.kb c_w36 (fun h_ => by first | omega | (simp only at h_; omega))
  replace hP8 := hP8.kb c_w36 (by omega)
  replace p3 := p3.kb c_w36 (by omega)
  replace p6 := p6.kb c_w36 (by omega)
  replace p20 := p20.kb c_w36 (by omega)
  replace o32 := o32.kb c_w36 (Owns.ne_lt o32 (by omega))
  have C_w36 := Chg.newRng C_w31 c_w36 (by omega)
  have hP9 := q_w36
  have hpol1 := hpol.mono (Q' := fun b_ => w10.heap.size ≤ b_) (fun b_ _ h_ => h_.1)
  have hpl_ : (polyL (fI (((secret.getD k 0).toNat : Nat) : Int)) seed k need).length = 1 + (need - 1) := by rw [polyL_length hs h0 hb]; omega
  have hsP_ : SlAt w36 A33 (fs (polyL (fI (((secret.getD k 0).toNat : Nat) : Int)) seed k need)) := Owns.sl o32
  have hpol2 := hpol1.set (k := k) (a := A33) (n := 1 + (need - 1)) (c := cap34) (p := polyL (fI (((secret.getD k 0).toNat : Nat) : Int)) seed k need) hpl_ (by omega) (fun x_ hx_ => ⟨by have h1_ := Owns.lo o32 x_ hx_; omega, SlAt.blk hsP_ (fs_ne (by omega)) x_ hx_⟩) hsP_
  refine s_end ?_
  refine go_nil (block_normal ?_)
  refine go_region 2 rfl rfl ?_
  refine s_val rfl rfl (r_addi rfl rfl (by omega)) rfl ?_
  refine s_val rfl rfl (r_move) rfl ?_
  refine s_end ?_
  refine go_nil (loop_normal ⟨⟨(k + 1, (vs.set k (Value.slice A33 (1 + (need - 1)) cap34))), by first | omega | (dsimp only; omega), ⟨rfl, by omega, by rw [List.length_set]; exact hvl, hP9, hpol2, by omega, by omega, hP8, by omega, p3, by omega, p6, by omega, C_w36⟩⟩, (by repeat (first | exact same_refl | exact same_over | refine same_upd rfl ?_ | refine same_over2 rfl ?_))⟩)
 ·first | replace h1 := dcF h1 | replace h1 := dcT (nf h1) | skip
  have ob_37 : k = 32 := by omega
  obtain rfl := ob_37
  refine go_exit (loop_exit (block_hit ?_))
  refine go_seq ?_
  refine go_region 2 rfl rfl ?_
  refine s_val rfl rfl (r_loadN Tryz.isAgg64 Tryz.sizeOf64 rfl hP9.rd (by first | exact hvl | simp)) rfl ?_
  refine s_do rfl rfl (w_storeA (o := 0) Tryz.sizeOf64 rfl rfl (by first | exact hvl | simp) (polFlat hpol) hP8 (by first | exact hvl | simp)) rfl ?_
  rintro _ w38 ⟨q_w38, c_w38⟩
  have hs_w38 : w13.heap.size ≤ w38.heap.size := Chg.size c_w38
  replace hP9 := hP9.kb c_w38 (by omega)
  replace hpol := hpol.kb c_w38 (fun h_ => by first | omega | (simp only at h_; omega))
  replace p3 := p3.kb c_w38 (by omega)
  replace p6 := p6.kb c_w38 (by omega)
  have C_w38 := Chg.newRng C_w13 c_w38 (by omega)
  have hP8 := q_w38
  refine s_end ?_
  refine go_ret ?_
  refine ⟨_, .cons ⟨_, rfl, run_load_agg Tryz.isAgg64 Tryz.sizeOf64 (by first | exact hvl | simp) hP8.rd⟩ (.nil), ?_⟩
  exact ⟨vs, rfl, hvl, hpol.mono (fun b_ _ h_ => by first | omega | (simp only at h_ ⊢; omega)), C_w38⟩
end Go.Proofs.YtippcmedgfmgbaaGreat
end
section
open Go Go.Eng Go.Proofs
namespace Go.Proofs.YtippcmedgfmgbaaGreat
theorem built_16 (b0 b1 b2 b3 b4 b5 b6 b7 b8 b9 b10 b11 b12 b13 b14 b15 : UInt8) (q : Int) : Tryz.prog.built 40 [(0, .agg (bs [b0, b1, b2, b3, b4, b5, b6, b7, b8, b9, b10, b11, b12, b13, b14, b15]).toArray), (1, i64 q)] = some (bs [b0, b1, b2, b3, b4, b5, b6, b7, b8, b9, b10, b11, b12, b13, b14, b15] ++ (i64 q :: us (List.replicate 32 0))).toArray := by kernel_rfl
theorem built_shr {h : List UInt8} (hl : h.length = 16) {q : Int} {z : F} (hz : q = ((z.val : Nat) : Int)) : Tryz.prog.built 40 [(0, .agg (bs h).toArray), (1, i64 q)] = some (scell ⟨h, z, List.replicate 32 0⟩).toArray := by
  subst hz
  match h, hl with
  | [b0, b1, b2, b3, b4, b5, b6, b7, b8, b9, b10, b11, b12, b13, b14, b15], _ => exact built_16 b0 b1 b2 b3 b4 b5 b6 b7 b8 b9 b10 b11 b12 b13 b14 b15 _
end Go.Proofs.YtippcmedgfmgbaaGreat
namespace Go.Eng
open Go.Proofs.YtippcmedgfmgbaaGreat
theorem madeCells_rep (z : Array Value) (h0 : 0 < z.size) : ∀ n, (madeCells z (n * z.size)).toList = (List.replicate n z.toList).flatten
  | 0 => by simp [madeCells]
  | n + 1 => by
    have ih := madeCells_rep z h0 n
    have e : ∀ m, (madeCells z m).toList = (List.range m).map fun j => z[j % z.size]! := fun m => by simp [madeCells, Array.toList_range]
    rw [e] at ih ⊢
    rw [show (n + 1) * z.size = n * z.size + z.size by rw [Nat.succ_mul], List.range_add, List.map_append, ih, List.replicate_succ', List.flatten_append, List.map_map]
    congr 1
    rw [List.flatten_singleton]
    apply List.ext_getElem (by simp)
    intro i h1 h2
    have hi : i < z.size := by simpa using h2
    simp only [List.getElem_map, List.getElem_range, Function.comp, Nat.mul_add_mod_self_right, Nat.mod_eq_of_lt hi]
    rw [getElem!_pos z i hi]
    simp
variable {P : Program} {w : World} {e : Env} {d : Option Nat} {ty : TypeId} {pos : String} {aft : Array Edge} {g : Option (Nat × Bool)}
/-- make([]share, n) -/
theorem w_makeS {t : TypeId} {x y : Operand} {E : TypeId} {i : TypeInfo} {z : Value} {a b : Int} {n : Nat} (hu : P.underlying t = some (.slice E)) (hi : P.info? E = some i) (hz : i.zero = some z) (hsz : i.size = 49) (hzs : z.cells = (scell shr0).toArray)
    (hx : ev e x = i64 a) (hy : ev e y = i64 b) (ha : a = n) (hb : b = n) (hby : n * i.bytes ≤ 281474976710656) (hc : n ≤ 4611686018427387904) :
    OpWp P ⟨d, .makeSlice t x y, ty, pos, aft, g⟩ e w (fun v w' => ∃ bk, v = .slice (some ⟨bk, 0, none⟩) n n ∧ w.heap.size ≤ bk ∧ bk < w'.heap.size ∧ Pc w' bk 0 (scells (List.replicate n shr0)) ∧ Kept w w') := by
  subst ha; subst hb
  have hr := run_make (P := P) w t E i z hu hi hz .i64 .i64 n n (by omega) (by omega) (by rw [← Int.natCast_mul, Nat.mul_comm]; exact Int.ofNat_le.2 hby) (by omega)
  have hs49 : (scell shr0).toArray.size = 49 := by simp [scell_len shr0_ok]
  rw [Int.toNat_natCast, hsz, hzs] at hr
  unfold OpWp
  have : (execOp (ev e) ⟨d, .makeSlice t x y, ty, pos, aft, g⟩).run P w = .ok (.value (.slice (some ⟨w.heap.size, 0, none⟩) n n)) (w.alloc (.cells (madeCells (scell shr0).toArray (n * 49)) E)) := by
    simp only [execOp, hx, hy, Sem.run_bind, hr, Result.andThen_ok, Sem.run_pure]
  rw [this]
  have hl := madeCells_rep (scell shr0).toArray (by rw [hs49]; decide) n
  rw [hs49] at hl
  have hl2 : (List.replicate n (scell shr0).toArray.toList).flatten = scells (List.replicate n shr0) := by
    simp [scells, List.flatMap, List.map_replicate]
  refine ⟨_, rfl, Nat.le_refl _, by simp, ?_, chg_alloc _ _⟩
  have := pc_alloc w (madeCells (scell shr0).toArray (n * 49)) E
  rwa [hl, hl2] at this
end Go.Eng
namespace Go.Eng
open Go.Proofs.YtippcmedgfmgbaaGreat
variable {w w' : World}
/-- a whole share is written among shares -/
theorem Pc.shrSet {b k : Nat} {L : List Shr} {s : Shr} (h : Pc w b 0 (scells L)) (hL : AllS L) (hs : SOk s) (hk : k < L.length) (c : Chg (rng b (0 + k * 49) 49) w w') (hp : Pc w' b (0 + k * 49) (scell s)) : Pc w' b 0 (scells (L.set k s)) := by
  have e : scells (L.set k s) = (scells L).take (k * 49) ++ (scell s ++ (scells L).drop (k * 49 + 49)) := by
    rw [scells_take k hL, show k * 49 + 49 = (k + 1) * 49 by omega, scells_drop (k + 1) hL, ← scells_one, ← scells_app, ← scells_app]
    congr 1
    rw [List.set_eq_take_append_cons_drop, if_pos hk]
    rfl
  have hl := scells_len hL
  have h1 := h.sub 0 (k * 49)
  rw [List.drop_zero] at h1
  have h2 := h.sub (k * 49 + 49) ((scells L).length)
  rw [List.take_of_length_le (by rw [List.length_drop]; omega)] at h2
  have k1 := h1.ko c (.inl (by rw [List.length_take]; omega))
  have k2 := h2.ko c (.inr (by omega))
  rw [e]
  refine Pc.app k1 ?_
  rw [List.length_take, hl, show min (k * 49) (L.length * 49) = k * 49 from Nat.min_eq_left (by have := Nat.mul_le_mul_right 49 (Nat.le_of_lt hk); omega)]
  refine Pc.app hp ?_
  rw [scell_len hs]
  have e2 : 0 + (k * 49 + 49) = 0 + k * 49 + 49 := by omega
  rw [e2] at k2
  exact k2
variable {P : Program} {e : Env} {d : Option Nat} {ty : TypeId} {pos : String} {aft : Array Edge} {g : Option (Nat × Bool)}
theorem w_setShr {T : TypeId} {x y : Operand} {b k : Nat} {s : Shr} {L : List Shr} (hsz : ∀ w, (sizeOf T).run P w = .ok 49 w) (hx : ev e x = .pointer (some ⟨b, 0 + k * 49, none⟩)) (hy : ev e y = .agg (scell s).toArray) (hp : Pc w b 0 (scells L)) (hL : AllS L) (hs : SOk s) (hk : k < L.length) :
    OpWp P ⟨d, .store T x y, ty, pos, aft, g⟩ e w (fun _ w' => Pc w' b 0 (scells (L.set k s)) ∧ Chg (rng b 0 (L.length * 49)) w w') := by
  have := w_storeA (d := d) (ty := ty) (pos := pos) (aft := aft) (g := g) (o := 0 + k * 49) hsz hx hy (scell_len hs) (flat_scell s) (hp.shr hL hk) (scell_len (hL.get k))
  unfold OpWp at *
  generalize (execOp (ev e) ⟨d, .store T x y, ty, pos, aft, g⟩).run P w = r at *
  have key : ∀ w', Pc w' b (0 + k * 49) (scell s) ∧ Chg (rng b (0 + k * 49) 49) w w' → Pc w' b 0 (scells (L.set k s)) ∧ Chg (rng b 0 (L.length * 49)) w w' := fun w' ⟨h1, h2⟩ =>
    ⟨hp.shrSet hL hs hk h2 h1, h2.mono fun b' o' _ m => ⟨m.1, by omega, by have := m.2; have := Nat.mul_le_mul_right 49 (Nat.succ_le_of_lt hk); omega⟩⟩
  cases r with
  | ok nx w' =>
    cases nx with
    | value v => exact key _ this
    | skip => exact key _ this
    | enter f args => exact (Rtn.mono this fun _ w' h => key w' h)
    | row row args => exact (Rows.mono this fun _ w' h => key w' h)
    | _ => exact (this : False).elim
  | halt x w' => exact (this : False).elim
theorem w_setShrY {T : TypeId} {x y : Operand} {b k j : Nat} {z : F} {L : List Shr} (hsz : ∀ w, (sizeOf T).run P w = .ok 1 w) (hx : ev e x = .pointer (some ⟨b, 0 + k * 49 + 17 + j * 1, none⟩)) (hy : ev e y = uf z) (hp : Pc w b 0 (scells L)) (hL : AllS L) (hk : k < L.length) (hj : j < 32) :
    OpWp P ⟨d, .store T x y, ty, pos, aft, g⟩ e w (fun _ w' => Pc w' b 0 (scells (L.set k ((L.getD k shr0).put j z))) ∧ Chg (rng b 0 (L.length * 49)) w w') := by
  have hl := scells_len hL
  rw [show 0 + k * 49 + 17 + j * 1 = 0 + (k * 49 + 17 + j) * 1 by omega] at hx
  have := w_set_one (d := d) (ty := ty) (pos := pos) (aft := aft) (g := g) hsz hx hy rfl rfl hp (by have := Nat.mul_le_mul_right 49 (Nat.succ_le_of_lt hk); omega)
  rw [scells_put hL hk j hj z, hl] at this
  exact this
end Go.Eng
namespace Go.Eng
open Go.Proofs.YtippcmedgfmgbaaGreat
def All16 (L : List (List UInt8)) : Prop := ∀ x ∈ L, x.length = 16
theorem All16.get {L : List (List UInt8)} (h : All16 L) {k : Nat} (hk : k < L.length) : (L.getD k []).length = 16 := by
  rw [List.getD_eq_getElem?_getD, List.getElem?_eq_getElem hk]
  exact h _ (List.getElem_mem hk)
theorem All16.tail {x : List UInt8} {L : List (List UInt8)} (h : All16 (x :: L)) : All16 L := fun y hy => h y (by simp [hy])
theorem All16.len {L : List (List UInt8)} (h : All16 L) : L.flatten.length = 16 * L.length := by
  induction L with
  | nil => rfl
  | cons x L ih => rw [List.flatten_cons, List.length_append, h x (by simp), ih h.tail, List.length_cons]; omega
theorem drop_flat16 : ∀ {L : List (List UInt8)} (k : Nat), All16 L → L.flatten.drop (k * 16) = (L.drop k).flatten
  | [], k, _ => by simp
  | x :: L, 0, _ => by simp
  | x :: L, k + 1, h => by
    have hx := h x (by simp)
    rw [List.flatten_cons, List.drop_append, List.drop_eq_nil_of_le (by omega), List.nil_append, List.drop_succ_cons, ← drop_flat16 k h.tail, hx]
    congr 1; omega
theorem hold_get {L : List (List UInt8)} (h : All16 L) {k : Nat} (hk : k < L.length) : ((bs L.flatten).drop (k * 16)).take 16 = bs (L.getD k []) := by
  rw [bs_sub, drop_flat16 k h]
  have : L.drop k = L.getD k [] :: L.drop (k + 1) := by
    rw [List.drop_eq_getElem_cons hk, List.getD_eq_getElem?_getD, List.getElem?_eq_getElem hk]; rfl
  rw [this, List.flatten_cons, List.take_append, List.take_of_length_le (by rw [h.get hk]; omega), h.get hk]
  simp
theorem Rd.hold {w : World} {b o k : Nat} {L : List (List UInt8)} (h : Rd w b o (bs L.flatten)) (h16 : All16 L) (hk : k < L.length) : Rd w b (o + k * 16) (bs (L.getD k [])) := by
  have := h.sub (k * 16) 16
  rwa [hold_get h16 hk] at this
theorem AllS.rep (n : Nat) : AllS (List.replicate n shr0) := fun s hs => by rw [(List.mem_replicate.1 hs).2]; exact shr0_ok
/-- the shares that are begun -/
def initTo (H : List (List UInt8)) (n : Nat) : Nat → List Shr
  | 0 => List.replicate n shr0
  | k + 1 => (initTo H n k).set k ⟨H.getD k [], fI ((k + 1 : Nat) : Int), List.replicate 32 0⟩
@[simp] theorem initTo_length (H : List (List UInt8)) (n : Nat) : ∀ k, (initTo H n k).length = n
  | 0 => by simp [initTo]
  | k + 1 => by rw [initTo, List.length_set, initTo_length H n k]
theorem initTo_ok {H : List (List UInt8)} {n : Nat} (h16 : All16 H) (hn : H.length = n) : ∀ k, k ≤ n → AllS (initTo H n k)
  | 0, _ => AllS.rep n
  | k + 1, hk => (initTo_ok h16 hn k (by omega)).set k ⟨h16.get (by omega), by simp⟩
/-- the values of an octet are put in, so far -/
def putTo (L : List Shr) (o : Nat) (p : List F) : Nat → List Shr
  | 0 => L
  | k + 1 => (putTo L o p k).set k (((putTo L o p k).getD k shr0).put o (Go.Proofs.YtippcmedgfmgbaaGreat.ev p ((putTo L o p k).getD k shr0).x))
@[simp] theorem putTo_length (L : List Shr) (o : Nat) (p : List F) : ∀ k, (putTo L o p k).length = L.length
  | 0 => rfl
  | k + 1 => by rw [putTo, List.length_set, putTo_length L o p k]
theorem putTo_ok {L : List Shr} (h : AllS L) (o : Nat) (p : List F) : ∀ k, AllS (putTo L o p k)
  | 0 => h
  | k + 1 => (putTo_ok h o p k).set k (Shr.put_ok ((putTo_ok h o p k).get k) _ _)
/-- all octets so far -/
def valTo (P : Nat → List F) (S : List Shr) : Nat → List Shr
  | 0 => S
  | o + 1 => putTo (valTo P S o) o (P o) S.length
@[simp] theorem valTo_length (P : Nat → List F) (S : List Shr) : ∀ o, (valTo P S o).length = S.length
  | 0 => rfl
  | o + 1 => by rw [valTo, putTo_length, valTo_length P S o]
theorem valTo_ok {P : Nat → List F} {S : List Shr} (h : AllS S) : ∀ o, AllS (valTo P S o)
  | 0 => h
  | o + 1 => putTo_ok (valTo_ok h o) o _ _
theorem valTo_next {n : Nat} {P : Nat → List F} {S : List Shr} {o : Nat} (h : S.length = n) : putTo (valTo P S o) o (P o) n = valTo P S (o + 1) := by subst h; rfl
end Go.Eng
end
section
open Go Go.Proofs Go.Proofs.YtippcmedgfmgbaaGreat
namespace Go.Eng
/-- one share, its octets put in so far -/
def putsTo (P : Nat → List F) (s : Shr) : Nat → Shr
  | 0 => s
  | o + 1 => (putsTo P s o).put o (Go.Proofs.YtippcmedgfmgbaaGreat.ev (P o) (putsTo P s o).x)
theorem getD_set_shr (L : List Shr) (k i : Nat) (s : Shr) : (L.set k s).getD i shr0 = if k = i ∧ i < L.length then s else L.getD i shr0 := by
  rw [List.getD_eq_getElem?_getD, List.getElem?_set, List.getD_eq_getElem?_getD]
  by_cases h : k = i
  · subst h
    by_cases h2 : k < L.length
    · simp [h2]
    · simp [h2]
  · simp [h]
theorem putTo_get (L : List Shr) (o : Nat) (p : List F) (i : Nat) (hi : i < L.length) : ∀ k, (putTo L o p k).getD i shr0 = if i < k then (L.getD i shr0).put o (Go.Proofs.YtippcmedgfmgbaaGreat.ev p (L.getD i shr0).x) else L.getD i shr0
  | 0 => by rw [putTo, if_neg (by omega)]
  | k + 1 => by
    rw [putTo, getD_set_shr, putTo_length]
    by_cases h : k = i
    · subst h
      rw [if_pos ⟨rfl, hi⟩, if_pos (by omega), putTo_get L o p k hi k, if_neg (by omega)]
    · rw [if_neg (by omega), putTo_get L o p i hi k]
      by_cases h2 : i < k
      · rw [if_pos h2, if_pos (by omega)]
      · rw [if_neg h2, if_neg (by omega)]
theorem valTo_get (P : Nat → List F) (S : List Shr) (i : Nat) (hi : i < S.length) : ∀ o, (valTo P S o).getD i shr0 = putsTo P (S.getD i shr0) o
  | 0 => rfl
  | o + 1 => by
    rw [valTo, putTo_get _ _ _ i (by rw [valTo_length]; exact hi), if_pos hi, valTo_get P S i hi o]; rfl
theorem initTo_get (H : List (List UInt8)) (n i : Nat) (hi : i < n) : ∀ k, i < k → (initTo H n k).getD i shr0 = ⟨H.getD i [], fI ((i + 1 : Nat) : Int), List.replicate 32 0⟩
  | 0, h => absurd h (by omega)
  | k + 1, h => by
    rw [initTo, getD_set_shr, initTo_length]
    by_cases e : k = i
    · subst e; rw [if_pos ⟨rfl, hi⟩]
    · rw [if_neg (by omega)]; exact initTo_get H n i hi k (by omega)
/-- the share of one holder -/
def shareOf (P : Nat → List F) (H : List (List UInt8)) (i : Nat) : Shr := putsTo P ⟨H.getD i [], fI ((i + 1 : Nat) : Int), List.replicate 32 0⟩ 32
/-- the shares are the holders' -/
theorem valTo_eq (P : Nat → List F) (H : List (List UInt8)) (n : Nat) : valTo P (initTo H n n) 32 = (List.range n).map (shareOf P H) := by
  apply List.ext_getElem
  · simp
  · intro i h1 h2
    have hi : i < n := by simpa using h1
    have := valTo_get P (initTo H n n) i (by simpa using hi) 32
    rw [initTo_get H n i hi n hi, List.getD_eq_getElem?_getD, List.getElem?_eq_getElem h1, Option.getD_some] at this
    rw [this]; simp [shareOf]
end Go.Eng
end
section
open Go Go.Proofs Go.Eng
namespace Go.Proofs.YtippcmedgfmgbaaGreat
theorem polysTo_len (secret seed : List UInt8) (need : Nat) : ∀ k, (polysTo secret seed need k).length = 32
  | 0 => by simp [polysTo]
  | k + 1 => by rw [polysTo, List.length_set, polysTo_len secret seed need k]
theorem polysTo_get (secret seed : List UInt8) (need o : Nat) (ho : o < 32) : ∀ k, o < k → (polysTo secret seed need k).getD o [] = polyL (fI (((secret.getD o 0).toNat : Nat) : Int)) seed o need
  | 0, h => absurd h (by omega)
  | k + 1, h => by
    rw [polysTo, List.getD_eq_getElem?_getD, List.getElem?_set, polysTo_len]
    by_cases e : k = o
    · subst e; rw [if_pos rfl, if_pos ho]; rfl
    · rw [if_neg e, ← List.getD_eq_getElem?_getD]; exact polysTo_get secret seed need o ho k (by omega)
end Go.Proofs.YtippcmedgfmgbaaGreat
namespace Go.Eng
open Go.Proofs.YtippcmedgfmgbaaGreat
theorem putsTo_congr {P Q : Nat → List F} (s : Shr) : ∀ o, (∀ i, i < o → P i = Q i) → putsTo P s o = putsTo Q s o
  | 0, _ => rfl
  | o + 1, h => by rw [putsTo, putsTo, putsTo_congr s o (fun i hi => h i (by omega)), h o (by omega)]
end Go.Eng
end
section
open Go Go.Eng Go.Proofs
namespace Go.Proofs.YtippcmedgfmgbaaGreat
open Go.Lib
theorem run_loadBytes {P : Program} {w : World} : ∀ (l : List UInt8) (b o : Nat) (acc : List UInt8), Rd w b o (bs l) → (Extern.Bytes.loadBytes ⟨b, o, none⟩ l.length ⟨acc.toArray⟩).run P w = .ok ⟨(acc ++ l).toArray⟩ w
  | [], b, o, acc, _ => by simp [Extern.Bytes.loadBytes]
  | x :: l, b, o, acc, h => by
    have h0 := h 0 (u8 x) rfl
    rw [Nat.add_zero] at h0
    have h1 : Rd w b (o + 1) (bs l) := by
      have := Rd.right (c1 := [u8 x]) (c2 := bs l) h
      simpa using this
    have ih := run_loadBytes (P := P) (w := w) l b (o + 1) (acc ++ [x]) h1
    have hl : (load (⟨b, o, none⟩ : Addr)).run P w = .ok (u8 x) w := by simp only [load, Sem.run, h0]
    have hx : (x.toNat : Int).toNat.toUInt8 = x := by simp
    have ha : (⟨b, o, none⟩ : Addr).add 1 = ⟨b, o + 1, none⟩ := add_none b o 1
    simp only [List.length_cons, Extern.Bytes.loadBytes, Sem.run_bind, hl, Result.andThen_ok, hx, ha]
    have hp : (⟨acc.toArray⟩ : ByteArray).push x = ⟨(acc ++ [x]).toArray⟩ := by
      simp [ByteArray.push]
    rw [hp, ih]
    simp
theorem run_compareSl {P : Program} {w : World} {l m : List UInt8} {b1 o1 c1 b2 o2 c2 : Nat} (h1 : Rd w b1 o1 (bs l)) (h2 : Rd w b2 o2 (bs m)) :
    (Extern.BytealgCompare.compare #[.slice (some ⟨b1, o1, none⟩) l.length c1, .slice (some ⟨b2, o2, none⟩) m.length c2]).run P w = .ok (.int .i64 (compareBytes l m)) w := by
  have r1 : (Extern.Bytes.bytesOf (.slice (some ⟨b1, o1, none⟩) l.length c1)).run P w = .ok ⟨l.toArray⟩ w := run_loadBytes l b1 o1 [] h1
  have r2 : (Extern.Bytes.bytesOf (.slice (some ⟨b2, o2, none⟩) m.length c2)).run P w = .ok ⟨m.toArray⟩ w := run_loadBytes m b2 o2 [] h2
  change Sem.run P (do pure (goInt (Extern.BytealgCompare.cmp (← Extern.Bytes.bytesOf (.slice (some ⟨b1, o1, none⟩) l.length c1)) (← Extern.Bytes.bytesOf (.slice (some ⟨b2, o2, none⟩) m.length c2))))) w = _
  simp only [Sem.run_bind, r1, r2, Result.andThen_ok, Sem.run_pure]
  rw [cmp_eq]
  rfl
set_option maxHeartbeats 1000000 in
set_option maxRecDepth 100000 in
theorem cmp32 (l m : List UInt8) (b1 o1 c1 b2 o2 c2 : Nat) (w : World) (h1 : Rd w b1 o1 (bs l)) (h2 : Rd w b2 o2 (bs m)) :
    Calls Tryz.prog 32 #[.slice (some ⟨b1, o1, none⟩) l.length c1, .slice (some ⟨b2, o2, none⟩) m.length c2] w fun e w' => e = .returned (.int .i64 (compareBytes l m)) ∧ w' = w := by
  have hr := run_compareSl (P := Tryz.prog) (c1 := c1) (c2 := c2) h1 h2
  go_enter Tryz.func32, Tryz.ntmps32
  go_wp2
  rw [run_callFunc_extern Tryz.func57 (by kernel_rfl) (by kernel_rfl) (by kernel_rfl) (e := Extern.BytealgCompare.compare) (by kernel_rfl), hr]
  simp only [Result.andThen]
  rw [Oper.upon_value]
  go_wp2
  go_ret
  exact ⟨rfl, rfl⟩
end Go.Proofs.YtippcmedgfmgbaaGreat
namespace Go.Proofs.YtippcmedgfmgbaaGreat
open Go.Lib
theorem cmp_spec (l m : List UInt8) (b1 o1 n1 c1 b2 o2 n2 c2 : Nat) (w : World) (hl : l.length = n1) (hm : m.length = n2) (h1 : Rd w b1 o1 (bs l)) (h2 : Rd w b2 o2 (bs m)) :
    Rtn Tryz.prog 32 [.slice (some ⟨b1, o1, none⟩) n1 c1, .slice (some ⟨b2, o2, none⟩) n2 c2].toArray w (fun v w' => v = i64 (compareBytes l m) ∧ Kept w w') := by
  subst hl
  subst hm
  unfold Rtn
  exact (cmp32 l m b1 o1 c1 b2 o2 c2 w h1 h2).mono fun e w' ⟨he, hw⟩ => ⟨_, he, rfl, by subst hw; exact Chg.refl _ _⟩
end Go.Proofs.YtippcmedgfmgbaaGreat
end
section
open Go Go.Proofs
namespace Go.Eng
variable {P : Program} {w : World} {e : Env} {d : Option Nat} {ty : TypeId} {pos : String} {aft : Array Edge} {g : Option (Nat × Bool)}
/-- a slice of three cells -/
theorem w_build3 {t E : TypeId} {x y q : Operand} {i : TypeInfo} {z v u s : Value} (hu : P.underlying t = some (.slice E)) (hi : P.info? E = some i) (hz : i.zero = some z) (hsz : i.size = 1) (hzs : z.cells = #[z]) (hx : ev e x = v) (hy : ev e y = u) (hq : ev e q = s) (hv : v.cells = #[v]) (huc : u.cells = #[u]) (hsc : s.cells = #[s]) :
    OpWp P ⟨d, .buildSlice t 3 #[(0, x), (1, y), (2, q)], ty, pos, aft, g⟩ e w (fun v' w' => ∃ bk, v' = .slice (some ⟨bk, 0, none⟩) 3 3 ∧ w.heap.size ≤ bk ∧ bk < w'.heap.size ∧ Owns w' w.heap.size E 1 v' 3 [v, u, s] ∧ Pc w' bk 0 [v, u, s] ∧ Kept w w') := by
  unfold OpWp
  have : (execOp (ev e) ⟨d, .buildSlice t 3 #[(0, x), (1, y), (2, q)], ty, pos, aft, g⟩).run P w = .ok (.value (.slice (some ⟨w.heap.size, 0, none⟩) 3 3)) (w.alloc (.cells #[v, u, s] E)) := by
    simp [execOp, Instr.buildSlice, run_underlying hu, sizeOf, typeInfo, hi, hsz, zeroValue, hz, hzs, hx, hy, hq, hv, huc, hsc, Instr.fill, newRow, Sem.run_bind, Sem.run_pure, Result.andThen_ok]
    congr 2
    apply Array.ext
    · simp
    · intro j h1 h2
      have : j = 0 ∨ j = 1 ∨ j = 2 := by simp at h2; omega
      rcases this with rfl | rfl | rfl <;> simp
  rw [this]
  refine ⟨_, rfl, Nat.le_refl _, by simp, ⟨by simp, .inr ⟨_, 3, _, rfl, Nat.le_refl _, heap_alloc_new w _, Nat.le_refl _, by decide, rfl, rfl⟩⟩, ?_, chg_alloc _ _⟩
  exact pc_alloc w #[v, u, s] E
end Go.Eng
end
section
open Go Go.Proofs
namespace Go.Eng
/-- the order of two octets -/
def cmpB (a b : UInt8) : Int := if a < b then -1 else if b < a then 1 else 0
theorem compare_drop {A B : List UInt8} {k : Nat} (ha : k < A.length) (hb : k < B.length) :
    Go.Lib.compareBytes (A.drop k) (B.drop k) = if cmpB (A.getD k 0) (B.getD k 0) = 0 then Go.Lib.compareBytes (A.drop (k + 1)) (B.drop (k + 1)) else cmpB (A.getD k 0) (B.getD k 0) := by
  rw [List.drop_eq_getElem_cons ha, List.drop_eq_getElem_cons hb, List.getD_eq_getElem?_getD, List.getD_eq_getElem?_getD, List.getElem?_eq_getElem ha, List.getElem?_eq_getElem hb]
  simp only [Go.Lib.compareBytes, Option.getD_some, cmpB]
  split
  · rw [if_neg (by decide)]
  · split
    · rw [if_neg (by decide)]
    · rw [if_pos rfl]
theorem compare_end {A B : List UInt8} {k : Nat} (ha : A.length ≤ k) (hb : B.length ≤ k) : Go.Lib.compareBytes (A.drop k) (B.drop k) = 0 := by
  rw [List.drop_eq_nil_of_le ha, List.drop_eq_nil_of_le hb]; rfl
end Go.Eng
end
section
open Go Go.Proofs
namespace Go.Eng
theorem compare_swap : ∀ A B : List UInt8, Go.Lib.compareBytes B A = - Go.Lib.compareBytes A B
  | [], [] => rfl
  | [], _ :: _ => rfl
  | _ :: _, [] => rfl
  | a :: l, b :: m => by
    simp only [Go.Lib.compareBytes, UInt8.lt_iff_toNat_lt]
    by_cases h1 : a.toNat < b.toNat
    · rw [if_neg (by omega), if_pos h1, if_pos h1]; rfl
    · by_cases h2 : b.toNat < a.toNat
      · rw [if_pos h2, if_neg h1, if_pos h2]
      · rw [if_neg h2, if_neg h1, if_neg h1, if_neg h2]; exact compare_swap l m
end Go.Eng
end
section
open Go Go.Proofs
namespace Go.Eng
/-- neighbours ahead of k that do not ascend -/
def ordTo (H : List (List UInt8)) : Nat → Bool
  | 0 => false
  | k + 1 => ordTo H k || (decide (0 < k) && decide (0 ≤ Go.Lib.compareBytes (H.getD (k - 1) []) (H.getD k [])))
/-- the error of numbers -/
def hErrB (need : Int) (n : Nat) : Int := if need < 1 ∨ 32 < need then 4 else if 32 < n then 5 else if (n : Int) < need then 18 else 0
/-- the error of holders, the first k of them looked at -/
def hErrTo (need : Int) (n : Nat) (H : List (List UInt8)) (k : Nat) : Int := if hErrB need n = 0 then (if ordTo H k = true then 9 else 0) else hErrB need n
theorem ordTo_mono {H : List (List UInt8)} {k : Nat} (h : ordTo H k = true) : ∀ n, k ≤ n → ordTo H n = true
  | 0, hn => by obtain rfl : k = 0 := by omega
                exact h
  | n + 1, hn => by
    by_cases e : k = n + 1
    · subst e; exact h
    · rw [ordTo, ordTo_mono h n (by omega), Bool.true_or]
theorem ordTo_hit {H : List (List UInt8)} {k n : Nat} (h0 : 0 < k) (hk : k < n) (h : 0 ≤ Go.Lib.compareBytes (H.getD (k - 1) []) (H.getD k [])) : ordTo H n = true :=
  ordTo_mono (k := k + 1) (by rw [ordTo, decide_eq_true h0, decide_eq_true h]; simp) n hk
theorem ordTo_miss {H : List (List UInt8)} {k : Nat} (h : ordTo H k = false) (h2 : Go.Lib.compareBytes (H.getD (k - 1) []) (H.getD k []) < 0) : ordTo H (k + 1) = false := by
  rw [ordTo, h, decide_eq_false (p := 0 ≤ _) (by omega)]; simp
theorem ordTo_ok {H : List (List UInt8)} {n : Nat} (h : ordTo H n = false) (i : Nat) (h0 : 0 < i) (hi : i < n) : Go.Lib.compareBytes (H.getD (i - 1) []) (H.getD i []) < 0 := by
  rcases Int.lt_or_le (Go.Lib.compareBytes (H.getD (i - 1) []) (H.getD i [])) 0 with h1 | h1
  · exact h1
  · exact absurd (ordTo_hit h0 hi h1) (by rw [h]; decide)
theorem ordTo_one (H : List (List UInt8)) : ordTo H 1 = false := rfl
theorem hErr_zero {need : Int} {n : Nat} {H : List (List UInt8)} {k : Nat} (h : hErrTo need n H k = 0) : 1 ≤ need ∧ need ≤ 32 ∧ n ≤ 32 ∧ need ≤ (n : Int) ∧ ordTo H k = false := by
  unfold hErrTo at h
  split at h
  · rename_i hb
    unfold hErrB at hb
    split at hb
    · omega
    · split at hb
      · omega
      · split at hb
        · omega
        · refine ⟨by omega, by omega, by omega, by omega, ?_⟩
          cases e : ordTo H k
          · rfl
          · rw [e] at h; simp at h
  · omega
theorem hErr_first {need : Int} {n : Nat} : firstE [if (!decide (1 ≤ need ∧ need ≤ 32)) = true then 4 else 0, if decide ((32 : Int) < (n : Nat)) = true then 5 else 0, if decide (((n : Nat) : Int) < need) = true then 18 else 0] = hErrB need n := by
  have e1 : ((!decide (1 ≤ need ∧ need ≤ 32)) = true) = (need < 1 ∨ 32 < need) := by
    rw [Bool.not_eq_true', decide_eq_false_iff_not]; apply propext; omega
  have e2 : (decide ((32 : Int) < (n : Nat)) = true) = (32 < n) := by rw [decide_eq_true_eq]; apply propext; omega
  have e3 : (decide (((n : Nat) : Int) < need) = true) = (((n : Nat) : Int) < need) := by rw [decide_eq_true_eq]
  unfold hErrB
  simp only [e1, e2, e3, firstE]
  by_cases h1 : need < 1 ∨ 32 < need
  · simp [h1]
  · by_cases h2 : 32 < n
    · simp [h1, h2]
    · by_cases h3 : ((n : Nat) : Int) < need
      · simp [h1, h2, h3]
      · simp [h1, h2, h3]
theorem hErr_start {need : Int} {n : Nat} {H : List (List UInt8)} : hErrTo need n H 0 = hErrB need n := by
  unfold hErrTo; split
  · rename_i h; rw [h]; rfl
  · rfl
theorem hErr_hit {need : Int} {n : Nat} {H : List (List UInt8)} {k : Nat} (h0 : 0 < k) (h : 0 ≤ Go.Lib.compareBytes (H.getD (k - 1) []) (H.getD k [])) : hErrTo need n H (k + 1) = firstE [hErrTo need n H k, 9] := by
  have e := ordTo_hit (n := k + 1) h0 (by omega) h
  unfold hErrTo
  by_cases hb : hErrB need n = 0
  · rw [if_pos hb, if_pos hb, if_pos e]
    cases ordTo H k <;> rfl
  · rw [if_neg hb, if_neg hb]
    simp [firstE, hb]
theorem hErr_miss {need : Int} {n : Nat} {H : List (List UInt8)} {k : Nat} (h : ¬ (0 < k) ∨ Go.Lib.compareBytes (H.getD (k - 1) []) (H.getD k []) < 0) : hErrTo need n H (k + 1) = hErrTo need n H k := by
  have e : ordTo H (k + 1) = ordTo H k := by
    rw [ordTo]
    rcases h with h | h
    · rw [decide_eq_false h]; simp
    · rw [decide_eq_false (p := 0 ≤ _) (by omega)]; simp
  unfold hErrTo; rw [e]
theorem hErr_base {need : Int} {n : Nat} {H : List (List UInt8)} {k : Nat} (h : hErrB need n ≠ 0) : hErrTo need n H k = hErrB need n := by
  unfold hErrTo; rw [if_neg h]
theorem hErr_nine {need : Int} {n : Nat} {H : List (List UInt8)} {k : Nat} (h : hErrB need n = 0) (h2 : ordTo H k = true) : hErrTo need n H k = 9 := by
  unfold hErrTo; rw [if_pos h, if_pos h2]
end Go.Eng
namespace Go.Eng
theorem hErrB_1 {need : Int} {n : Nat} (h : need < 1 ∨ 32 < need) : hErrB need n = 4 := if_pos h
theorem hErrB_2 {need : Int} {n : Nat} (h : ¬ (need < 1 ∨ 32 < need)) (h2 : 32 < n) : hErrB need n = 5 := by unfold hErrB; rw [if_neg h, if_pos h2]
theorem hErrB_3 {need : Int} {n : Nat} (h : ¬ (need < 1 ∨ 32 < need)) (h2 : ¬ 32 < n) (h3 : (n : Int) < need) : hErrB need n = 18 := by unfold hErrB; rw [if_neg h, if_neg h2, if_pos h3]
theorem hErrB_0 {need : Int} {n : Nat} (h : ¬ (need < 1 ∨ 32 < need)) (h2 : ¬ 32 < n) (h3 : ¬ (n : Int) < need) : hErrB need n = 0 := by unfold hErrB; rw [if_neg h, if_neg h2, if_neg h3]
theorem ordTo_end {H : List (List UInt8)} {n i : Nat} (h : ordTo H n = true) (h2 : ordTo H i = false) (hi : i ≤ n) (hn : ¬ i < n) : False := by
  obtain rfl : i = n := by omega
  rw [h] at h2; cases h2
theorem ordTo_go {H : List (List UInt8)} {k : Nat} (h : ordTo H k = false) (h2 : 0 < Go.Lib.compareBytes (H.getD k []) (H.getD (k - 1) [])) : ordTo H (k + 1) = false :=
  ordTo_miss h (by rw [compare_swap]; omega)
end Go.Eng
namespace Go.Eng
theorem hErr_ok {need n : Nat} {H : List (List UInt8)} (h0 : 0 < need) (hnn : need ≤ n) (hb : n ≤ 32) (hord : ordTo H n = false) : hErrTo ((need : Nat) : Int) n H n = 0 := by
  unfold hErrTo
  rw [if_pos (hErrB_0 (by omega) (by omega) (by omega)), hord]; rfl
end Go.Eng
end
section
open Go Go.Proofs Go.Eng
namespace Go.Eng
open Go.Proofs.YtippcmedgfmgbaaGreat
/-- the values of one share, octet by octet -/
def ysTo (P : Nat → List F) (x : F) (y : List F) : Nat → List F
  | 0 => y
  | o + 1 => (ysTo P x y o).set o (Go.Proofs.YtippcmedgfmgbaaGreat.ev (P o) x)
@[simp] theorem ysTo_len (P : Nat → List F) (x : F) (y : List F) : ∀ o, (ysTo P x y o).length = y.length
  | 0 => rfl
  | o + 1 => by rw [ysTo, List.length_set, ysTo_len P x y o]
theorem putsTo_ys (P : Nat → List F) (h : List UInt8) (x : F) (y : List F) : ∀ o, putsTo P ⟨h, x, y⟩ o = ⟨h, x, ysTo P x y o⟩
  | 0 => rfl
  | o + 1 => by rw [putsTo, putsTo_ys P h x y o]; rfl
/-- the shares of the first holders -/
def sharesTo (P : Nat → List F) (H : List (List UInt8)) : Nat → List Shr
  | 0 => []
  | k + 1 => sharesTo P H k ++ [⟨H.getD k [], fI ((k + 1 : Nat) : Int), ysTo P (fI ((k + 1 : Nat) : Int)) (List.replicate 32 0) 32⟩]
theorem sharesTo_next {P : Nat → List F} {H : List (List UInt8)} {k o : Nat} (h : o = 32) : sharesTo P H (k + 1) = sharesTo P H k ++ [⟨H.getD k [], fI ((k + 1 : Nat) : Int), ysTo P (fI ((k + 1 : Nat) : Int)) (List.replicate 32 0) o⟩] := by
  subst h; rfl
theorem sharesTo_eq (P : Nat → List F) (H : List (List UInt8)) : ∀ k, sharesTo P H k = (List.range k).map (shareOf P H)
  | 0 => rfl
  | k + 1 => by rw [sharesTo, sharesTo_eq P H k, List.range_succ, List.map_append, List.map_singleton, shareOf, putsTo_ys]
@[simp] theorem sharesTo_len (P : Nat → List F) (H : List (List UInt8)) (k : Nat) : (sharesTo P H k).length = k := by rw [sharesTo_eq]; simp
theorem sharesTo_val (secret seed : List UInt8) (need n : Nat) (H : List (List UInt8)) : sharesTo (fun o_ => (polysTo secret seed need 32).getD o_ []) H n = valTo (fun o_ => polyL (fI (((secret.getD o_ 0).toNat : Nat) : Int)) seed o_ need) (initTo H n n) 32 := by
  rw [sharesTo_eq, valTo_eq]
  refine List.map_congr_left fun i _ => ?_
  unfold shareOf
  exact putsTo_congr _ 32 fun o ho => polysTo_get secret seed need o ho 32 ho
theorem sok_mk {h : List UInt8} {x : F} {y : List F} (h1 : h.length = 16) (h2 : y.length = 32) : SOk ⟨h, x, y⟩ := ⟨h1, h2⟩
theorem SlAt.shv {w : World} {a : Option Addr} {L M : List Shr} (h : SlAt w a (scells L)) (e : L = M) : SlAt w a (scells M) := e ▸ h
end Go.Eng
end
