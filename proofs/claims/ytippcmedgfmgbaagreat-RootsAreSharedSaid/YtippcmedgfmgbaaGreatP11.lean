/- YtippcmedgfmgbaaGreatP11: a calculus of walks, plain facts of the numbers that are shared, and contracts of functions of the program: called in any world that meets a contract's premises, a function returns what the contract says and changes no more than it says. -/
import Derived.Test.YtippcmedgfmgbaaGreatP02
import Derived.Test.YtippcmedgfmgbaaGreatP03
import Derived.Test.YtippcmedgfmgbaaGreatP04
import Derived.Test.YtippcmedgfmgbaaGreatP08
import Derived.Test.YtippcmedgfmgbaaGreatChecked
section
open Go Go.Eng Go.Proofs
namespace Go.Proofs.YtippcmedgfmgbaaGreat
set_option maxHeartbeats 8000000 in
set_option maxRecDepth 100000 in
theorem solveW_spec (Qs : Nat → Prop) (R0 : List Rw) (bR N cN u : Nat) (w : World) (hRl : R0.length = N) (hN : N ≤ 64) (hu : u ≤ 200) (hcN : N ≤ cN) (hbR : bR < w.heap.size) (hm : MatQ w (fun b_ => Qs b_ ∧ b_ < w.heap.size ∧ b_ ≠ bR) (u + 1) R0) (hR : Pc w bR 0 (rvals R0)) :
  Rtn Tryz.prog 79 [Value.slice (some ⟨bR, 0, none⟩) N cN, i64 (u : Nat)].toArray w (fun v w' => (match solveF N u (lsOf R0) with | none => v = tup [.slice none 0 0, .bool false] | some s => ∃ a c, v = tup [.slice a u c, .bool true] ∧ u ≤ c ∧ s.length = u ∧ (∀ x, a = some x → w.heap.size ≤ x.block) ∧ SlAt w' a (fs s)) ∧ Chg (fun b_ _ => b_ = bR ∨ Qs b_) w w') := by
 refine fn_body (l := [Value.slice (some ⟨bR, 0, none⟩) N cN, i64 (u : Nat)]) 201 [.tmp 4, .tmp 5] Tryz.func79 rfl Tryz.ntmps79 (Nat.le_of_ble_eq_true rfl) (by rw [Tryz.results79]) ?_
 refine go_seq ?_
 refine go_region 2 rfl rfl ?_
 refine s_val rfl rfl (r_assign) rfl ?_
 refine s_val rfl rfl (r_assign) rfl ?_
 refine s_end ?_
 refine go_seq ?_
 refine go_region 2 rfl rfl ?_
 refine s_do rfl rfl (w_build0 (E := 3) (sz := 1) Tryz.underlying63 (i := Tryz.t3) (by kernel_rfl) rfl rfl) rfl ?_
 rintro v3 w1 ⟨o2, c_w1⟩
 have hs_w1 : w.heap.size ≤ w1.heap.size := Chg.size c_w1
 replace hm := hm.k c_w1
 replace hR := hR.k c_w1
 have C_w1 := Chg.pure (Chg.refl (fun b_ _ => b_ = bR ∨ Qs b_) w) c_w1
 have hfo_o2 := Owns.form2 o2
 obtain ⟨A4, cap5, e_o2, hc_cap5⟩ := hfo_o2
 subst e_o2
 refine s_val rfl rfl (r_assign) rfl ?_
 refine s_end ?_
 refine go_seq ?_
 refine go_region 1 rfl rfl ?_
 refine s_val rfl rfl (r_assign) rfl ?_
 refine s_end ?_
 refine go_seq ?_
 refine go_seq ?_
 refine go_region 1 rfl rfl ?_
 refine s_val rfl rfl (r_assign) rfl ?_
 refine s_end ?_
 refine go_meet [(6, 14), (21, 165)] (fun e' w' => ∃ (R : List Rw) (piv : List Nat) (a6 : Option Addr) (n6 : Nat) (c6 : Nat), e' 7 = i64 (n6 : Nat) ∧ e' 6 = Value.slice a6 n6 c6 ∧ gj N u 0 (lsOf R0) [] = (lsOf R, piv) ∧ piv.length = n6 ∧ n6 ≤ N ∧ (∀ q ∈ piv, q < u) ∧ R.length = N ∧ MatQ w' (fun b_ => Qs b_ ∧ b_ < w.heap.size ∧ b_ ≠ bR) (u + 1) R ∧ Pc w' bR 0 (rvals R) ∧ w.heap.size ≤ w'.heap.size ∧ Owns w' w.heap.size 3 1 (Value.slice a6 n6 c6) n6 (ns piv) ∧ n6 ≤ c6 ∧ Chg (fun b_ _ => b_ = bR ∨ Qs b_) w w') ?_ ?_
 ·
  refine go_block ?_
  refine go_loopM (σ := Nat × List Rw × List Nat × Option Addr × Nat × Nat) [(6, 14), (21, 165)] (fun (x_ : Nat × List Rw × List Nat × Option Addr × Nat × Nat) e' w' => match x_ with | (c, R, piv, a6, n6, c6) => e' 8 = i64 (c : Nat) ∧ e' 7 = i64 (n6 : Nat) ∧ e' 6 = Value.slice a6 n6 c6 ∧ c ≤ u ∧ gj N (u - c) c (lsOf R) piv = gj N u 0 (lsOf R0) [] ∧ piv.length = n6 ∧ n6 ≤ N ∧ (∀ q ∈ piv, q < u) ∧ R.length = N ∧ MatQ w' (fun b_ => Qs b_ ∧ b_ < w.heap.size ∧ b_ ≠ bR) (u + 1) R ∧ Pc w' bR 0 (rvals R) ∧ w.heap.size ≤ w'.heap.size ∧ Owns w' w.heap.size 3 1 (Value.slice a6 n6 c6) n6 (ns piv) ∧ n6 ≤ c6 ∧ Chg (fun b_ _ => b_ = bR ∨ Qs b_) w w') (fun (x_ : Nat × List Rw × List Nat × Option Addr × Nat × Nat) => match x_ with | (c, R, piv, a6, n6, c6) => u - c) (0, R0, [], A4, 0, cap5) ?_ ?_
  ·exact ⟨rfl, rfl, rfl, by omega, rfl, rfl, by omega, (fun q h_ => by cases h_), by simpa using hRl, hm, hR, by omega, Owns.mono o2 (by omega), by omega, C_w1⟩
  rintro ⟨c, R, piv, a6, n6, c6⟩ f9 w8 ⟨e10, e11, e12, hc, hgj, hpl, hpn, hplt, hRl, hm, hR, hB_ho6, ho6, hc6, C_w8⟩
  have ob_14 : ∃ g_, f9 = upd g_ 8 (i64 (c : Nat)) := ⟨f9, upd_id e10⟩
  obtain ⟨f13, rfl⟩ := ob_14
  have ob_16 : ∃ g_, f13 = upd g_ 7 (i64 (n6 : Nat)) := ⟨f13, upd_id e11⟩
  obtain ⟨f15, rfl⟩ := ob_16
  have ob_18 : ∃ g_, f15 = upd g_ 6 (Value.slice a6 n6 c6) := ⟨f15, upd_id e12⟩
  obtain ⟨f17, rfl⟩ := ob_18
  clear e10 e11 e12
  have hs_w8 : w.heap.size ≤ w8.heap.size := Chg.size C_w8
  refine go_seq ?_
  refine go_seq ?_
  refine go_region 9 rfl rfl ?_
  refine s_val rfl rfl (r_move) rfl ?_
  refine s_val rfl rfl (r_move) rfl ?_
  refine s_val rfl rfl (r_lss rfl rfl) rfl ?_
  refine s_valB rfl rfl (r_move) rfl (fun h19 => ?_) (fun h19 => ?_)
  ·first | replace h19 := dcT h19 | replace h19 := dcF (nt h19) | skip
   have hcu := h19
   refine s_val_g rfl rfl (r_move) rfl ?_
   refine s_val_g rfl rfl (r_move) rfl ?_
   refine s_val_g rfl rfl (r_len Tryz.runUnderlying128 rfl) rfl ?_
   refine s_val_g rfl rfl (r_lss rfl rfl) rfl ?_
   refine s_val rfl rfl (r_pick true rfl) rfl ?_
   refine s_end ?_
   refine go_ifb _ rfl (fun hrN => ?_) (fun hrN => ?_)
   ·first | replace hrN := dcT hrN | replace hrN := dcF (nt hrN) | skip
    refine go_skip ?_
    refine go_seq ?_
    refine go_block ?_
    refine go_seq ?_
    refine go_region 2 rfl rfl ?_
    refine s_val rfl rfl (r_move) rfl ?_
    refine s_val rfl rfl (r_assign) rfl ?_
    refine s_end ?_
    refine go_seq ?_
    refine go_meet [(9, 9), (33, 48)] (fun e' w' => ∃ (k : Nat), e' 9 = i64 (k : Nat) ∧ n6 ≤ k ∧ k ≤ N ∧ seek (lsOf R) c (N - n6) n6 = k ∧ R.length = N ∧ MatQ w' (fun b_ => Qs b_ ∧ b_ < w.heap.size ∧ b_ ≠ bR) (u + 1) R ∧ Pc w' bR 0 (rvals R) ∧ w.heap.size ≤ w'.heap.size ∧ Owns w' w.heap.size 3 1 (Value.slice a6 n6 c6) n6 (ns piv) ∧ n6 ≤ c6 ∧ Chg (fun b_ _ => b_ = bR ∨ Qs b_) w w') ?_ ?_
    ·
     refine go_block ?_
     refine go_loopM (σ := Nat) [(9, 9), (33, 48)] (fun (k : Nat) e' w' => e' 9 = i64 (k : Nat) ∧ n6 ≤ k ∧ k ≤ N ∧ seek (lsOf R) c (N - n6) n6 = seek (lsOf R) c (N - k) k ∧ R.length = N ∧ MatQ w' (fun b_ => Qs b_ ∧ b_ < w.heap.size ∧ b_ ≠ bR) (u + 1) R ∧ Pc w' bR 0 (rvals R) ∧ w.heap.size ≤ w'.heap.size ∧ Owns w' w.heap.size 3 1 (Value.slice a6 n6 c6) n6 (ns piv) ∧ n6 ≤ c6 ∧ Chg (fun b_ _ => b_ = bR ∨ Qs b_) w w') (fun (k : Nat) => N - k) n6 ?_ ?_
     ·exact ⟨rfl, by omega, by omega, rfl, by simpa using hRl, hm, hR, by omega, Owns.mono ho6 (by omega), by omega, C_w8⟩
     rintro k f23 w22 ⟨e24, hk1, hk2, hsk, hRl, hm, hR, hB_ho6, ho6, hc6, C_w22⟩
     have ob_26 : ∃ g_, f23 = upd g_ 9 (i64 (k : Nat)) := ⟨f23, upd_id e24⟩
     obtain ⟨f25, rfl⟩ := ob_26
     clear e24
     have hs_w22 : w.heap.size ≤ w22.heap.size := Chg.size C_w22
     refine go_seq ?_
     refine go_seq ?_
     refine go_region 14 rfl rfl ?_
     refine s_val rfl rfl (r_move) rfl ?_
     refine s_val rfl rfl (r_move) rfl ?_
     refine s_val rfl rfl (r_len Tryz.runUnderlying128 rfl) rfl ?_
     refine s_val rfl rfl (r_lss rfl rfl) rfl ?_
     refine s_valB rfl rfl (r_move) rfl (fun h27 => ?_) (fun h27 => ?_)
     ·first | replace h27 := dcT h27 | replace h27 := dcF (nt h27) | skip
      have hkN := h27
      refine s_val_g rfl rfl (r_move) rfl ?_
      refine s_val_g rfl rfl (r_move) rfl ?_
      refine s_val_g rfl rfl (r_indexSlQ (k := k) Tryz.runUnderlying128 Tryz.sizeOf63 rfl rfl (by first | rfl | omega) (by omega)) rfl ?_
      refine s_val_g rfl rfl (r_load1 Tryz.isAgg63 rfl (Rd.at1 hR.rd (rvals_get (by omega)))) rfl ?_
      refine s_val_g rfl rfl (r_move) rfl ?_
      have hml_28 := Mat.len hm.m (k := k) (by omega)
      refine s_val_g rfl rfl (r_indexSlQ (k := c) Tryz.runUnderlying63 Tryz.sizeOf3 rfl rfl (by first | rfl | omega) (by omega)) rfl ?_
      refine s_val_g rfl rfl (r_load1 Tryz.isAgg3 rfl (Rd.at1 (Mat.rd hm.m (k := k) (by omega)) (fs_get (by omega)))) rfl ?_
      refine s_val_g rfl rfl (r_eql rfl rfl) rfl ?_
      refine s_val rfl rfl (r_pick true rfl) rfl ?_
      refine s_end ?_
      refine go_ifb _ rfl (fun h3 => ?_) (fun h3 => ?_)
      ·first | replace h3 := dcT h3 | replace h3 := dcF (nt h3) | skip
       refine go_skip ?_
       refine go_block ?_
       refine go_region 3 rfl rfl ?_
       refine s_val rfl rfl (r_move) rfl ?_
       refine s_val rfl rfl (r_addi rfl rfl (by omega)) rfl ?_
       refine s_val rfl rfl (r_assign) rfl ?_
       refine s_end ?_
       refine go_nil (block_normal ?_)
       refine go_nil (loop_normal ⟨⟨(k + 1), by first | omega | (dsimp only; omega), ⟨rfl, by omega, by omega, by rw [hsk]; exact seek_next (by omega) (by rw [en_row]; exact f_ext h3), by simpa using hRl, hm, hR, by omega, Owns.mono ho6 (by omega), by omega, C_w22⟩⟩, (by repeat (first | exact same_refl | exact same_over | refine same_upd rfl ?_ | refine same_over2 rfl ?_))⟩)
      ·first | replace h3 := dcF h3 | replace h3 := dcT (nf h3) | skip
       refine go_exit (loop_exit (block_hit ?_))
       refine go_nil (loop_normal ⟨?_, (by repeat (first | exact same_refl | exact same_over | refine same_upd rfl ?_ | refine same_over2 rfl ?_))⟩)
       exact ⟨k, rfl, hk1, hk2, by rw [hsk]; exact seek_stop (by omega) (by rw [en_row]; exact fun e_ => h3 (by rw [e_]; rfl)), hRl, hm, hR, by omega, ho6, hc6, C_w22⟩
     ·first | replace h27 := dcF h27 | replace h27 := dcT (nf h27) | skip
      have hkN := h27
      refine s_val_not rfl rfl ?_
      refine s_val_not rfl rfl ?_
      refine s_val_not rfl rfl ?_
      refine s_val_not rfl rfl ?_
      refine s_val_not rfl rfl ?_
      refine s_val_not rfl rfl ?_
      refine s_val_not rfl rfl ?_
      refine s_val_not rfl rfl ?_
      refine s_val rfl rfl (r_pick false rfl) rfl ?_
      refine s_end ?_
      refine go_false rfl ?_
      refine go_exit (loop_exit (block_hit ?_))
      refine go_nil (loop_normal ⟨?_, (by repeat (first | exact same_refl | exact same_over | refine same_upd rfl ?_ | refine same_over2 rfl ?_))⟩)
      exact ⟨k, rfl, hk1, hk2, by rw [hsk, show k = N by omega]; exact seek_end, hRl, hm, hR, by omega, ho6, hc6, C_w22⟩
    rintro f21 w20 ⟨k, e29, hk1, hk2, hsk, hRl, hm, hR, hB_ho6, ho6, hc6, C_w20⟩
    have ob_31 : ∃ g_, f21 = upd g_ 9 (i64 (k : Nat)) := ⟨f21, upd_id e29⟩
    obtain ⟨f30, rfl⟩ := ob_31
    clear e29
    have hs_w20 : w.heap.size ≤ w20.heap.size := Chg.size C_w20
    refine go_seq ?_
    refine go_seq ?_
    refine go_region 4 rfl rfl ?_
    refine s_val rfl rfl (r_move) rfl ?_
    refine s_val rfl rfl (r_move) rfl ?_
    refine s_val rfl rfl (r_len Tryz.runUnderlying128 rfl) rfl ?_
    refine s_val rfl rfl (r_eql rfl rfl) rfl ?_
    refine s_end ?_
    refine go_ifb _ rfl (fun h4x => ?_) (fun h4x => ?_)
    ·first | replace h4x := dcT h4x | replace h4x := dcF (nt h4x) | skip
     refine go_exit (block_hit ?_)
     refine go_region 3 rfl rfl ?_
     refine s_val rfl rfl (r_move) rfl ?_
     refine s_val rfl rfl (r_addi rfl rfl (by omega)) rfl ?_
     refine s_val rfl rfl (r_assign) rfl ?_
     refine s_end ?_
     refine go_nil (loop_normal ⟨⟨(c + 1, R, piv, a6, n6, c6), by first | omega | (dsimp only; omega), ⟨rfl, rfl, rfl, by omega, by rw [← gj_skipS (by omega) (by omega) (by rw [hpl, hsk]; omega)]; exact hgj, hpl, hpn, hplt, hRl, hm, hR, by omega, ho6, hc6, C_w20⟩⟩, (by repeat (first | exact same_refl | exact same_over | refine same_upd rfl ?_ | refine same_over2 rfl ?_))⟩)
    ·first | replace h4x := dcF h4x | replace h4x := dcT (nf h4x) | skip
     have h4 : k ≠ N := by omega
     refine go_skip ?_
     refine go_seq ?_
     refine go_meet [(53, 66)] (fun e' w' => ∃ (R1 : List Rw), R1 = swapR R n6 k ∧ R1.length = N ∧ MatQ w' (fun b_ => Qs b_ ∧ b_ < w.heap.size ∧ b_ ≠ bR) (u + 1) R1 ∧ Pc w' bR 0 (rvals R1) ∧ w.heap.size ≤ w'.heap.size ∧ Owns w' w.heap.size 3 1 (Value.slice a6 n6 c6) n6 (ns piv) ∧ n6 ≤ c6 ∧ Chg (fun b_ _ => b_ = bR ∨ Qs b_) w w') ?_ ?_
     ·
      refine go_drawsM (M := (blk bR)) 14 (.take 0 (.take 1 (.take 2 (.take 3 (.take 4 (.take 5 (.take 6 (.take 8 (.take 9 (.take 10 (.alts (.eff 7 (.eff 11 (.take 12 (.eff 13 (.eff 14 (.eff 15 .done)))))) (.eff 11 (.eff 7 (.take 12 (.eff 13 (.eff 14 (.eff 15 .done))))))))))))))))) (by kernel_rfl) (by kernel_rfl) fun w34 c_w34 => ?_
      have hs_w34 : w20.heap.size ≤ w34.heap.size := Chg.size c_w34
      replace hm := hm.k c_w34
      replace hR := hR.k c_w34
      replace ho6 := ho6.k c_w34
      have C_w34 := Chg.pure C_w20 c_w34
      have hm_0 := hm
      have hR_0 := hR
      have ho6_0 := ho6
      refine s_takeM (M := (blk bR)) rfl rfl (w0 := w34) (fun x_ c_ => r_move) ?_
      refine s_takeM (M := (blk bR)) rfl rfl (w0 := w34) (fun x_ c_ => r_move) ?_
      refine s_takeM (M := (blk bR)) rfl rfl (w0 := w34) (fun x_ c_ => r_move) ?_
      refine s_takeM (M := (blk bR)) rfl rfl (w0 := w34) (fun x_ c_ => r_move) ?_
      refine s_takeM (M := (blk bR)) rfl rfl (w0 := w34) (fun x_ c_ => r_move) ?_
      refine s_takeM (M := (blk bR)) rfl rfl (w0 := w34) (fun x_ c_ => r_move) ?_
      refine s_takeM (M := (blk bR)) rfl rfl (w0 := w34) (fun x_ c_ => r_indexSlQ (k := k) Tryz.runUnderlying128 Tryz.sizeOf63 rfl rfl (by first | rfl | omega) (by omega)) ?_
      refine s_takeM (M := (blk bR)) rfl rfl (w0 := w34) (fun x_ c_ => r_move) ?_
      refine s_takeM (M := (blk bR)) rfl rfl (w0 := w34) (fun x_ c_ => r_move) ?_
      refine s_takeM (M := (blk bR)) rfl rfl (w0 := w34) (fun x_ c_ => r_indexSlQ (k := n6) Tryz.runUnderlying128 Tryz.sizeOf63 rfl rfl (by first | rfl | omega) (by omega)) ?_
      refine s_alts ?_ ?_
      ·
       refine s_valM rfl rfl (r_load1 Tryz.isAgg63 rfl (Rd.at1 hR.rd (rvals_get (by omega)))) (Chg.refl (blk bR) w34) ?_
       refine s_valM rfl rfl (r_load1 Tryz.isAgg63 rfl (Rd.at1 hR.rd (rvals_get (by omega)))) (Chg.refl (blk bR) w34) ?_
       refine s_takeM (M := (blk bR)) rfl rfl (w0 := w34) (fun x_ c_ => r_indexSlQ (k := n6) Tryz.runUnderlying128 Tryz.sizeOf63 rfl rfl (by first | rfl | omega) (by omega)) ?_
       refine s_fxM rfl rfl (w_set_one (k := n6) (v := (R.getD k rw0).v) (cs := (rvals R)) Tryz.sizeOf63 rfl rfl rfl rfl hR (by simp only [List.length_set, rvals_length]; omega)) ?_
       rintro _ w35 ⟨q_w35, c_w35⟩
       have hs_w35 : w34.heap.size ≤ w35.heap.size := Chg.size c_w35
       replace hm := hm.kb c_w35 (fun b_ ⟨_, h1_, h2_⟩ => by omega)
       replace ho6 := ho6.kb c_w35 (Owns.ne_lt ho6 (by omega))
       have C_w35 := Chg.into C_w34 c_w35 (by intro b_ _ _ m_; exact .inl m_.1)
       have hR := q_w35
       have K_w35 := Chg.into (Chg.refl (blk bR) w34) c_w35 (fun _ _ _ m => m.1)
       refine ⟨K_w35, ?_⟩
       refine s_val rfl rfl (r_indexSlQ (k := k) Tryz.runUnderlying128 Tryz.sizeOf63 rfl rfl (by first | rfl | omega) (by omega)) rfl ?_
       refine s_do rfl rfl (w_set_one (k := k) (v := (R.getD n6 rw0).v) (cs := ((rvals R).set n6 (R.getD k rw0).v)) Tryz.sizeOf63 rfl rfl rfl rfl hR (by simp only [List.length_set, rvals_length]; omega)) rfl ?_
       rintro _ w36 ⟨q_w36, c_w36⟩
       have hs_w36 : w35.heap.size ≤ w36.heap.size := Chg.size c_w36
       replace hm := hm.kb c_w36 (fun b_ ⟨_, h1_, h2_⟩ => by omega)
       replace ho6 := ho6.kb c_w36 (Owns.ne_lt ho6 (by omega))
       have C_w36 := Chg.into C_w35 c_w36 (by intro b_ _ _ m_; exact .inl m_.1)
       have hR := q_w36
       have hRl0_ := hRl
       have ob_37 : ∃ R1, R1 = swapR R n6 k := ⟨_, rfl⟩
       obtain ⟨R1, hR1⟩ := ob_37
       replace hm : MatQ w36 (fun b_ => Qs b_ ∧ b_ < w.heap.size ∧ b_ ≠ bR) (u + 1) R1 := by rw [hR1]; exact hm.swap (by omega) (by omega)
       replace hR : Pc w36 bR 0 (rvals R1) := by rw [hR1, rvals_swap]; exact hR
       replace hRl : R1.length = N := by rw [hR1, swapR_length]; exact hRl0_
       refine s_end ?_
       refine go_nil (loop_normal ⟨?_, (by repeat (first | exact same_refl | exact same_over | refine same_upd rfl ?_ | refine same_over2 rfl ?_))⟩)
       exact ⟨R1, hR1, hRl, hm, hR, by omega, ho6, hc6, C_w36⟩
      ·
       refine s_valM rfl rfl (r_load1 Tryz.isAgg63 rfl (Rd.at1 hR.rd (rvals_get (by omega)))) (Chg.refl (blk bR) w34) ?_
       refine s_valM rfl rfl (r_load1 Tryz.isAgg63 rfl (Rd.at1 hR.rd (rvals_get (by omega)))) (Chg.refl (blk bR) w34) ?_
       refine s_takeM (M := (blk bR)) rfl rfl (w0 := w34) (fun x_ c_ => r_indexSlQ (k := n6) Tryz.runUnderlying128 Tryz.sizeOf63 rfl rfl (by first | rfl | omega) (by omega)) ?_
       refine s_fxM rfl rfl (w_set_one (k := n6) (v := (R.getD k rw0).v) (cs := (rvals R)) Tryz.sizeOf63 rfl rfl rfl rfl hR (by simp only [List.length_set, rvals_length]; omega)) ?_
       rintro _ w38 ⟨q_w38, c_w38⟩
       have hs_w38 : w34.heap.size ≤ w38.heap.size := Chg.size c_w38
       replace hm := hm.kb c_w38 (fun b_ ⟨_, h1_, h2_⟩ => by omega)
       replace ho6 := ho6.kb c_w38 (Owns.ne_lt ho6 (by omega))
       have C_w38 := Chg.into C_w34 c_w38 (by intro b_ _ _ m_; exact .inl m_.1)
       have hR := q_w38
       have K_w38 := Chg.into (Chg.refl (blk bR) w34) c_w38 (fun _ _ _ m => m.1)
       refine ⟨K_w38, ?_⟩
       refine s_val rfl rfl (r_indexSlQ (k := k) Tryz.runUnderlying128 Tryz.sizeOf63 rfl rfl (by first | rfl | omega) (by omega)) rfl ?_
       refine s_do rfl rfl (w_set_one (k := k) (v := (R.getD n6 rw0).v) (cs := ((rvals R).set n6 (R.getD k rw0).v)) Tryz.sizeOf63 rfl rfl rfl rfl hR (by simp only [List.length_set, rvals_length]; omega)) rfl ?_
       rintro _ w39 ⟨q_w39, c_w39⟩
       have hs_w39 : w38.heap.size ≤ w39.heap.size := Chg.size c_w39
       replace hm := hm.kb c_w39 (fun b_ ⟨_, h1_, h2_⟩ => by omega)
       replace ho6 := ho6.kb c_w39 (Owns.ne_lt ho6 (by omega))
       have C_w39 := Chg.into C_w38 c_w39 (by intro b_ _ _ m_; exact .inl m_.1)
       have hR := q_w39
       have hRl0_ := hRl
       have ob_40 : ∃ R1, R1 = swapR R n6 k := ⟨_, rfl⟩
       obtain ⟨R1, hR1⟩ := ob_40
       replace hm : MatQ w39 (fun b_ => Qs b_ ∧ b_ < w.heap.size ∧ b_ ≠ bR) (u + 1) R1 := by rw [hR1]; exact hm.swap (by omega) (by omega)
       replace hR : Pc w39 bR 0 (rvals R1) := by rw [hR1, rvals_swap]; exact hR
       replace hRl : R1.length = N := by rw [hR1, swapR_length]; exact hRl0_
       refine s_end ?_
       refine go_nil (loop_normal ⟨?_, (by repeat (first | exact same_refl | exact same_over | refine same_upd rfl ?_ | refine same_over2 rfl ?_))⟩)
       exact ⟨R1, hR1, hRl, hm, hR, by omega, ho6, hc6, C_w39⟩
     rintro f33 w32 ⟨R1, hR1, hRl, hm, hR, hB_ho6, ho6, hc6, C_w32⟩
     have hs_w32 : w.heap.size ≤ w32.heap.size := Chg.size C_w32
     have hls1 : lsOf R1 = swapL (lsOf R) n6 k := by rw [hR1, lsOf_swap]
     have hpf := pivot_f (c := c) hR1 (by omega) (by omega)
     have hRl1 := hRl
     have hlen1 : ∀ k_, k_ < R1.length → (R1.getD k_ rw0).l.length = u + 1 := fun k_ h_ => Mat.len hm.m h_
     refine go_seq ?_
     refine go_region 9 rfl rfl ?_
     refine s_val rfl rfl (r_move) rfl ?_
     refine s_val rfl rfl (r_move) rfl ?_
     refine s_val rfl rfl (r_indexSlQ (k := n6) Tryz.runUnderlying128 Tryz.sizeOf63 rfl rfl (by first | rfl | omega) (by omega)) rfl ?_
     refine s_val rfl rfl (r_load1 Tryz.isAgg63 rfl (Rd.at1 hR.rd (rvals_get (by omega)))) rfl ?_
     refine s_val rfl rfl (r_move) rfl ?_
     have hml_41 := Mat.len hm.m (k := n6) (by omega)
     refine s_val rfl rfl (r_indexSlQ (k := c) Tryz.runUnderlying63 Tryz.sizeOf3 rfl rfl (by first | rfl | omega) (by omega)) rfl ?_
     refine s_val rfl rfl (r_load1 Tryz.isAgg3 rfl (Rd.at1 (Mat.rd hm.m (k := n6) (by omega)) (fs_get (by omega)))) rfl ?_
     refine s_do rfl rfl (w_call Tryz.call101 rfl (over_spec (1 : F) ((R1.getD n6 rw0).l.getD c 0) _)) rfl ?_
     rintro _ w42 ⟨rfl, c_w42⟩
     have hs_w42 : w32.heap.size ≤ w42.heap.size := Chg.size c_w42
     replace hm := hm.k c_w42
     replace hR := hR.k c_w42
     replace ho6 := ho6.k c_w42
     have C_w42 := Chg.pure C_w32 c_w42
     refine s_val rfl rfl (r_assign) rfl ?_
     refine s_end ?_
     refine go_seq ?_
     refine go_seq ?_
     refine go_region 6 rfl rfl ?_
     refine s_val rfl rfl (r_move) rfl ?_
     refine s_val rfl rfl (r_move) rfl ?_
     refine s_val rfl rfl (r_indexSlQ (k := n6) Tryz.runUnderlying128 Tryz.sizeOf63 rfl rfl (by first | rfl | omega) (by omega)) rfl ?_
     refine s_val rfl rfl (r_load1 Tryz.isAgg63 rfl (Rd.at1 hR.rd (rvals_get (by omega)))) rfl ?_
     have hml_43 := Mat.len hm.m (k := n6) (by omega)
     refine s_val rfl rfl (r_len Tryz.runUnderlying63 rfl) rfl ?_
     refine s_val rfl rfl (r_move) rfl ?_
     refine s_end ?_
     refine go_block ?_
     refine go_loopM (σ := Nat × List Rw) [(11, 11), (80, 99)] (fun (x_ : Nat × List Rw) e' w' => match x_ with | (j, R2) => e' 80 = i64 (j : Nat) ∧ j ≤ u + 1 ∧ R2 = rowSet R1 n6 (scaleTo ((1 : F) * fInv ((R1.getD n6 rw0).l.getD c 0)) (R1.getD n6 rw0).l j) ∧ R2.length = N ∧ MatQ w' (fun b_ => Qs b_ ∧ b_ < w.heap.size ∧ b_ ≠ bR) (u + 1) R2 ∧ Pc w' bR 0 (rvals R2) ∧ w.heap.size ≤ w'.heap.size ∧ Owns w' w.heap.size 3 1 (Value.slice a6 n6 c6) n6 (ns piv) ∧ n6 ≤ c6 ∧ Chg (fun b_ _ => b_ = bR ∨ Qs b_) w w') (fun (x_ : Nat × List Rw) => match x_ with | (j, R2) => u + 1 - j) (0, R1) ?_ ?_
     ·exact ⟨rfl, by omega, (rowSet_same (by omega)).symm, by simpa using hRl, hm, hR, by omega, Owns.mono ho6 (by omega), by omega, C_w42⟩
     rintro ⟨j, R2⟩ f45 w44 ⟨e46, hj, hR2, hRl, hm, hR, hB_ho6, ho6, hc6, C_w44⟩
     have ob_48 : ∃ g_, f45 = upd g_ 80 (i64 (j : Nat)) := ⟨f45, upd_id e46⟩
     obtain ⟨f47, rfl⟩ := ob_48
     clear e46
     have hs_w44 : w.heap.size ≤ w44.heap.size := Chg.size C_w44
     have hl2 : (R2.getD n6 rw0).l = (scaleTo ((1 : F) * fInv ((R1.getD n6 rw0).l.getD c 0)) (R1.getD n6 rw0).l j) := by rw [hR2, rowSet_at (by omega)]
     refine go_seq ?_
     refine go_region 1 rfl rfl ?_
     refine s_val rfl rfl (r_lss rfl rfl) rfl ?_
     refine s_end ?_
     refine go_seq ?_
     refine go_ifb _ rfl (fun h5 => ?_) (fun h5 => ?_)
     ·first | replace h5 := dcT h5 | replace h5 := dcF (nt h5) | skip
      refine go_skip ?_
      refine go_seq ?_
      refine go_block ?_
      refine go_seq ?_
      refine go_region 2 rfl rfl ?_
      refine s_val rfl rfl (r_move) rfl ?_
      refine s_val rfl rfl (r_assign) rfl ?_
      refine s_end ?_
      refine go_drawsE 15 (.take 0 (.take 1 (.take 2 (.take 3 (.take 4 (.take 5 (.take 6 (.take 7 (.take 8 (.take 9 (.take 10 (.take 11 (.take 12 (.take 13 (.take 14 (.eff 15 (.eff 16 .done))))))))))))))))) (by kernel_rfl) (by kernel_rfl) fun w49 c_w49 => ?_
      have hs_w49 : w44.heap.size ≤ w49.heap.size := Chg.size c_w49
      replace hm := hm.k c_w49
      replace hR := hR.k c_w49
      replace ho6 := ho6.k c_w49
      have C_w49 := Chg.pure C_w44 c_w49
      refine s_takeE rfl rfl (r_move) ?_
      refine s_takeE rfl rfl (r_move) ?_
      refine s_takeE rfl rfl (r_indexSlQ (k := n6) Tryz.runUnderlying128 Tryz.sizeOf63 rfl rfl (by first | rfl | omega) (by omega)) ?_
      refine s_takeE rfl rfl (r_load1 Tryz.isAgg63 rfl (Rd.at1 hR.rd (rvals_get (by omega)))) ?_
      refine s_takeE rfl rfl (r_move) ?_
      refine s_takeE rfl rfl (r_move) ?_
      refine s_takeE rfl rfl (r_move) ?_
      refine s_takeE rfl rfl (r_indexSlQ (k := n6) Tryz.runUnderlying128 Tryz.sizeOf63 rfl rfl (by first | rfl | omega) (by omega)) ?_
      refine s_takeE rfl rfl (r_load1 Tryz.isAgg63 rfl (Rd.at1 hR.rd (rvals_get (by omega)))) ?_
      refine s_takeE rfl rfl (r_move) ?_
      have hml_50 := Mat.len hm.m (k := n6) (by omega)
      refine s_takeE rfl rfl (r_indexSlQ (k := j) Tryz.runUnderlying63 Tryz.sizeOf3 rfl rfl (by first | rfl | omega) (by omega)) ?_
      refine s_takeE rfl rfl (r_load1 Tryz.isAgg3 rfl (Rd.at1 (Mat.rd hm.m (k := n6) (by omega)) (fs_get (by omega)))) ?_
      refine s_takeE rfl rfl (r_move) ?_
      have hf_51 := f_lt ((R2.getD n6 rw0).l.getD j 0)
      have hf_52 := f_lt ((1 : F) * fInv ((R1.getD n6 rw0).l.getD c 0))
      have hm_53 := mul_bd ((((R2.getD n6 rw0).l.getD j 0).val : Nat) : Int) ((((1 : F) * fInv ((R1.getD n6 rw0).l.getD c 0)).val : Nat) : Int) (by omega) (by omega) (by omega) (by omega)
      refine s_takeE rfl rfl (r_muli rfl rfl (by omega)) ?_
      refine s_takeE rfl rfl (r_remF (z := (((R2.getD n6 rw0).l.getD j 0) * ((1 : F) * fInv ((R1.getD n6 rw0).l.getD c 0)))) rfl rfl (by omega) (by simp only [fI_add, fI_mul, fI_sub, fI_cast, fI_257, fI_0, fI_1])) ?_
      have hml_54 := Mat.len hm.m (k := n6) (by omega)
      refine s_val rfl rfl (r_indexSlQ (k := j) Tryz.runUnderlying63 Tryz.sizeOf3 rfl rfl (by first | rfl | omega) (by omega)) rfl ?_
      have hq_56 := hm.q n6 (by omega)
      obtain ⟨hq_561, hq_562, hq_563⟩ := hq_56
      have hml_57 := Mat.len hm.m (k := n6) (by omega)
      refine s_do rfl rfl (w_set_f (o := 0) (k := j) (v := (((R2.getD n6 rw0).l.getD j 0) * ((1 : F) * fInv ((R1.getD n6 rw0).l.getD c 0)))) (l := (R2.getD n6 rw0).l) Tryz.sizeOf3 rfl rfl (hm.m.row n6 (by omega)).1 (by omega)) rfl ?_
      rintro _ w55 ⟨q_w55, c_w55⟩
      have hs_w55 : w49.heap.size ≤ w55.heap.size := Chg.size c_w55
      replace hR := hR.kb c_w55 (by omega)
      replace ho6 := ho6.kb c_w55 (Owns.ne_lt ho6 (by omega))
      have C_w55 := Chg.into C_w49 c_w55 (by intro b_ _ _ m_; rw [m_.1]; exact .inr hq_561)
      replace hm := hm.putR (by omega) c_w55 q_w55
      replace hR : Pc w55 bR 0 (rvals (rowSet R2 n6 ((R2.getD n6 rw0).l.set j (((R2.getD n6 rw0).l.getD j 0) * ((1 : F) * fInv ((R1.getD n6 rw0).l.getD c 0)))))) := by rw [rvals_rowSet _ (by rw [List.length_set]) (by omega)]; exact hR
      refine s_end ?_
      refine go_nil (block_normal ?_)
      refine go_region 2 rfl rfl ?_
      refine s_val rfl rfl (r_addi rfl rfl (by omega)) rfl ?_
      refine s_val rfl rfl (r_move) rfl ?_
      refine s_end ?_
      refine go_nil (loop_normal ⟨⟨(j + 1, (rowSet R2 n6 ((R2.getD n6 rw0).l.set j (((R2.getD n6 rw0).l.getD j 0) * ((1 : F) * fInv ((R1.getD n6 rw0).l.getD c 0)))))), by first | omega | (dsimp only; omega), ⟨rfl, by omega, by rw [hl2, hR2, rowSet_two]; rfl, by simpa using hRl, hm, hR, by omega, Owns.mono ho6 (by omega), by omega, C_w55⟩⟩, (by repeat (first | exact same_refl | exact same_over | refine same_upd rfl ?_ | refine same_over2 rfl ?_))⟩)
     ·first | replace h5 := dcF h5 | replace h5 := dcT (nf h5) | skip
      have ob_58 : j = u + 1 := by omega
      obtain rfl := ob_58
      refine go_exit (loop_exit (block_hit ?_))
      refine go_seq ?_
      refine go_seq ?_
      refine go_region 3 rfl rfl ?_
      refine s_val rfl rfl (r_move) rfl ?_
      refine s_val rfl rfl (r_len Tryz.runUnderlying128 rfl) rfl ?_
      refine s_val rfl rfl (r_move) rfl ?_
      refine s_end ?_
      refine go_block ?_
      refine go_loopM (σ := Nat × List Rw) [(12, 14), (102, 159)] (fun (x_ : Nat × List Rw) e' w' => match x_ with | (i, R3) => e' 102 = i64 (i : Nat) ∧ i ≤ N ∧ R3 = elimTo R2 n6 c i ∧ R3.length = N ∧ MatQ w' (fun b_ => Qs b_ ∧ b_ < w.heap.size ∧ b_ ≠ bR) (u + 1) R3 ∧ Pc w' bR 0 (rvals R3) ∧ w.heap.size ≤ w'.heap.size ∧ Owns w' w.heap.size 3 1 (Value.slice a6 n6 c6) n6 (ns piv) ∧ n6 ≤ c6 ∧ Chg (fun b_ _ => b_ = bR ∨ Qs b_) w w') (fun (x_ : Nat × List Rw) => match x_ with | (i, R3) => N - i) (0, R2) ?_ ?_
      ·exact ⟨rfl, by omega, rfl, by simpa using hRl, hm, hR, by omega, Owns.mono ho6 (by omega), by omega, C_w44⟩
      rintro ⟨i, R3⟩ f60 w59 ⟨e61, hi, hR3, hRl, hm, hR, hB_ho6, ho6, hc6, C_w59⟩
      have ob_63 : ∃ g_, f60 = upd g_ 102 (i64 (i : Nat)) := ⟨f60, upd_id e61⟩
      obtain ⟨f62, rfl⟩ := ob_63
      clear e61
      have hs_w59 : w.heap.size ≤ w59.heap.size := Chg.size C_w59
      refine go_seq ?_
      refine go_region 1 rfl rfl ?_
      refine s_val rfl rfl (r_lss rfl rfl) rfl ?_
      refine s_end ?_
      refine go_seq ?_
      refine go_ifb _ rfl (fun h6 => ?_) (fun h6 => ?_)
      ·first | replace h6 := dcT h6 | replace h6 := dcF (nt h6) | skip
       refine go_skip ?_
       refine go_seq ?_
       refine go_block ?_
       refine go_seq ?_
       refine go_region 2 rfl rfl ?_
       refine s_val rfl rfl (r_move) rfl ?_
       refine s_val rfl rfl (r_assign) rfl ?_
       refine s_end ?_
       refine go_seq ?_
       refine go_seq ?_
       refine go_region 13 rfl rfl ?_
       refine s_val rfl rfl (r_move) rfl ?_
       refine s_val rfl rfl (r_move) rfl ?_
       refine s_val rfl rfl (r_eql rfl rfl) rfl ?_
       refine s_valB rfl rfl (r_move) rfl (fun h64 => ?_) (fun h64 => ?_)
       ·first | replace h64 := dcT h64 | replace h64 := dcF (nt h64) | skip
        refine s_val_not rfl rfl ?_
        refine s_val_not rfl rfl ?_
        refine s_val_not rfl rfl ?_
        refine s_val_not rfl rfl ?_
        refine s_val_not rfl rfl ?_
        refine s_val_not rfl rfl ?_
        refine s_val_not rfl rfl ?_
        refine s_val_not rfl rfl ?_
        refine s_val rfl rfl (r_pick true rfl) rfl ?_
        refine s_end ?_
        refine go_true rfl ?_
        refine go_exit (block_hit ?_)
        refine go_region 2 rfl rfl ?_
        refine s_val rfl rfl (r_addi rfl rfl (by omega)) rfl ?_
        refine s_val rfl rfl (r_move) rfl ?_
        refine s_end ?_
        refine go_nil (loop_normal ⟨⟨(i + 1, R3), by first | omega | (dsimp only; omega), ⟨rfl, by omega, by rw [elimTo, if_pos (.inl (by omega))]; exact hR3, hRl, hm, hR, by omega, ho6, hc6, C_w59⟩⟩, (by repeat (first | exact same_refl | exact same_over | refine same_upd rfl ?_ | refine same_over2 rfl ?_))⟩)
       ·first | replace h64 := dcF h64 | replace h64 := dcT (nf h64) | skip
        have hir := h64
        refine s_val_g rfl rfl (r_move) rfl ?_
        refine s_val_g rfl rfl (r_move) rfl ?_
        refine s_val_g rfl rfl (r_indexSlQ (k := i) Tryz.runUnderlying128 Tryz.sizeOf63 rfl rfl (by first | rfl | omega) (by omega)) rfl ?_
        refine s_val_g rfl rfl (r_load1 Tryz.isAgg63 rfl (Rd.at1 hR.rd (rvals_get (by omega)))) rfl ?_
        refine s_val_g rfl rfl (r_move) rfl ?_
        have hml_65 := Mat.len hm.m (k := i) (by omega)
        refine s_val_g rfl rfl (r_indexSlQ (k := c) Tryz.runUnderlying63 Tryz.sizeOf3 rfl rfl (by first | rfl | omega) (by omega)) rfl ?_
        refine s_val_g rfl rfl (r_load1 Tryz.isAgg3 rfl (Rd.at1 (Mat.rd hm.m (k := i) (by omega)) (fs_get (by omega)))) rfl ?_
        refine s_val_g rfl rfl (r_eql rfl rfl) rfl ?_
        refine s_val rfl rfl (r_pick false rfl) rfl ?_
        refine s_end ?_
        refine go_ifb _ rfl (fun h7 => ?_) (fun h7 => ?_)
        ·first | replace h7 := dcT h7 | replace h7 := dcF (nt h7) | skip
         refine go_exit (block_hit ?_)
         refine go_region 2 rfl rfl ?_
         refine s_val rfl rfl (r_addi rfl rfl (by omega)) rfl ?_
         refine s_val rfl rfl (r_move) rfl ?_
         refine s_end ?_
         refine go_nil (loop_normal ⟨⟨(i + 1, R3), by first | omega | (dsimp only; omega), ⟨rfl, by omega, by rw [elimTo, ← hR3, if_pos (.inr (f_ext h7))], hRl, hm, hR, by omega, ho6, hc6, C_w59⟩⟩, (by repeat (first | exact same_refl | exact same_over | refine same_upd rfl ?_ | refine same_over2 rfl ?_))⟩)
        ·first | replace h7 := dcF h7 | replace h7 := dcT (nf h7) | skip
         refine go_skip ?_
         refine go_seq ?_
         refine go_region 9 rfl rfl ?_
         refine s_val rfl rfl (r_move) rfl ?_
         refine s_val rfl rfl (r_move) rfl ?_
         refine s_val rfl rfl (r_indexSlQ (k := i) Tryz.runUnderlying128 Tryz.sizeOf63 rfl rfl (by first | rfl | omega) (by omega)) rfl ?_
         refine s_val rfl rfl (r_load1 Tryz.isAgg63 rfl (Rd.at1 hR.rd (rvals_get (by omega)))) rfl ?_
         refine s_val rfl rfl (r_move) rfl ?_
         have hml_66 := Mat.len hm.m (k := i) (by omega)
         refine s_val rfl rfl (r_indexSlQ (k := c) Tryz.runUnderlying63 Tryz.sizeOf3 rfl rfl (by first | rfl | omega) (by omega)) rfl ?_
         refine s_val rfl rfl (r_load1 Tryz.isAgg3 rfl (Rd.at1 (Mat.rd hm.m (k := i) (by omega)) (fs_get (by omega)))) rfl ?_
         have hf_67 := f_lt ((R3.getD i rw0).l.getD c 0)
         refine s_val rfl rfl (r_subi rfl rfl (by omega)) rfl ?_
         refine s_val rfl rfl (r_assign) rfl ?_
         refine s_end ?_
         refine go_seq ?_
         refine go_region 6 rfl rfl ?_
         refine s_val rfl rfl (r_move) rfl ?_
         refine s_val rfl rfl (r_move) rfl ?_
         refine s_val rfl rfl (r_indexSlQ (k := i) Tryz.runUnderlying128 Tryz.sizeOf63 rfl rfl (by first | rfl | omega) (by omega)) rfl ?_
         refine s_val rfl rfl (r_load1 Tryz.isAgg63 rfl (Rd.at1 hR.rd (rvals_get (by omega)))) rfl ?_
         have hml_68 := Mat.len hm.m (k := i) (by omega)
         refine s_val rfl rfl (r_len Tryz.runUnderlying63 rfl) rfl ?_
         refine s_val rfl rfl (r_move) rfl ?_
         refine s_end ?_
         refine go_block ?_
         have hli3 := Mat.len hm.m (k := i) (by omega)
         have hlr3 := Mat.len hm.m (k := n6) (by omega)
         refine go_loopM (σ := Nat × List Rw) [(14, 14), (131, 158)] (fun (x_ : Nat × List Rw) e' w' => match x_ with | (j, R4) => e' 131 = i64 (j : Nat) ∧ j ≤ u + 1 ∧ R4 = rowSet R3 i (subTo ((R3.getD i rw0).l.getD c 0) (R3.getD i rw0).l (R3.getD n6 rw0).l j) ∧ R4.length = N ∧ MatQ w' (fun b_ => Qs b_ ∧ b_ < w.heap.size ∧ b_ ≠ bR) (u + 1) R4 ∧ Pc w' bR 0 (rvals R4) ∧ w.heap.size ≤ w'.heap.size ∧ Owns w' w.heap.size 3 1 (Value.slice a6 n6 c6) n6 (ns piv) ∧ n6 ≤ c6 ∧ Chg (fun b_ _ => b_ = bR ∨ Qs b_) w w') (fun (x_ : Nat × List Rw) => match x_ with | (j, R4) => u + 1 - j) (0, R3) ?_ ?_
         ·exact ⟨rfl, by omega, (rowSet_same (by omega)).symm, by simpa using hRl, hm, hR, by omega, Owns.mono ho6 (by omega), by omega, C_w59⟩
         rintro ⟨j, R4⟩ f70 w69 ⟨e71, hj, hR4, hRl, hm, hR, hB_ho6, ho6, hc6, C_w69⟩
         have ob_73 : ∃ g_, f70 = upd g_ 131 (i64 (j : Nat)) := ⟨f70, upd_id e71⟩
         obtain ⟨f72, rfl⟩ := ob_73
         clear e71
         have hs_w69 : w.heap.size ≤ w69.heap.size := Chg.size C_w69
         have hli : (R4.getD i rw0).l = (subTo ((R3.getD i rw0).l.getD c 0) (R3.getD i rw0).l (R3.getD n6 rw0).l j) := by rw [hR4, rowSet_at (by omega)]
         have hlr : (R4.getD n6 rw0).l = (R3.getD n6 rw0).l := by rw [hR4, rowSet_off (by omega)]
         refine go_seq ?_
         refine go_region 1 rfl rfl ?_
         refine s_val rfl rfl (r_lss rfl rfl) rfl ?_
         refine s_end ?_
         refine go_seq ?_
         refine go_ifb _ rfl (fun h8 => ?_) (fun h8 => ?_)
         ·first | replace h8 := dcT h8 | replace h8 := dcF (nt h8) | skip
          refine go_skip ?_
          refine go_seq ?_
          refine go_block ?_
          refine go_seq ?_
          refine go_region 2 rfl rfl ?_
          refine s_val rfl rfl (r_move) rfl ?_
          refine s_val rfl rfl (r_assign) rfl ?_
          refine s_end ?_
          refine go_drawsE 23 (.take 0 (.take 1 (.take 2 (.take 3 (.take 4 (.take 5 (.take 6 (.take 7 (.take 8 (.take 9 (.take 10 (.take 11 (.take 12 (.take 13 (.take 14 (.take 15 (.take 16 (.take 17 (.take 18 (.take 19 (.take 20 (.take 21 (.take 22 (.eff 23 (.eff 24 .done))))))))))))))))))))))))) (by kernel_rfl) (by kernel_rfl) fun w74 c_w74 => ?_
          have hs_w74 : w69.heap.size ≤ w74.heap.size := Chg.size c_w74
          replace hm := hm.k c_w74
          replace hR := hR.k c_w74
          replace ho6 := ho6.k c_w74
          have C_w74 := Chg.pure C_w69 c_w74
          refine s_takeE rfl rfl (r_move) ?_
          refine s_takeE rfl rfl (r_move) ?_
          refine s_takeE rfl rfl (r_indexSlQ (k := i) Tryz.runUnderlying128 Tryz.sizeOf63 rfl rfl (by first | rfl | omega) (by omega)) ?_
          refine s_takeE rfl rfl (r_load1 Tryz.isAgg63 rfl (Rd.at1 hR.rd (rvals_get (by omega)))) ?_
          refine s_takeE rfl rfl (r_move) ?_
          refine s_takeE rfl rfl (r_move) ?_
          refine s_takeE rfl rfl (r_move) ?_
          refine s_takeE rfl rfl (r_indexSlQ (k := i) Tryz.runUnderlying128 Tryz.sizeOf63 rfl rfl (by first | rfl | omega) (by omega)) ?_
          refine s_takeE rfl rfl (r_load1 Tryz.isAgg63 rfl (Rd.at1 hR.rd (rvals_get (by omega)))) ?_
          refine s_takeE rfl rfl (r_move) ?_
          have hml_75 := Mat.len hm.m (k := i) (by omega)
          refine s_takeE rfl rfl (r_indexSlQ (k := j) Tryz.runUnderlying63 Tryz.sizeOf3 rfl rfl (by first | rfl | omega) (by omega)) ?_
          refine s_takeE rfl rfl (r_load1 Tryz.isAgg3 rfl (Rd.at1 (Mat.rd hm.m (k := i) (by omega)) (fs_get (by omega)))) ?_
          refine s_takeE rfl rfl (r_move) ?_
          refine s_takeE rfl rfl (r_move) ?_
          refine s_takeE rfl rfl (r_move) ?_
          refine s_takeE rfl rfl (r_indexSlQ (k := n6) Tryz.runUnderlying128 Tryz.sizeOf63 rfl rfl (by first | rfl | omega) (by omega)) ?_
          refine s_takeE rfl rfl (r_load1 Tryz.isAgg63 rfl (Rd.at1 hR.rd (rvals_get (by omega)))) ?_
          refine s_takeE rfl rfl (r_move) ?_
          have hml_76 := Mat.len hm.m (k := n6) (by omega)
          refine s_takeE rfl rfl (r_indexSlQ (k := j) Tryz.runUnderlying63 Tryz.sizeOf3 rfl rfl (by first | rfl | omega) (by omega)) ?_
          refine s_takeE rfl rfl (r_load1 Tryz.isAgg3 rfl (Rd.at1 (Mat.rd hm.m (k := n6) (by omega)) (fs_get (by omega)))) ?_
          have hf_77 := f_lt ((R4.getD n6 rw0).l.getD j 0)
          have hm_78 := mul_bd (257 - ((((R3.getD i rw0).l.getD c 0).val : Nat) : Int)) ((((R4.getD n6 rw0).l.getD j 0).val : Nat) : Int) (by omega) (by omega) (by omega) (by omega)
          refine s_takeE rfl rfl (r_muli rfl rfl (by omega)) ?_
          have hf_79 := f_lt ((R4.getD i rw0).l.getD j 0)
          refine s_takeE rfl rfl (r_addi rfl rfl (by omega)) ?_
          refine s_takeE rfl rfl (r_remF (z := (((R4.getD i rw0).l.getD j 0) + (((0 : F) - ((R3.getD i rw0).l.getD c 0)) * ((R4.getD n6 rw0).l.getD j 0)))) rfl rfl (by omega) (by simp only [fI_add, fI_mul, fI_sub, fI_cast, fI_257, fI_0, fI_1])) ?_
          have hml_80 := Mat.len hm.m (k := i) (by omega)
          refine s_val rfl rfl (r_indexSlQ (k := j) Tryz.runUnderlying63 Tryz.sizeOf3 rfl rfl (by first | rfl | omega) (by omega)) rfl ?_
          have hq_82 := hm.q i (by omega)
          obtain ⟨hq_821, hq_822, hq_823⟩ := hq_82
          have hml_83 := Mat.len hm.m (k := i) (by omega)
          refine s_do rfl rfl (w_set_f (o := 0) (k := j) (v := (((R4.getD i rw0).l.getD j 0) + (((0 : F) - ((R3.getD i rw0).l.getD c 0)) * ((R4.getD n6 rw0).l.getD j 0)))) (l := (R4.getD i rw0).l) Tryz.sizeOf3 rfl rfl (hm.m.row i (by omega)).1 (by omega)) rfl ?_
          rintro _ w81 ⟨q_w81, c_w81⟩
          have hs_w81 : w74.heap.size ≤ w81.heap.size := Chg.size c_w81
          replace hR := hR.kb c_w81 (by omega)
          replace ho6 := ho6.kb c_w81 (Owns.ne_lt ho6 (by omega))
          have C_w81 := Chg.into C_w74 c_w81 (by intro b_ _ _ m_; rw [m_.1]; exact .inr hq_821)
          replace hm := hm.putR (by omega) c_w81 q_w81
          replace hR : Pc w81 bR 0 (rvals (rowSet R4 i ((R4.getD i rw0).l.set j (((R4.getD i rw0).l.getD j 0) + (((0 : F) - ((R3.getD i rw0).l.getD c 0)) * ((R4.getD n6 rw0).l.getD j 0)))))) := by rw [rvals_rowSet _ (by rw [List.length_set]) (by omega)]; exact hR
          refine s_end ?_
          refine go_nil (block_normal ?_)
          refine go_region 2 rfl rfl ?_
          refine s_val rfl rfl (r_addi rfl rfl (by omega)) rfl ?_
          refine s_val rfl rfl (r_move) rfl ?_
          refine s_end ?_
          refine go_nil (loop_normal ⟨⟨(j + 1, (rowSet R4 i ((R4.getD i rw0).l.set j (((R4.getD i rw0).l.getD j 0) + (((0 : F) - ((R3.getD i rw0).l.getD c 0)) * ((R4.getD n6 rw0).l.getD j 0)))))), by first | omega | (dsimp only; omega), ⟨rfl, by omega, by rw [hli, hlr, hR4, rowSet_two]; rfl, by simpa using hRl, hm, hR, by omega, Owns.mono ho6 (by omega), by omega, C_w81⟩⟩, (by repeat (first | exact same_refl | exact same_over | refine same_upd rfl ?_ | refine same_over2 rfl ?_))⟩)
         ·first | replace h8 := dcF h8 | replace h8 := dcT (nf h8) | skip
          have ob_84 : j = u + 1 := by omega
          obtain rfl := ob_84
          rw [← hli3, subTo_all (by omega)] at hR4
          refine go_exit (loop_exit (block_hit ?_))
          refine go_nil (block_normal ?_)
          refine go_region 2 rfl rfl ?_
          refine s_val rfl rfl (r_addi rfl rfl (by omega)) rfl ?_
          refine s_val rfl rfl (r_move) rfl ?_
          refine s_end ?_
          refine go_nil (loop_normal ⟨⟨(i + 1, R4), by first | omega | (dsimp only; omega), ⟨rfl, by omega, by rw [elimTo, ← hR3, if_neg (fun h_ => h_.elim (by omega) (fun e_ => h7 (by rw [e_]; rfl)))]; exact hR4, hRl, hm, hR, by omega, ho6, hc6, C_w69⟩⟩, (by repeat (first | exact same_refl | exact same_over | refine same_upd rfl ?_ | refine same_over2 rfl ?_))⟩)
      ·first | replace h6 := dcF h6 | replace h6 := dcT (nf h6) | skip
       have hiN : i = R1.length := by omega
       have hlsE : lsOf (elimTo R2 n6 c i) = elimL (lsOf R1) n6 c ((1 : F) * fInv ((R1.getD n6 rw0).l.getD c 0)) := by rw [hR2, hiN]; exact elim_round hlen1 (by omega)
       refine go_exit (loop_exit (block_hit ?_))
       refine go_seq ?_
       refine go_region 5 rfl rfl ?_
       refine s_val rfl rfl (r_move) rfl ?_
       refine s_val rfl rfl (r_move) rfl ?_
       refine s_do rfl rfl (w_build1 (v := (i64 (((c : Nat) : Int)))) (E := 3) Tryz.underlying63 (i := Tryz.t3) (by kernel_rfl) rfl rfl rfl rfl rfl) rfl ?_
       rintro _ w85 ⟨b86, rfl, hl_b86, hu_b86, o88, p87, c_w85⟩
       have ne_b86_ho6 := Owns.ne_ge ho6 hl_b86
       have hs_w85 : w59.heap.size ≤ w85.heap.size := Chg.size c_w85
       replace hm := hm.k c_w85
       replace hR := hR.k c_w85
       replace ho6 := ho6.k c_w85
       have C_w85 := Chg.pure C_w59 c_w85
       have hn_b86 : w.heap.size ≤ b86 := by have := Chg.size C_w85; omega
       replace p87 : Pc w85 b86 0 (ns [c]) := p87
       refine s_do rfl rfl (w_append (E := 3) (sz := 1) Tryz.underlying63 rfl (i := Tryz.t3) (by kernel_rfl) rfl rfl rfl rfl (by rfl) ho6 rfl (SlAt.some p87.rd) (by first | (rw [bs_length]; omega) | (simp [bs_length]; done) | (simp [bs_length]; omega) | rfl) (flat_ns _) (by omega) (by show _ * 8 ≤ _; omega) (by omega)) rfl ?_
       rintro v93 w89 ⟨o90, c_w89⟩
       have hs_w89 : w85.heap.size ≤ w89.heap.size := Chg.size c_w89
       replace hm := hm.kob c_w89 (fun b_ ⟨_, h1_, h2_⟩ => Owns.ne_lt ho6 (by omega))
       replace hR := hR.kob c_w89 (Owns.ne_lt ho6 (by omega))
       replace p87 := p87.kob c_w89 ne_b86_ho6
       have C_w89 := Chg.newOb C_w85 c_w89 ho6 (by omega)
       have hfo_o90 := Owns.form2 o90
       obtain ⟨A91, cap92, e_o90, hc_cap92⟩ := hfo_o90
       subst e_o90
       replace o90 := Owns.appN o90
       refine s_val rfl rfl (r_assign) rfl ?_
       refine s_end ?_
       refine go_region 3 rfl rfl ?_
       refine s_val rfl rfl (r_move) rfl ?_
       refine s_val rfl rfl (r_addi rfl rfl (by omega)) rfl ?_
       refine s_val rfl rfl (r_assign) rfl ?_
       refine s_end ?_
       refine go_nil (block_normal ?_)
       refine go_region 3 rfl rfl ?_
       refine s_val rfl rfl (r_move) rfl ?_
       refine s_val rfl rfl (r_addi rfl rfl (by omega)) rfl ?_
       refine s_val rfl rfl (r_assign) rfl ?_
       refine s_end ?_
       refine go_nil (loop_normal ⟨⟨(c + 1, R3, piv ++ [c], A91, n6 + 1, cap92), by first | omega | (dsimp only; omega), ⟨rfl, rfl, rfl, by omega, by rw [hR3, hlsE, ← hgj, gj_piv (N := N) (c := c) (rows := lsOf R) (piv := piv) (k := k) (by omega) (by omega) (by rw [hpl]; exact hsk) h4, hpl, hls1, hpf], by rw [List.length_append, hpl]; rfl, by omega, fun q h_ => by
        rcases List.mem_append.1 h_ with h_ | h_
        ·exact hplt q h_
        ·rw [List.mem_singleton.1 h_]; omega, hRl, hm, hR, by omega, o90, by omega, C_w89⟩⟩, (by repeat (first | exact same_refl | exact same_over | refine same_upd rfl ?_ | refine same_over2 rfl ?_))⟩)
   ·first | replace hrN := dcF hrN | replace hrN := dcT (nf hrN) | skip
    refine go_exit (loop_exit (block_hit ?_))
    refine go_nil (loop_normal ⟨?_, (by repeat (first | exact same_refl | exact same_over | refine same_upd rfl ?_ | refine same_over2 rfl ?_))⟩)
    exact ⟨R, piv, a6, n6, c6, rfl, rfl, by rw [← hgj]; exact gj_endN (by omega), hpl, hpn, hplt, hRl, hm, hR, by omega, ho6, hc6, C_w8⟩
  ·first | replace h19 := dcF h19 | replace h19 := dcT (nf h19) | skip
   have hcu := h19
   refine s_val_not rfl rfl ?_
   refine s_val_not rfl rfl ?_
   refine s_val_not rfl rfl ?_
   refine s_val_not rfl rfl ?_
   refine s_val rfl rfl (r_pick false rfl) rfl ?_
   refine s_end ?_
   refine go_false rfl ?_
   refine go_exit (loop_exit (block_hit ?_))
   refine go_nil (loop_normal ⟨?_, (by repeat (first | exact same_refl | exact same_over | refine same_upd rfl ?_ | refine same_over2 rfl ?_))⟩)
   exact ⟨R, piv, a6, n6, c6, rfl, rfl, by rw [← hgj]; exact gj_end0 (by omega), hpl, hpn, hplt, hRl, hm, hR, by omega, ho6, hc6, C_w8⟩
 rintro f7 w6 ⟨R, piv, a6, n6, c6, e94, e95, hfin, hpl, hpn, hplt, hRl, hm, hR, hB_ho6, ho6, hc6, C_w6⟩
 have ob_97 : ∃ g_, f7 = upd g_ 7 (i64 (n6 : Nat)) := ⟨f7, upd_id e94⟩
 obtain ⟨f96, rfl⟩ := ob_97
 have ob_99 : ∃ g_, f96 = upd g_ 6 (Value.slice a6 n6 c6) := ⟨f96, upd_id e95⟩
 obtain ⟨f98, rfl⟩ := ob_99
 clear e94 e95
 have hs_w6 : w.heap.size ≤ w6.heap.size := Chg.size C_w6
 refine go_seq ?_
 refine go_seq ?_
 refine go_region 5 rfl rfl ?_
 refine s_val rfl rfl (r_move) rfl ?_
 refine s_val rfl rfl (r_move) rfl ?_
 have hRd := SlAt.cut (SlAt.some hR.rd) n6 cN 1 N (by rw [rvals_length]; omega)
 rw [Nat.mul_one, List.take_of_length_le (by rw [List.length_drop, rvals_length]; omega)] at hRd
 refine s_val rfl rfl (r_sliceSl (l := n6) (h := N) (m := cN) Tryz.runUnderlying128 Tryz.sizeOf63 rfl ⟨_, _, rfl, by first | rfl | omega⟩ rfl rfl (by first | decide | (intro h_; cases h_)) (by omega) (by first | decide | omega | (intro h_; rcases h_ with h_ | h_ <;> cases h_)) (by exact Nat.le_refl _)) rfl ?_
 refine s_val rfl rfl (r_len Tryz.runUnderlying128 rfl) rfl ?_
 refine s_val rfl rfl (r_move) rfl ?_
 refine s_end ?_
 refine go_block ?_
 refine go_loopM (σ := Nat) [(4, 5), (16, 16), (170, 179)] (fun (k : Nat) e' w' => e' 170 = i64 (k : Nat) ∧ k ≤ N - n6 ∧ (∀ i, n6 ≤ i → i < n6 + k → en (lsOf R) i u = 0) ∧ SlAt w' (cutA (some ⟨bR, 0, none⟩) n6 cN 1) ((rvals R).drop n6) ∧ R.length = N ∧ MatQ w' (fun b_ => Qs b_ ∧ b_ < w.heap.size ∧ b_ ≠ bR) (u + 1) R ∧ Pc w' bR 0 (rvals R) ∧ w.heap.size ≤ w'.heap.size ∧ Owns w' w.heap.size 3 1 (Value.slice a6 n6 c6) n6 (ns piv) ∧ n6 ≤ c6 ∧ Chg (fun b_ _ => b_ = bR ∨ Qs b_) w w') (fun (k : Nat) => N - n6 - k) 0 ?_ ?_
 ·exact ⟨rfl, by omega, (fun i h1_ h2_ => by omega), hRd, by simpa using hRl, hm, hR, by omega, Owns.mono ho6 (by omega), by omega, C_w6⟩
 rintro k f101 w100 ⟨e102, hk, hz, hRd, hRl, hm, hR, hB_ho6, ho6, hc6, C_w100⟩
 have ob_104 : ∃ g_, f101 = upd g_ 170 (i64 (k : Nat)) := ⟨f101, upd_id e102⟩
 obtain ⟨f103, rfl⟩ := ob_104
 clear e102
 have hs_w100 : w.heap.size ≤ w100.heap.size := Chg.size C_w100
 refine go_seq ?_
 refine go_region 1 rfl rfl ?_
 refine s_val rfl rfl (r_lss rfl rfl) rfl ?_
 refine s_end ?_
 refine go_seq ?_
 refine go_ifb _ rfl (fun h9 => ?_) (fun h9 => ?_)
 ·first | replace h9 := dcT h9 | replace h9 := dcF (nt h9) | skip
  refine go_skip ?_
  refine go_seq ?_
  refine go_block ?_
  refine go_seq ?_
  refine go_region 3 rfl rfl ?_
  refine s_val rfl rfl (r_indexSl (k := k) Tryz.runUnderlying128 Tryz.sizeOf63 rfl hRd (fun e_ => by have h_ := congrArg List.length e_; rw [List.length_drop, rvals_length, List.length_nil] at h_; omega) rfl (by first | rfl | omega) (by omega)) rfl ?_
  refine s_val rfl rfl (r_loadSl1 Tryz.isAgg63 rfl hRd (rvals_drop_get (by omega))) rfl ?_
  refine s_val rfl rfl (r_assign) rfl ?_
  refine s_end ?_
  refine go_seq ?_
  refine go_region 5 rfl rfl ?_
  refine s_val rfl rfl (r_move) rfl ?_
  refine s_val rfl rfl (r_move) rfl ?_
  have hml_105 := Mat.len hm.m (k := (n6 + k)) (by omega)
  refine s_val rfl rfl (r_indexSlQ (k := u) Tryz.runUnderlying63 Tryz.sizeOf3 rfl rfl (by first | rfl | omega) (by omega)) rfl ?_
  refine s_val rfl rfl (r_load1 Tryz.isAgg3 rfl (Rd.at1 (Mat.rd hm.m (k := (n6 + k)) (by omega)) (fs_get (by omega)))) rfl ?_
  refine s_val rfl rfl (r_neq rfl rfl) rfl ?_
  refine s_end ?_
  refine go_ifb _ rfl (fun h10 => ?_) (fun h10 => ?_)
  ·first | replace h10 := dcT h10 | replace h10 := dcF (nt h10) | skip
   refine go_seq ?_
   refine go_region 2 rfl rfl ?_
   refine s_val rfl rfl (r_assign) rfl ?_
   refine s_val rfl rfl (r_assign) rfl ?_
   refine s_end ?_
   refine go_ret (block_ret (loop_ret (block_ret ?_)))
   refine ⟨_, .cons rfl (.cons rfl (.nil)), ?_⟩
   rw [solveF_none hfin (i := n6 + k) (by omega) (by omega) (by rw [en_row]; exact fun e_ => h10 (by rw [e_]; rfl))]
   exact ⟨rfl, C_w100⟩
  ·first | replace h10 := dcF h10 | replace h10 := dcT (nf h10) | skip
   have hzN : ∀ i, n6 ≤ i → i < n6 + (k + 1) → en (lsOf R) i u = 0 := fun i h1_ h2_ => by
    rcases Nat.lt_or_ge i (n6 + k) with h3_ | h3_
    ·exact hz i h1_ h3_
    ·have ob_106 : i = n6 + k := by omega
     obtain rfl := ob_106
     rw [en_row]; exact f_ext (show _ = (0 : Int) by omega)
   refine go_skip ?_
   refine go_nil (block_normal ?_)
   refine go_region 2 rfl rfl ?_
   refine s_val rfl rfl (r_addi rfl rfl (by omega)) rfl ?_
   refine s_val rfl rfl (r_move) rfl ?_
   refine s_end ?_
   refine go_nil (loop_normal ⟨⟨(k + 1), by first | omega | (dsimp only; omega), ⟨rfl, by omega, hzN, hRd, by simpa using hRl, hm, hR, by omega, Owns.mono ho6 (by omega), by omega, C_w100⟩⟩, (by repeat (first | exact same_refl | exact same_over | refine same_upd rfl ?_ | refine same_over2 rfl ?_))⟩)
 ·first | replace h9 := dcF h9 | replace h9 := dcT (nf h9) | skip
  have hz2 : ∀ i, piv.length ≤ i → i < N → en (lsOf R) i u = 0 := fun i h1_ h2_ => hz i (by omega) (by omega)
  refine go_exit (loop_exit (block_hit ?_))
  refine go_seq ?_
  refine go_region 3 rfl rfl ?_
  refine s_val rfl rfl (r_move) rfl ?_
  refine s_do rfl rfl (w_make (n := u) (c := u) (E := 3) Tryz.underlying63 (i := Tryz.t3) (by kernel_rfl) rfl rfl rfl rfl rfl (by first | rfl | omega) (by first | rfl | omega) (by omega) (by first | decide | (show _ * 1 ≤ _; omega) | (show _ * 8 ≤ _; omega)) (by omega)) rfl ?_
  rintro _ w107 ⟨b108, rfl, hl_b108, hu_b108, o110, p109, c_w107⟩
  have ne_b108_ho6 := Owns.ne_ge ho6 hl_b108
  have hs_w107 : w100.heap.size ≤ w107.heap.size := Chg.size c_w107
  replace hRd := hRd.k c_w107
  replace hm := hm.k c_w107
  replace hR := hR.k c_w107
  replace ho6 := ho6.k c_w107
  have C_w107 := Chg.pure C_w100 c_w107
  have hn_b108 : w.heap.size ≤ b108 := by have := Chg.size C_w107; omega
  replace p109 : Pc w107 b108 0 (fs (List.replicate u 0)) := by rw [← fs_rep]; exact p109
  refine s_val rfl rfl (r_assign) rfl ?_
  refine s_end ?_
  refine go_seq ?_
  refine go_seq ?_
  refine go_region 3 rfl rfl ?_
  refine s_val rfl rfl (r_move) rfl ?_
  refine s_val rfl rfl (r_len Tryz.runUnderlying63 rfl) rfl ?_
  refine s_val rfl rfl (r_move) rfl ?_
  refine s_end ?_
  refine go_block ?_
  refine go_loopM (σ := Nat) [(18, 19), (184, 199)] (fun (i : Nat) e' w' => e' 184 = i64 (i : Nat) ∧ i ≤ n6 ∧ Pc w' b108 0 (fs (outTo u (lsOf R) piv i)) ∧ b108 < w'.heap.size ∧ R.length = N ∧ MatQ w' (fun b_ => Qs b_ ∧ b_ < w.heap.size ∧ b_ ≠ bR) (u + 1) R ∧ Pc w' bR 0 (rvals R) ∧ w.heap.size ≤ w'.heap.size ∧ Owns w' w.heap.size 3 1 (Value.slice a6 n6 c6) n6 (ns piv) ∧ n6 ≤ c6 ∧ Chg (fun b_ _ => b_ = bR ∨ Qs b_) w w') (fun (i : Nat) => n6 - i) 0 ?_ ?_
  ·exact ⟨rfl, by omega, p109, by omega, by simpa using hRl, hm, hR, by omega, Owns.mono ho6 (by omega), by omega, C_w107⟩
  rintro i f112 w111 ⟨e113, hi, hO, huO, hRl, hm, hR, hB_ho6, ho6, hc6, C_w111⟩
  have ob_115 : ∃ g_, f112 = upd g_ 184 (i64 (i : Nat)) := ⟨f112, upd_id e113⟩
  obtain ⟨f114, rfl⟩ := ob_115
  clear e113
  have hs_w111 : w.heap.size ≤ w111.heap.size := Chg.size C_w111
  have hOl := outTo_len u (lsOf R) piv i
  refine go_seq ?_
  refine go_region 1 rfl rfl ?_
  refine s_val rfl rfl (r_lss rfl rfl) rfl ?_
  refine s_end ?_
  refine go_seq ?_
  refine go_ifb _ rfl (fun h11 => ?_) (fun h11 => ?_)
  ·first | replace h11 := dcT h11 | replace h11 := dcF (nt h11) | skip
   refine go_skip ?_
   refine go_seq ?_
   refine go_block ?_
   refine go_seq ?_
   refine go_region 5 rfl rfl ?_
   refine s_val rfl rfl (r_move) rfl ?_
   refine s_val rfl rfl (r_indexSl (k := i) Tryz.runUnderlying63 Tryz.sizeOf3 rfl (Owns.sl ho6) (ns_ne (by first | omega | (simp; try omega))) rfl (by first | rfl | omega) (by omega)) rfl ?_
   have hpg_ := hplt (piv.getD i 0) (by rw [List.getD_eq_getElem?_getD, List.getElem?_eq_getElem (by omega)]; exact List.getElem_mem _)
   refine s_val rfl rfl (r_loadSl1 Tryz.isAgg3 rfl (Owns.sl ho6) (ns_get (by first | omega | (simp; try omega)))) rfl ?_
   refine s_val rfl rfl (r_assign) rfl ?_
   refine s_val rfl rfl (r_assign) rfl ?_
   refine s_end ?_
   refine go_region 11 rfl rfl ?_
   refine s_val rfl rfl (r_move) rfl ?_
   refine s_val rfl rfl (r_move) rfl ?_
   refine s_val rfl rfl (r_move) rfl ?_
   refine s_val rfl rfl (r_move) rfl ?_
   refine s_val rfl rfl (r_indexSlQ (k := i) Tryz.runUnderlying128 Tryz.sizeOf63 rfl rfl (by first | rfl | omega) (by omega)) rfl ?_
   refine s_val rfl rfl (r_load1 Tryz.isAgg63 rfl (Rd.at1 hR.rd (rvals_get (by omega)))) rfl ?_
   refine s_val rfl rfl (r_move) rfl ?_
   have hml_116 := Mat.len hm.m (k := i) (by omega)
   refine s_val rfl rfl (r_indexSlQ (k := u) Tryz.runUnderlying63 Tryz.sizeOf3 rfl rfl (by first | rfl | omega) (by omega)) rfl ?_
   refine s_val rfl rfl (r_load1 Tryz.isAgg3 rfl (Rd.at1 (Mat.rd hm.m (k := i) (by omega)) (fs_get (by omega)))) rfl ?_
   refine s_val rfl rfl (r_indexSlQ (k := (piv.getD i 0)) Tryz.runUnderlying63 Tryz.sizeOf3 rfl rfl (by first | rfl | omega) (by omega)) rfl ?_
   refine s_do rfl rfl (w_set_f (o := 0) (k := (piv.getD i 0)) (v := ((R.getD i rw0).l.getD u 0)) (l := (outTo u (lsOf R) piv i)) Tryz.sizeOf3 rfl rfl hO (by first | omega | (simp; try omega))) rfl ?_
   rintro _ w117 ⟨q_w117, c_w117⟩
   have hs_w117 : w111.heap.size ≤ w117.heap.size := Chg.size c_w117
   replace hm := hm.kb c_w117 (fun b_ ⟨_, h1_, h2_⟩ => by omega)
   replace hR := hR.kb c_w117 (by omega)
   replace ho6 := ho6.kb c_w117 ne_b108_ho6
   have C_w117 := Chg.newRng C_w111 c_w117 (by omega)
   have hO := q_w117
   refine s_end ?_
   refine go_nil (block_normal ?_)
   refine go_region 2 rfl rfl ?_
   refine s_val rfl rfl (r_addi rfl rfl (by omega)) rfl ?_
   refine s_val rfl rfl (r_move) rfl ?_
   refine s_end ?_
   refine go_nil (loop_normal ⟨⟨(i + 1), by first | omega | (dsimp only; omega), ⟨rfl, by omega, by rw [outTo, en_row]; exact hO, by omega, by simpa using hRl, hm, hR, by omega, Owns.mono ho6 (by omega), by omega, C_w117⟩⟩, (by repeat (first | exact same_refl | exact same_over | refine same_upd rfl ?_ | refine same_over2 rfl ?_))⟩)
  ·first | replace h11 := dcF h11 | replace h11 := dcT (nf h11) | skip
   have ob_118 : i = n6 := by omega
   obtain rfl := ob_118
   refine go_exit (loop_exit (block_hit ?_))
   refine go_seq ?_
   refine go_region 3 rfl rfl ?_
   refine s_val rfl rfl (r_move) rfl ?_
   refine s_val rfl rfl (r_assign) rfl ?_
   refine s_val rfl rfl (r_assign) rfl ?_
   refine s_end ?_
   refine go_ret ?_
   refine ⟨_, .cons rfl (.cons rfl (.nil)), ?_⟩
   rw [solveF_some hfin hz2, hpl]
   exact ⟨⟨_, _, rfl, by omega, outTo_len _ _ _ _, fun x hx => by cases hx; omega, SlAt.some hO.rd⟩, C_w111⟩
end Go.Proofs.YtippcmedgfmgbaaGreat
end
section
open Go Go.Eng Go.Proofs
namespace Go.Proofs.YtippcmedgfmgbaaGreat
theorem cloneF_spec (L : List F) (a : Option Addr) (n c : Nat) (w : World) (hn : L.length = n) (h0 : 0 < n) (hbig : n ≤ 1000) (hsl : SlAt w a (fs L)) :
  Rtn Tryz.prog 81 [Value.slice a n c].toArray w (fun v w' => ∃ b c, v = .slice (some ⟨b, 0, none⟩) n c ∧ w.heap.size ≤ b ∧ b < w'.heap.size ∧ n ≤ c ∧ Pc w' b 0 (fs L) ∧ Owns w' w.heap.size 3 1 v n (fs L) ∧ Kept w w') := by
 obtain ⟨bb, bo, rfl, hrd⟩ := SlAt.pos hsl (fs_ne (by omega))
 refine fn_body (l := [Value.slice (some ⟨bb, bo, none⟩) n c]) 8 [.tmp 2] Tryz.func81 rfl Tryz.ntmps81 (Nat.le_of_ble_eq_true rfl) (by rw [Tryz.results81]) ?_
 refine go_seq ?_
 refine go_region 1 rfl rfl ?_
 refine s_val rfl rfl (r_assign) rfl ?_
 refine s_end ?_
 refine go_seq ?_
 refine go_seq ?_
 refine go_region 2 rfl rfl ?_
 refine s_val rfl rfl (r_move) rfl ?_
 refine s_val rfl rfl (r_eqNil Tryz.underlying63 rfl) rfl ?_
 refine s_end ?_
 refine go_false rfl ?_
 refine go_skip ?_
 refine go_seq ?_
 refine go_region 4 rfl rfl ?_
 refine s_do rfl rfl (w_build0 (E := 3) (sz := 1) Tryz.underlying63 (i := Tryz.t3) (by kernel_rfl) rfl rfl) rfl ?_
 rintro v3 w1 ⟨o2, c_w1⟩
 have hs_w1 : w.heap.size ≤ w1.heap.size := Chg.size c_w1
 have C_w1 := Chg.pure (Chg.refl no w) c_w1
 have hfo_o2 := Owns.form2 o2
 obtain ⟨A4, cap5, e_o2, hc_cap5⟩ := hfo_o2
 subst e_o2
 refine s_val rfl rfl (r_move) rfl ?_
 refine s_do rfl rfl (w_append (E := 3) (sz := 1) Tryz.underlying63 rfl (i := Tryz.t3) (by kernel_rfl) rfl rfl rfl rfl (by rfl) o2 rfl (hsl.k C_w1) (by rw [fs_length]; omega) (flat_fs _) (by omega) (by show _ * 8 ≤ _; omega) (by omega)) rfl ?_
 rintro v10 w6 ⟨o7, c_w6⟩
 have hs_w6 : w1.heap.size ≤ w6.heap.size := Chg.size c_w6
 have C_w6 := Chg.newOb C_w1 c_w6 o2 (by omega)
 have hfo_o7 := Owns.form2 o7
 obtain ⟨A8, cap9, e_o7, hc_cap9⟩ := hfo_o7
 subst e_o7
 replace o7 := Owns.nilF o7
 refine s_val rfl rfl (r_assign) rfl ?_
 refine s_end ?_
 refine go_ret ?_
 refine ⟨_, .cons rfl (.nil), ?_⟩
 have hq_ : Owns w6 w.heap.size 3 1 (Value.slice A8 n cap9) n (fs L) := by have h_ := o7; rw [Nat.zero_add] at h_; exact Owns.mono h_ (by omega)
 have ob_11 := Owns.pc hq_ h0
 obtain ⟨b_, e_, h1_, h2_, h3_, h4_⟩ := ob_11
 subst e_
 exact ⟨b_, _, congrArg (fun m_ => Value.slice (some ⟨b_, 0, none⟩) m_ _) (Nat.zero_add n), h1_, h2_, h3_, h4_, by show Owns _ _ _ _ (Value.slice _ (0 + n) _) n _; rw [Nat.zero_add]; exact hq_, C_w6⟩
set_option maxHeartbeats 2000000 in
set_option maxRecDepth 100000 in
theorem reverse_spec (L : List F) (b n c : Nat) (w : World) (hn : L.length = n) (h0 : 0 < n) (hbig : n ≤ 1000) (hbw : b < w.heap.size) (hL : Pc w b 0 (fs L)) :
  Rtn Tryz.prog 102 [Value.slice (some ⟨b, 0, none⟩) n c].toArray w (fun _ w' => Pc w' b 0 (fs L.reverse) ∧ Chg (blk b) w w') := by
 have hrl := revTo_length L
 refine fn_body (l := [Value.slice (some ⟨b, 0, none⟩) n c]) 28 [] Tryz.func102 rfl Tryz.ntmps102 (Nat.le_of_ble_eq_true rfl) (by rw [Tryz.results102]) ?_
 refine go_seq ?_
 refine go_region 5 rfl rfl ?_
 refine s_val rfl rfl (r_move) rfl ?_
 refine s_val rfl rfl (r_len Tryz.runUnderlying63 rfl) rfl ?_
 refine s_val rfl rfl (r_subi rfl rfl (by omega)) rfl ?_
 refine s_val rfl rfl (r_assign) rfl ?_
 refine s_val rfl rfl (r_assign) rfl ?_
 refine s_end ?_
 refine go_block ?_
 refine go_loopM (σ := Nat) [(2, 3), (7, 27)] (fun (i : Nat) e' w' => e' 2 = i64 (i : Nat) ∧ e' 3 = i64 ((n : Nat) - 1 - (i : Nat) : Int) ∧ 2 * i ≤ n ∧ Pc w' b 0 (fs (revTo L i)) ∧ Chg (blk b) w w') (fun (i : Nat) => n - i) 0 ?_ ?_
 ·exact ⟨rfl, congrArg i64 (by omega), by omega, hL, (Chg.refl (blk b) w)⟩
 rintro i f2 w1 ⟨e3, e4, hi, hL, C_w1⟩
 have ob_6 : ∃ g_, f2 = upd g_ 2 (i64 (i : Nat)) := ⟨f2, upd_id e3⟩
 obtain ⟨f5, rfl⟩ := ob_6
 have ob_8 : ∃ g_, f5 = upd g_ 3 (i64 ((n : Nat) - 1 - (i : Nat) : Int)) := ⟨f5, upd_id e4⟩
 obtain ⟨f7, rfl⟩ := ob_8
 clear e3 e4
 have hs_w1 : w.heap.size ≤ w1.heap.size := Chg.size C_w1
 have hri := hrl i
 refine go_seq ?_
 refine go_seq ?_
 refine go_region 3 rfl rfl ?_
 refine s_val rfl rfl (r_move) rfl ?_
 refine s_val rfl rfl (r_move) rfl ?_
 refine s_val rfl rfl (r_lss rfl rfl) rfl ?_
 refine s_end ?_
 refine go_ifb _ rfl (fun h1 => ?_) (fun h1 => ?_)
 ·first | replace h1 := dcT h1 | replace h1 := dcF (nt h1) | skip
  refine go_skip ?_
  refine go_seq ?_
  refine go_block ?_
  refine go_meet [(14, 27)] (fun e' w' => Pc w' b 0 (fs (revTo L (i + 1))) ∧ Chg (blk b) w w') ?_ ?_
  ·
   refine go_drawsM (M := (blk b)) 14 (.take 0 (.take 1 (.take 2 (.take 3 (.take 4 (.take 5 (.take 6 (.take 8 (.take 9 (.take 10 (.alts (.eff 7 (.eff 11 (.take 12 (.eff 13 (.eff 14 (.eff 15 .done)))))) (.eff 11 (.eff 7 (.take 12 (.eff 13 (.eff 14 (.eff 15 .done))))))))))))))))) (by kernel_rfl) (by kernel_rfl) fun w11 c_w11 => ?_
   have hs_w11 : w1.heap.size ≤ w11.heap.size := Chg.size c_w11
   replace hL := hL.k c_w11
   have C_w11 := Chg.pure C_w1 c_w11
   have hL_0 := hL
   refine s_takeM (M := (blk b)) rfl rfl (w0 := w11) (fun x_ c_ => r_move) ?_
   refine s_takeM (M := (blk b)) rfl rfl (w0 := w11) (fun x_ c_ => r_move) ?_
   refine s_takeM (M := (blk b)) rfl rfl (w0 := w11) (fun x_ c_ => r_move) ?_
   refine s_takeM (M := (blk b)) rfl rfl (w0 := w11) (fun x_ c_ => r_move) ?_
   refine s_takeM (M := (blk b)) rfl rfl (w0 := w11) (fun x_ c_ => r_move) ?_
   refine s_takeM (M := (blk b)) rfl rfl (w0 := w11) (fun x_ c_ => r_move) ?_
   refine s_takeM (M := (blk b)) rfl rfl (w0 := w11) (fun x_ c_ => r_indexSlQ (k := (n - 1 - i)) Tryz.runUnderlying63 Tryz.sizeOf3 rfl rfl (by first | rfl | omega) (by omega)) ?_
   refine s_takeM (M := (blk b)) rfl rfl (w0 := w11) (fun x_ c_ => r_move) ?_
   refine s_takeM (M := (blk b)) rfl rfl (w0 := w11) (fun x_ c_ => r_move) ?_
   refine s_takeM (M := (blk b)) rfl rfl (w0 := w11) (fun x_ c_ => r_indexSlQ (k := i) Tryz.runUnderlying63 Tryz.sizeOf3 rfl rfl (by first | rfl | omega) (by omega)) ?_
   refine s_alts ?_ ?_
   ·
    refine s_valM rfl rfl (r_load1 Tryz.isAgg3 rfl (Rd.at1 hL.rd (fs_get (by first | omega | (simp; try omega))))) (Chg.refl (blk b) w11) ?_
    refine s_valM rfl rfl (r_load1 Tryz.isAgg3 rfl (Rd.at1 hL.rd (fs_get (by first | omega | (simp; try omega))))) (Chg.refl (blk b) w11) ?_
    refine s_takeM (M := (blk b)) rfl rfl (w0 := w11) (fun x_ c_ => r_indexSlQ (k := i) Tryz.runUnderlying63 Tryz.sizeOf3 rfl rfl (by first | rfl | omega) (by omega)) ?_
    refine s_fxM rfl rfl (w_set_f (o := 0) (k := i) (v := ((revTo L i).getD (n - 1 - i) 0)) (l := (revTo L i)) Tryz.sizeOf3 rfl rfl hL (by first | omega | (simp; try omega))) ?_
    rintro _ w12 ⟨q_w12, c_w12⟩
    have hs_w12 : w11.heap.size ≤ w12.heap.size := Chg.size c_w12
    have C_w12 := Chg.into C_w11 c_w12 (fun _ _ _ m => m.1)
    have hL := q_w12
    have K_w12 := Chg.into (Chg.refl (blk b) w11) c_w12 (fun _ _ _ m => m.1)
    refine ⟨K_w12, ?_⟩
    refine s_val rfl rfl (r_indexSlQ (k := (n - 1 - i)) Tryz.runUnderlying63 Tryz.sizeOf3 rfl rfl (by first | rfl | omega) (by omega)) rfl ?_
    refine s_do rfl rfl (w_set_f (o := 0) (k := (n - 1 - i)) (v := ((revTo L i).getD i 0)) (l := ((revTo L i).set i ((revTo L i).getD (n - 1 - i) 0))) Tryz.sizeOf3 rfl rfl hL (by first | omega | (simp; try omega))) rfl ?_
    rintro _ w13 ⟨q_w13, c_w13⟩
    have hs_w13 : w12.heap.size ≤ w13.heap.size := Chg.size c_w13
    have C_w13 := Chg.into C_w12 c_w13 (fun _ _ _ m => m.1)
    have hL := q_w13
    refine s_end ?_
    refine go_nil (loop_normal ⟨?_, (by repeat (first | exact same_refl | exact same_over | refine same_upd rfl ?_ | refine same_over2 rfl ?_))⟩)
    exact ⟨by rw [revTo, hn]; exact hL, C_w13⟩
   ·
    refine s_valM rfl rfl (r_load1 Tryz.isAgg3 rfl (Rd.at1 hL.rd (fs_get (by first | omega | (simp; try omega))))) (Chg.refl (blk b) w11) ?_
    refine s_valM rfl rfl (r_load1 Tryz.isAgg3 rfl (Rd.at1 hL.rd (fs_get (by first | omega | (simp; try omega))))) (Chg.refl (blk b) w11) ?_
    refine s_takeM (M := (blk b)) rfl rfl (w0 := w11) (fun x_ c_ => r_indexSlQ (k := i) Tryz.runUnderlying63 Tryz.sizeOf3 rfl rfl (by first | rfl | omega) (by omega)) ?_
    refine s_fxM rfl rfl (w_set_f (o := 0) (k := i) (v := ((revTo L i).getD (n - 1 - i) 0)) (l := (revTo L i)) Tryz.sizeOf3 rfl rfl hL (by first | omega | (simp; try omega))) ?_
    rintro _ w14 ⟨q_w14, c_w14⟩
    have hs_w14 : w11.heap.size ≤ w14.heap.size := Chg.size c_w14
    have C_w14 := Chg.into C_w11 c_w14 (fun _ _ _ m => m.1)
    have hL := q_w14
    have K_w14 := Chg.into (Chg.refl (blk b) w11) c_w14 (fun _ _ _ m => m.1)
    refine ⟨K_w14, ?_⟩
    refine s_val rfl rfl (r_indexSlQ (k := (n - 1 - i)) Tryz.runUnderlying63 Tryz.sizeOf3 rfl rfl (by first | rfl | omega) (by omega)) rfl ?_
    refine s_do rfl rfl (w_set_f (o := 0) (k := (n - 1 - i)) (v := ((revTo L i).getD i 0)) (l := ((revTo L i).set i ((revTo L i).getD (n - 1 - i) 0))) Tryz.sizeOf3 rfl rfl hL (by first | omega | (simp; try omega))) rfl ?_
    rintro _ w15 ⟨q_w15, c_w15⟩
    have hs_w15 : w14.heap.size ≤ w15.heap.size := Chg.size c_w15
    have C_w15 := Chg.into C_w14 c_w15 (fun _ _ _ m => m.1)
    have hL := q_w15
    refine s_end ?_
    refine go_nil (loop_normal ⟨?_, (by repeat (first | exact same_refl | exact same_over | refine same_upd rfl ?_ | refine same_over2 rfl ?_))⟩)
    exact ⟨by rw [revTo, hn]; exact hL, C_w15⟩
  rintro f10 w9 ⟨hL, C_w9⟩
  have hs_w9 : w.heap.size ≤ w9.heap.size := Chg.size C_w9
  refine go_nil (block_normal ?_)
  refine go_region 6 rfl rfl ?_
  refine s_val rfl rfl (r_move) rfl ?_
  refine s_val rfl rfl (r_addi rfl rfl (by omega)) rfl ?_
  refine s_val rfl rfl (r_move) rfl ?_
  refine s_val rfl rfl (r_subi rfl rfl (by omega)) rfl ?_
  refine s_val rfl rfl (r_assign) rfl ?_
  refine s_val rfl rfl (r_assign) rfl ?_
  refine s_end ?_
  refine go_nil (loop_normal ⟨⟨(i + 1), by first | omega | (dsimp only; omega), ⟨rfl, congrArg i64 (by omega), by omega, hL, C_w9⟩⟩, (by repeat (first | exact same_refl | exact same_over | refine same_upd rfl ?_ | refine same_over2 rfl ?_))⟩)
 ·first | replace h1 := dcF h1 | replace h1 := dcT (nf h1) | skip
  refine go_exit (loop_exit (block_hit ?_))
  refine go_nil ?_
  refine ⟨_, .nil, ?_⟩
  rw [revTo_all (by omega) (by omega)] at hL
  exact ⟨hL, C_w1⟩
theorem nz_spec (z : F) (w : World) :
  Rtn Tryz.prog 104 [fi z].toArray w (fun v w' => v = .bool (decide (((z.val : Nat) : Int) ≠ 0)) ∧ Kept w w') := by
 refine fn_body (l := [fi z]) 5 [.tmp 2] Tryz.func104 rfl Tryz.ntmps104 (Nat.le_of_ble_eq_true rfl) (by rw [Tryz.results104]) ?_
 refine go_seq ?_
 refine go_region 1 rfl rfl ?_
 refine s_val rfl rfl (r_assign) rfl ?_
 refine s_end ?_
 refine go_seq ?_
 refine go_region 3 rfl rfl ?_
 refine s_val rfl rfl (r_move) rfl ?_
 refine s_val rfl rfl (r_neq rfl rfl) rfl ?_
 refine s_val rfl rfl (r_assign) rfl ?_
 refine s_end ?_
 refine go_ret ?_
 refine ⟨_, .cons rfl (.nil), ?_⟩
 exact ⟨rfl, (Chg.refl no w)⟩
theorem indexNz_spec (L : List F) (a : Option Addr) (n c : Nat) (w : World) (hn : L.length = n) (hbig : n ≤ 1000) (hsl : SlAt w a (fs L)) :
  Rtn Tryz.prog 113 [Value.slice a n c, Value.func (.func 104) #[] #[]].toArray w (fun v w' => (∃ k : Int, v = i64 k ∧ (0 ≤ k ↔ ∃ x ∈ L, x ≠ 0)) ∧ Kept w w') := by
 refine fn_body (l := [Value.slice a n c, Value.func (.func 104) #[] #[]]) 19 [.tmp 4] Tryz.func113 rfl Tryz.ntmps113 (Nat.le_of_ble_eq_true rfl) (by rw [Tryz.results113]) ?_
 refine go_seq ?_
 refine go_region 1 rfl rfl ?_
 refine s_val rfl rfl (r_assign) rfl ?_
 refine s_end ?_
 refine go_seq ?_
 refine go_seq ?_
 refine go_region 3 rfl rfl ?_
 refine s_val rfl rfl (r_move) rfl ?_
 refine s_val rfl rfl (r_len Tryz.runUnderlying63 rfl) rfl ?_
 refine s_val rfl rfl (r_move) rfl ?_
 refine s_end ?_
 refine go_block ?_
 refine go_loopM (σ := Nat) [(4, 5), (8, 18)] (fun (k : Nat) e' w' => e' 8 = i64 (k : Nat) ∧ k ≤ n ∧ (∀ x ∈ L.take k, x = 0) ∧ Chg no w w') (fun (k : Nat) => n - k) 0 ?_ ?_
 ·exact ⟨rfl, by omega, (fun x h_ => by simp at h_), (Chg.refl no w)⟩
 rintro k f2 w1 ⟨e3, hk, hz, C_w1⟩
 have ob_5 : ∃ g_, f2 = upd g_ 8 (i64 (k : Nat)) := ⟨f2, upd_id e3⟩
 obtain ⟨f4, rfl⟩ := ob_5
 clear e3
 have hs_w1 : w.heap.size ≤ w1.heap.size := Chg.size C_w1
 refine go_seq ?_
 refine go_region 1 rfl rfl ?_
 refine s_val rfl rfl (r_lss rfl rfl) rfl ?_
 refine s_end ?_
 refine go_seq ?_
 refine go_ifb _ rfl (fun h1 => ?_) (fun h1 => ?_)
 ·first | replace h1 := dcT h1 | replace h1 := dcF (nt h1) | skip
  refine go_skip ?_
  refine go_seq ?_
  refine go_block ?_
  refine go_seq ?_
  refine go_region 2 rfl rfl ?_
  refine s_val rfl rfl (r_move) rfl ?_
  refine s_val rfl rfl (r_assign) rfl ?_
  refine s_end ?_
  refine go_seq ?_
  refine go_region 6 rfl rfl ?_
  refine s_val rfl rfl (r_move) rfl ?_
  refine s_val rfl rfl (r_move) rfl ?_
  refine s_val rfl rfl (r_move) rfl ?_
  refine s_val rfl rfl (r_indexSl (k := k) Tryz.runUnderlying63 Tryz.sizeOf3 rfl (hsl.k C_w1) (fs_ne (by first | omega | (simp; try omega))) rfl (by first | rfl | omega) (by omega)) rfl ?_
  refine s_val rfl rfl (r_loadSl1 Tryz.isAgg3 rfl (hsl.k C_w1) (fs_get (by first | omega | (simp; try omega)))) rfl ?_
  refine s_do rfl rfl (w_callV (cap := []) Tryz.call104 rfl rfl (nz_spec (L.getD k 0) _)) rfl ?_
  rintro _ w6 ⟨rfl, c_w6⟩
  have hs_w6 : w1.heap.size ≤ w6.heap.size := Chg.size c_w6
  have C_w6 := Chg.pure C_w1 c_w6
  refine s_end ?_
  refine go_ifb _ rfl (fun h2 => ?_) (fun h2 => ?_)
  ·first | replace h2 := dcT h2 | replace h2 := dcF (nt h2) | skip
   refine go_seq ?_
   refine go_region 2 rfl rfl ?_
   refine s_val rfl rfl (r_move) rfl ?_
   refine s_val rfl rfl (r_assign) rfl ?_
   refine s_end ?_
   refine go_ret (block_ret (loop_ret (block_ret ?_)))
   refine ⟨_, .cons rfl (.nil), ?_⟩
   exact ⟨⟨_, rfl, ⟨fun _ => ⟨L.getD k 0, getD_mem (by omega), fun e_ => h2 (by rw [e_]; rfl)⟩, fun _ => by omega⟩⟩, C_w6⟩
  ·first | replace h2 := dcF h2 | replace h2 := dcT (nf h2) | skip
   refine go_skip ?_
   refine go_nil (block_normal ?_)
   refine go_region 2 rfl rfl ?_
   refine s_val rfl rfl (r_addi rfl rfl (by omega)) rfl ?_
   refine s_val rfl rfl (r_move) rfl ?_
   refine s_end ?_
   refine go_nil (loop_normal ⟨⟨(k + 1), by first | omega | (dsimp only; omega), ⟨rfl, by omega, all0_step (by omega) hz (f_ext (show _ = (0 : Int) by omega)), C_w6⟩⟩, (by repeat (first | exact same_refl | exact same_over | refine same_upd rfl ?_ | refine same_over2 rfl ?_))⟩)
 ·first | replace h1 := dcF h1 | replace h1 := dcT (nf h1) | skip
  rw [List.take_of_length_le (by omega)] at hz
  refine go_exit (loop_exit (block_hit ?_))
  refine go_seq ?_
  refine go_region 1 rfl rfl ?_
  refine s_val rfl rfl (r_assign) rfl ?_
  refine s_end ?_
  refine go_ret ?_
  refine ⟨_, .cons rfl (.nil), ?_⟩
  exact ⟨⟨_, rfl, ⟨fun h_ => absurd h_ (by decide), fun ⟨x, hx, hn_⟩ => absurd (hz x hx) hn_⟩⟩, C_w1⟩
theorem containsNz_spec (L : List F) (a : Option Addr) (n c : Nat) (w : World) (hn : L.length = n) (hbig : n ≤ 1000) (hsl : SlAt w a (fs L)) :
  Rtn Tryz.prog 103 [Value.slice a n c, Value.func (.func 104) #[] #[]].toArray w (fun v w' => v = .bool (!(L.all fun x => decide (x = 0))) ∧ Kept w w') := by
 refine fn_body (l := [Value.slice a n c, Value.func (.func 104) #[] #[]]) 9 [.tmp 4] Tryz.func103 rfl Tryz.ntmps103 (Nat.le_of_ble_eq_true rfl) (by rw [Tryz.results103]) ?_
 refine go_seq ?_
 refine go_region 1 rfl rfl ?_
 refine s_val rfl rfl (r_assign) rfl ?_
 refine s_end ?_
 refine go_seq ?_
 refine go_region 5 rfl rfl ?_
 refine s_val rfl rfl (r_move) rfl ?_
 refine s_val rfl rfl (r_move) rfl ?_
 refine s_do rfl rfl (w_call Tryz.call113 rfl (indexNz_spec L _ _ _ _ (by first | omega | (simp; try omega)) (by first | omega | (simp; try omega)) (hsl.k (Chg.refl no w)))) rfl ?_
 rintro _ w1 ⟨⟨k2, rfl, hk3⟩, c_w1⟩
 have hs_w1 : w.heap.size ≤ w1.heap.size := Chg.size c_w1
 have C_w1 := Chg.pure (Chg.refl no w) c_w1
 refine s_val rfl rfl (r_geq rfl rfl) rfl ?_
 refine s_val rfl rfl (r_assign) rfl ?_
 refine s_end ?_
 refine go_ret ?_
 refine ⟨_, .cons rfl (.nil), ?_⟩
 exact ⟨congrArg Value.bool (contains_nz hk3), C_w1⟩
end Go.Proofs.YtippcmedgfmgbaaGreat
end
section
open Go Go.Eng Go.Proofs
namespace Go.Proofs.YtippcmedgfmgbaaGreat
theorem over_to (a b z : F) (w : World) (h : a * fInv b = z) : Rtn Tryz.prog 101 [fi a, fi b].toArray w (fun v w' => v = fi z ∧ Kept w w') := by
  subst h
  exact over_spec a b w
set_option maxHeartbeats 4000000 in
set_option maxRecDepth 100000 in
theorem divide_spec (A B : List F) (aA aB : Option Addr) (nA cA nB cB : Nat) (w : World) (hA : A.length = nA) (hB : B.length = nB) (hb0 : 0 < nB) (hnn : nB ≤ nA) (hbig : nA ≤ 400) (h1 : B.getD (nB - 1) 0 = 1) (hsA : SlAt w aA (fs A)) (hsB : SlAt w aB (fs B)) :
  Rtn Tryz.prog 80 [Value.slice aA nA cA, Value.slice aB nB cB].toArray w (fun v w' => ∃ a c, v = tup [.slice a (nA - nB + 1) c, .bool ((divS B (nB - 1) (nA - nB + 1) A).2.all fun x => decide (x = 0))] ∧ nA - nB + 1 ≤ c ∧ (∀ x, a = some x → w.heap.size ≤ x.block) ∧ SlAt w' a (fs (divS B (nB - 1) (nA - nB + 1) A).1) ∧ Kept w w') := by
 refine fn_body (l := [Value.slice aA nA cA, Value.slice aB nB cB]) 73 [.tmp 4, .tmp 5] Tryz.func80 rfl Tryz.ntmps80 (Nat.le_of_ble_eq_true rfl) (by rw [Tryz.results80]) ?_
 refine go_seq ?_
 refine go_region 2 rfl rfl ?_
 refine s_val rfl rfl (r_assign) rfl ?_
 refine s_val rfl rfl (r_assign) rfl ?_
 refine s_end ?_
 refine go_seq ?_
 refine go_region 3 rfl rfl ?_
 refine s_val rfl rfl (r_move) rfl ?_
 refine s_do rfl rfl (w_call Tryz.call81 rfl (cloneF_spec A _ _ _ _ (by first | omega | (simp; try omega)) (by first | omega | (simp; try omega)) (by first | omega | (simp; try omega)) (hsA.k (Chg.refl no w)))) rfl ?_
 rintro _ w1 ⟨b2, cap4, rfl, hl_b2, hu_b2, hc_cap4, p3, o5, c_w1⟩
 have hs_w1 : w.heap.size ≤ w1.heap.size := Chg.size c_w1
 have C_w1 := Chg.pure (Chg.refl no w) c_w1
 have hn_b2 : w.heap.size ≤ b2 := by have := Chg.size C_w1; omega
 clear o5
 refine s_val rfl rfl (r_assign) rfl ?_
 refine s_end ?_
 refine go_seq ?_
 refine go_region 1 rfl rfl ?_
 refine s_val rfl rfl (r_assign) rfl ?_
 refine s_end ?_
 refine go_seq ?_
 refine go_seq ?_
 refine go_region 6 rfl rfl ?_
 refine s_val rfl rfl (r_move) rfl ?_
 refine s_val rfl rfl (r_len Tryz.runUnderlying63 rfl) rfl ?_
 refine s_val rfl rfl (r_move) rfl ?_
 refine s_val rfl rfl (r_len Tryz.runUnderlying63 rfl) rfl ?_
 refine s_val rfl rfl (r_subi rfl rfl (by omega)) rfl ?_
 refine s_val rfl rfl (r_assign) rfl ?_
 refine s_end ?_
 refine go_block ?_
 refine go_loopM (σ := Nat × List F × List F × Option Addr × Nat × Nat) [(7, 11), (19, 66)] (fun (x_ : Nat × List F × List F × Option Addr × Nat × Nat) e' w' => match x_ with | (k, rest, O, a7, n7, c7) => e' 8 = i64 ((k : Nat) - 1 : Int) ∧ e' 7 = Value.slice a7 n7 c7 ∧ k ≤ nA - nB + 1 ∧ n7 + k = nA - nB + 1 ∧ O.length = n7 ∧ rest.length = nA ∧ divS B (nB - 1) (nA - nB + 1) A = ((divS B (nB - 1) k rest).1 ++ O.reverse, (divS B (nB - 1) k rest).2) ∧ w1.heap.size ≤ w'.heap.size ∧ Owns w' w1.heap.size 3 1 (Value.slice a7 n7 c7) n7 (fs O) ∧ n7 ≤ c7 ∧ Pc w' b2 0 (fs rest) ∧ b2 < w1.heap.size ∧ w1.heap.size ≤ w'.heap.size ∧ Chg no w w') (fun (x_ : Nat × List F × List F × Option Addr × Nat × Nat) => match x_ with | (k, rest, O, a7, n7, c7) => k) (nA - nB + 1, A, [], none, 0, 0) ?_ ?_
 ·exact ⟨congrArg i64 (by omega), rfl, by omega, by omega, rfl, hA, divS_start _ _ _ _, by omega, Owns.nil _ _ _ _, by omega, p3, by omega, by omega, C_w1⟩
 rintro ⟨k, rest, O, a7, n7, c7⟩ f7 w6 ⟨e8, e9, hk, hn7, hO, hrl, hdiv, hB_ho7, ho7, hc7, hP, hub6, hcw6, C_w6⟩
 have ob_11 : ∃ g_, f7 = upd g_ 8 (i64 ((k : Nat) - 1 : Int)) := ⟨f7, upd_id e8⟩
 obtain ⟨f10, rfl⟩ := ob_11
 have ob_13 : ∃ g_, f10 = upd g_ 7 (Value.slice a7 n7 c7) := ⟨f10, upd_id e9⟩
 obtain ⟨f12, rfl⟩ := ob_13
 clear e8 e9
 have hs_w6 : w.heap.size ≤ w6.heap.size := Chg.size C_w6
 refine go_seq ?_
 refine go_seq ?_
 refine go_region 2 rfl rfl ?_
 refine s_val rfl rfl (r_move) rfl ?_
 refine s_val rfl rfl (r_geq rfl rfl) rfl ?_
 refine s_end ?_
 refine go_ifb _ rfl (fun h2 => ?_) (fun h2 => ?_)
 ·first | replace h2 := dcT h2 | replace h2 := dcF (nt h2) | skip
  refine go_skip ?_
  refine go_seq ?_
  refine go_block ?_
  refine go_seq ?_
  refine go_drawsE 14 (.take 0 (.take 1 (.take 2 (.take 3 (.take 4 (.take 5 (.take 6 (.take 7 (.take 8 (.take 9 (.take 10 (.take 11 (.take 12 (.take 13 (.eff 14 (.eff 15 .done)))))))))))))))) (by kernel_rfl) (by kernel_rfl) fun w14 c_w14 => ?_
  have hs_w14 : w6.heap.size ≤ w14.heap.size := Chg.size c_w14
  replace ho7 := ho7.k c_w14
  replace hP := hP.k c_w14
  have C_w14 := Chg.pure C_w6 c_w14
  refine s_takeE rfl rfl (r_move) ?_
  refine s_takeE rfl rfl (r_move) ?_
  refine s_takeE rfl rfl (r_move) ?_
  refine s_takeE rfl rfl (r_len Tryz.runUnderlying63 rfl) ?_
  refine s_takeE rfl rfl (r_addi rfl rfl (by omega)) ?_
  refine s_takeE rfl rfl (r_subi rfl rfl (by omega)) ?_
  refine s_takeE rfl rfl (r_indexSlQ (k := (((k - 1) + nB) - 1)) Tryz.runUnderlying63 Tryz.sizeOf3 rfl rfl (by first | rfl | omega) (by omega)) ?_
  refine s_takeE rfl rfl (r_load1 Tryz.isAgg3 rfl (Rd.at1 hP.rd (fs_get (by first | omega | (simp; try omega))))) ?_
  refine s_takeE rfl rfl (r_move) ?_
  refine s_takeE rfl rfl (r_move) ?_
  refine s_takeE rfl rfl (r_len Tryz.runUnderlying63 rfl) ?_
  refine s_takeE rfl rfl (r_subi rfl rfl (by omega)) ?_
  refine s_takeE rfl rfl (r_indexSl (k := (nB - 1)) Tryz.runUnderlying63 Tryz.sizeOf3 rfl (hsB.k C_w14) (fs_ne (by first | omega | (simp; try omega))) rfl (by first | rfl | omega) (by omega)) ?_
  refine s_takeE rfl rfl (r_loadSl1 Tryz.isAgg3 rfl (hsB.k C_w14) (fs_get (by first | omega | (simp; try omega)))) ?_
  refine s_do rfl rfl (w_call Tryz.call101 rfl (over_to (rest.getD (((k - 1) + nB) - 1) 0) (B.getD (nB - 1) 0) (rest.getD (k - 1 + (nB - 1)) 0) _ (by rw [h1, fInv_one, show ((k - 1) + nB) - 1 = k - 1 + (nB - 1) by omega]; grind))) rfl ?_
  rintro _ w15 ⟨rfl, c_w15⟩
  have hs_w15 : w14.heap.size ≤ w15.heap.size := Chg.size c_w15
  replace ho7 := ho7.k c_w15
  replace hP := hP.k c_w15
  have C_w15 := Chg.pure C_w14 c_w15
  refine s_val rfl rfl (r_assign) rfl ?_
  refine s_end ?_
  refine go_seq ?_
  refine go_region 5 rfl rfl ?_
  refine s_val rfl rfl (r_move) rfl ?_
  refine s_val rfl rfl (r_move) rfl ?_
  refine s_do rfl rfl (w_build1 (v := (i64 ((((rest.getD (k - 1 + (nB - 1)) 0).val : Nat) : Int)))) (E := 3) Tryz.underlying63 (i := Tryz.t3) (by kernel_rfl) rfl rfl rfl rfl rfl) rfl ?_
  rintro _ w16 ⟨b17, rfl, hl_b17, hu_b17, o19, p18, c_w16⟩
  have ne_b17_ho7 := Owns.ne_ge ho7 hl_b17
  have hs_w16 : w15.heap.size ≤ w16.heap.size := Chg.size c_w16
  replace ho7 := ho7.k c_w16
  replace hP := hP.k c_w16
  have C_w16 := Chg.pure C_w15 c_w16
  have hn_b17 : w.heap.size ≤ b17 := by have := Chg.size C_w16; omega
  replace p18 : Pc w16 b17 0 (fs [(rest.getD (k - 1 + (nB - 1)) 0)]) := p18
  refine s_do rfl rfl (w_append (E := 3) (sz := 1) Tryz.underlying63 rfl (i := Tryz.t3) (by kernel_rfl) rfl rfl rfl rfl (by rfl) ho7 rfl (SlAt.some p18.rd) (by first | (rw [bs_length]; omega) | (simp [bs_length]; done) | (simp [bs_length]; omega) | rfl) (flat_fs _) (by omega) (by show _ * 8 ≤ _; omega) (by omega)) rfl ?_
  rintro v24 w20 ⟨o21, c_w20⟩
  have hs_w20 : w16.heap.size ≤ w20.heap.size := Chg.size c_w20
  replace hP := hP.kob c_w20 (Owns.ne_lt ho7 (by omega))
  replace p18 := p18.kob c_w20 ne_b17_ho7
  have C_w20 := Chg.newOb C_w16 c_w20 ho7 (by omega)
  have hfo_o21 := Owns.form2 o21
  obtain ⟨A22, cap23, e_o21, hc_cap23⟩ := hfo_o21
  subst e_o21
  replace o21 := Owns.appF o21
  refine s_val rfl rfl (r_assign) rfl ?_
  refine s_end ?_
  refine go_seq ?_
  refine go_region 3 rfl rfl ?_
  refine s_val rfl rfl (r_move) rfl ?_
  refine s_val rfl rfl (r_len Tryz.runUnderlying63 rfl) rfl ?_
  refine s_val rfl rfl (r_move) rfl ?_
  refine s_end ?_
  refine go_block ?_
  refine go_loopM (σ := Nat) [(10, 11), (44, 66)] (fun (j : Nat) e' w' => e' 44 = i64 (j : Nat) ∧ j ≤ nB ∧ Pc w' b2 0 (fs (restTo rest (k - 1) (rest.getD (k - 1 + (nB - 1)) 0) B j)) ∧ w1.heap.size ≤ w'.heap.size ∧ Owns w' w1.heap.size 3 1 (Value.slice A22 (n7 + 1) cap23) (n7 + 1) (fs (O ++ [(rest.getD (k - 1 + (nB - 1)) 0)])) ∧ b2 < w1.heap.size ∧ w1.heap.size ≤ w'.heap.size ∧ Chg no w w') (fun (j : Nat) => nB - j) 0 ?_ ?_
  ·exact ⟨rfl, by omega, hP, by omega, Owns.mono o21 (by omega), by omega, by omega, C_w20⟩
  rintro j f26 w25 ⟨e27, hj, hP, hB_ho7b, ho7b, hub6, hcw6, C_w25⟩
  have ob_29 : ∃ g_, f26 = upd g_ 44 (i64 (j : Nat)) := ⟨f26, upd_id e27⟩
  obtain ⟨f28, rfl⟩ := ob_29
  clear e27
  have hs_w25 : w.heap.size ≤ w25.heap.size := Chg.size C_w25
  have hrj := restTo_length rest (k - 1) (rest.getD (k - 1 + (nB - 1)) 0) B j
  refine go_seq ?_
  refine go_region 1 rfl rfl ?_
  refine s_val rfl rfl (r_lss rfl rfl) rfl ?_
  refine s_end ?_
  refine go_seq ?_
  refine go_ifb _ rfl (fun h3 => ?_) (fun h3 => ?_)
  ·first | replace h3 := dcT h3 | replace h3 := dcF (nt h3) | skip
   refine go_skip ?_
   refine go_seq ?_
   refine go_block ?_
   refine go_seq ?_
   refine go_region 5 rfl rfl ?_
   refine s_val rfl rfl (r_move) rfl ?_
   refine s_val rfl rfl (r_indexSl (k := j) Tryz.runUnderlying63 Tryz.sizeOf3 rfl (hsB.k C_w25) (fs_ne (by first | omega | (simp; try omega))) rfl (by first | rfl | omega) (by omega)) rfl ?_
   refine s_val rfl rfl (r_loadSl1 Tryz.isAgg3 rfl (hsB.k C_w25) (fs_get (by first | omega | (simp; try omega)))) rfl ?_
   refine s_val rfl rfl (r_assign) rfl ?_
   refine s_val rfl rfl (r_assign) rfl ?_
   refine s_end ?_
   refine go_region 18 rfl rfl ?_
   refine s_val rfl rfl (r_move) rfl ?_
   refine s_val rfl rfl (r_move) rfl ?_
   refine s_val rfl rfl (r_move) rfl ?_
   refine s_val rfl rfl (r_addi rfl rfl (by omega)) rfl ?_
   refine s_val rfl rfl (r_move) rfl ?_
   refine s_val rfl rfl (r_move) rfl ?_
   refine s_val rfl rfl (r_move) rfl ?_
   refine s_val rfl rfl (r_addi rfl rfl (by omega)) rfl ?_
   refine s_val rfl rfl (r_indexSlQ (k := ((k - 1) + j)) Tryz.runUnderlying63 Tryz.sizeOf3 rfl rfl (by first | rfl | omega) (by omega)) rfl ?_
   refine s_val rfl rfl (r_load1 Tryz.isAgg3 rfl (Rd.at1 hP.rd (fs_get (by first | omega | (simp; try omega))))) rfl ?_
   refine s_val rfl rfl (r_move) rfl ?_
   have hf_30 := f_lt (rest.getD (k - 1 + (nB - 1)) 0)
   refine s_val rfl rfl (r_subi rfl rfl (by omega)) rfl ?_
   refine s_val rfl rfl (r_move) rfl ?_
   have hf_31 := f_lt (B.getD j 0)
   have hm_32 := mul_bd (257 - (((rest.getD (k - 1 + (nB - 1)) 0).val : Nat) : Int)) (((B.getD j 0).val : Nat) : Int) (by omega) (by omega) (by omega) (by omega)
   refine s_val rfl rfl (r_muli rfl rfl (by omega)) rfl ?_
   have hf_33 := f_lt ((restTo rest (k - 1) (rest.getD (k - 1 + (nB - 1)) 0) B j).getD ((k - 1) + j) 0)
   refine s_val rfl rfl (r_addi rfl rfl (by omega)) rfl ?_
   refine s_val rfl rfl (r_remF (z := (((restTo rest (k - 1) (rest.getD (k - 1 + (nB - 1)) 0) B j).getD ((k - 1) + j) 0) + (((0 : F) - (rest.getD (k - 1 + (nB - 1)) 0)) * (B.getD j 0)))) rfl rfl (by omega) (by simp only [fI_add, fI_mul, fI_sub, fI_cast, fI_257, fI_0, fI_1])) rfl ?_
   refine s_val rfl rfl (r_indexSlQ (k := ((k - 1) + j)) Tryz.runUnderlying63 Tryz.sizeOf3 rfl rfl (by first | rfl | omega) (by omega)) rfl ?_
   refine s_do rfl rfl (w_set_f (o := 0) (k := ((k - 1) + j)) (v := (((restTo rest (k - 1) (rest.getD (k - 1 + (nB - 1)) 0) B j).getD ((k - 1) + j) 0) + (((0 : F) - (rest.getD (k - 1 + (nB - 1)) 0)) * (B.getD j 0)))) (l := (restTo rest (k - 1) (rest.getD (k - 1 + (nB - 1)) 0) B j)) Tryz.sizeOf3 rfl rfl hP (by first | omega | (simp; try omega))) rfl ?_
   rintro _ w34 ⟨q_w34, c_w34⟩
   have hs_w34 : w25.heap.size ≤ w34.heap.size := Chg.size c_w34
   replace ho7b := ho7b.kb c_w34 (Owns.ne_lt ho7b (by omega))
   have C_w34 := Chg.newRng C_w25 c_w34 (by omega)
   have hP := q_w34
   refine s_end ?_
   refine go_nil (block_normal ?_)
   refine go_region 2 rfl rfl ?_
   refine s_val rfl rfl (r_addi rfl rfl (by omega)) rfl ?_
   refine s_val rfl rfl (r_move) rfl ?_
   refine s_end ?_
   refine go_nil (loop_normal ⟨⟨(j + 1), by first | omega | (dsimp only; omega), ⟨rfl, by omega, hP, by omega, ho7b, by omega, by omega, C_w34⟩⟩, (by repeat (first | exact same_refl | exact same_over | refine same_upd rfl ?_ | refine same_over2 rfl ?_))⟩)
  ·first | replace h3 := dcF h3 | replace h3 := dcT (nf h3) | skip
   have ob_35 : nB = j := by omega
   obtain rfl := ob_35
   refine go_exit (loop_exit (block_hit ?_))
   refine go_nil (block_normal ?_)
   refine go_region 3 rfl rfl ?_
   refine s_val rfl rfl (r_move) rfl ?_
   refine s_val rfl rfl (r_subi rfl rfl (by omega)) rfl ?_
   refine s_val rfl rfl (r_assign) rfl ?_
   refine s_end ?_
   refine go_nil (loop_normal ⟨⟨(k - 1, restTo rest (k - 1) (rest.getD (k - 1 + (nB - 1)) 0) B nB, O ++ [(rest.getD (k - 1 + (nB - 1)) 0)], A22, n7 + 1, cap23), by first | omega | (dsimp only; omega), ⟨congrArg i64 (by omega), rfl, by omega, by omega, by rw [List.length_append, hO]; rfl, by rw [restTo_length]; exact hrl, by rw [← hB, restTo_all (by omega), hB]; exact divS_step (by omega) hdiv, by omega, ho7b, by omega, hP, by omega, by omega, C_w25⟩⟩, (by repeat (first | exact same_refl | exact same_over | refine same_upd rfl ?_ | refine same_over2 rfl ?_))⟩)
 ·first | replace h2 := dcF h2 | replace h2 := dcT (nf h2) | skip
  have ob_36 : k = 0 := by omega
  obtain rfl := ob_36
  refine go_exit (loop_exit (block_hit ?_))
  refine go_seq ?_
  refine go_region 2 rfl rfl ?_
  refine s_val rfl rfl (r_move) rfl ?_
  have ob_40 := Owns.pc ho7 (by omega)
  obtain ⟨b38, he_b38, hB_b38, hu_b38, hc_b38, p39⟩ := ob_40
  subst he_b38
  refine s_do rfl rfl (w_call Tryz.call102 rfl (reverse_spec O b38 _ _ _ (by first | omega | (simp; try omega)) (by omega) (by omega) (by omega) p39)) rfl ?_
  rintro _ w37 ⟨q_w37, c_w37⟩
  have hs_w37 : w6.heap.size ≤ w37.heap.size := Chg.size c_w37
  replace hP := hP.kB c_w37 (by omega)
  have C_w37 := Chg.newB C_w6 c_w37 (by omega)
  replace p39 := q_w37
  refine s_end ?_
  refine go_seq ?_
  refine go_region 6 rfl rfl ?_
  refine s_val rfl rfl (r_move) rfl ?_
  refine s_val rfl rfl (r_move) rfl ?_
  refine s_do rfl rfl (w_call Tryz.call103 rfl (containsNz_spec rest _ _ _ _ (by first | omega | (simp; try omega)) (by first | omega | (simp; try omega)) (SlAt.some hP.rd))) rfl ?_
  rintro _ w41 ⟨rfl, c_w41⟩
  have hs_w41 : w37.heap.size ≤ w41.heap.size := Chg.size c_w41
  replace hP := hP.k c_w41
  replace p39 := p39.k c_w41
  have C_w41 := Chg.pure C_w37 c_w41
  refine s_val rfl rfl (r_not2 rfl) rfl ?_
  refine s_val rfl rfl (r_assign) rfl ?_
  refine s_val rfl rfl (r_assign) rfl ?_
  refine s_end ?_
  refine go_ret ?_
  refine ⟨_, .cons rfl (.cons rfl (.nil)), ?_⟩
  rw [divS_end hdiv]
  have en_ : n7 = nA - nB + 1 := by omega
  subst en_
  exact ⟨_, _, rfl, by omega, fun x_ hx_ => by cases hx_; show w.heap.size ≤ b38; omega, SlAt.some p39.rd, C_w41⟩
end Go.Proofs.YtippcmedgfmgbaaGreat
end
section
open Go Go.Eng Go.Proofs
namespace Go.Proofs.YtippcmedgfmgbaaGreat
theorem cloneO_spec (L : List F) (a : Option Addr) (n c : Nat) (w : World) (hn : L.length = n) (hbig : n ≤ 1000) (hsl : SlAt w a (fs L)) :
  Rtn Tryz.prog 81 [Value.slice a n c].toArray w (fun v w' => Owns w' w.heap.size 3 1 v n (fs L) ∧ Kept w w') := by
 refine fn_body (l := [Value.slice a n c]) 8 [.tmp 2] Tryz.func81 rfl Tryz.ntmps81 (Nat.le_of_ble_eq_true rfl) (by rw [Tryz.results81]) ?_
 refine go_seq ?_
 refine go_region 1 rfl rfl ?_
 refine s_val rfl rfl (r_assign) rfl ?_
 refine s_end ?_
 refine go_seq ?_
 refine go_seq ?_
 refine go_region 2 rfl rfl ?_
 refine s_val rfl rfl (r_move) rfl ?_
 refine s_val rfl rfl (r_eqNil Tryz.underlying63 rfl) rfl ?_
 refine s_end ?_
 refine go_ifb _ rfl (fun h1 => ?_) (fun h1 => ?_)
 ·first | replace h1 := dcT h1 | replace h1 := dcF (nt h1) | skip
  refine go_seq ?_
  refine go_region 1 rfl rfl ?_
  refine s_val rfl rfl (r_assign) rfl ?_
  refine s_end ?_
  refine go_ret ?_
  refine ⟨_, .cons rfl (.nil), ?_⟩
  have hL0 : L = [] := by
   rcases hsl with h_ | ⟨b_, o_, h_, _⟩
   ·exact List.eq_nil_of_length_eq_zero (by have := congrArg List.length h_; simpa using this)
   ·rw [h_] at h1; cases h1
  subst hL0
  subst hn
  exact ⟨Owns.nil _ _ _ _, (Chg.refl no w)⟩
 ·first | replace h1 := dcF h1 | replace h1 := dcT (nf h1) | skip
  refine go_skip ?_
  refine go_seq ?_
  refine go_region 4 rfl rfl ?_
  refine s_do rfl rfl (w_build0 (E := 3) (sz := 1) Tryz.underlying63 (i := Tryz.t3) (by kernel_rfl) rfl rfl) rfl ?_
  rintro v3 w1 ⟨o2, c_w1⟩
  have hs_w1 : w.heap.size ≤ w1.heap.size := Chg.size c_w1
  have C_w1 := Chg.pure (Chg.refl no w) c_w1
  have hfo_o2 := Owns.form2 o2
  obtain ⟨A4, cap5, e_o2, hc_cap5⟩ := hfo_o2
  subst e_o2
  refine s_val rfl rfl (r_move) rfl ?_
  refine s_do rfl rfl (w_append (E := 3) (sz := 1) Tryz.underlying63 rfl (i := Tryz.t3) (by kernel_rfl) rfl rfl rfl rfl (by rfl) o2 rfl (hsl.k C_w1) (by rw [fs_length]; omega) (flat_fs _) (by omega) (by show _ * 8 ≤ _; omega) (by omega)) rfl ?_
  rintro v10 w6 ⟨o7, c_w6⟩
  have hs_w6 : w1.heap.size ≤ w6.heap.size := Chg.size c_w6
  have C_w6 := Chg.newOb C_w1 c_w6 o2 (by omega)
  have hfo_o7 := Owns.form2 o7
  obtain ⟨A8, cap9, e_o7, hc_cap9⟩ := hfo_o7
  subst e_o7
  replace o7 := Owns.nilF o7
  refine s_val rfl rfl (r_assign) rfl ?_
  refine s_end ?_
  refine go_ret ?_
  refine ⟨_, .cons rfl (.nil), ?_⟩
  have hq_ : Owns w6 w.heap.size 3 1 (Value.slice A8 n cap9) n (fs L) := by have h_ := o7; rw [Nat.zero_add] at h_; exact Owns.mono h_ (by omega)
  exact ⟨by show Owns _ _ _ _ (Value.slice _ (0 + n) _) n _; rw [Nat.zero_add]; exact hq_, C_w6⟩
end Go.Proofs.YtippcmedgfmgbaaGreat
end
