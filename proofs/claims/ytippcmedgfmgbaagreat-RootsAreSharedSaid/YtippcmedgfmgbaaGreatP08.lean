/- YtippcmedgfmgbaaGreatP08: a calculus of walks, plain facts of the numbers that are shared, and contracts of functions of the program: called in any world that meets a contract's premises, a function returns what the contract says and changes no more than it says. -/
import Derived.Test.YtippcmedgfmgbaaGreatP02
import Derived.Test.YtippcmedgfmgbaaGreatP03
import Derived.Test.YtippcmedgfmgbaaGreatP04
import Derived.Test.YtippcmedgfmgbaaGreatChecked
section
open Go Go.Eng Go.Proofs
namespace Go.Proofs.YtippcmedgfmgbaaGreat
set_option maxHeartbeats 4000000 in
set_option maxRecDepth 100000 in
theorem points_spec (S : List Shr) (a : Option Addr) (n c o : Nat) (w : World) (hn : S.length = n) (hb : n ≤ 64) (ho : o < 32) (hS : AllS S) (hsl : SlAt w a (scells S)) :
  Rtn Tryz.prog 51 [Value.slice a n c, i64 (o : Nat)].toArray w (fun v w' => ∃ ax cx ay cy, v = tup [.slice ax n cx, .slice ay n cy] ∧ n ≤ cx ∧ n ≤ cy ∧ (∀ x, ax = some x → w.heap.size ≤ x.block) ∧ (∀ x, ay = some x → w.heap.size ≤ x.block) ∧ SlAt w' ax (fs (S.map (·.x))) ∧ SlAt w' ay (fs (S.map fun s => s.y.getD o 0)) ∧ Kept w w') := by
 refine fn_body (l := [Value.slice a n c, i64 (o : Nat)]) 30 [.tmp 4, .tmp 5] Tryz.func51 rfl Tryz.ntmps51 (Nat.le_of_ble_eq_true rfl) (by rw [Tryz.results51]) ?_
 refine go_seq ?_
 refine go_region 2 rfl rfl ?_
 refine s_val rfl rfl (r_assign) rfl ?_
 refine s_val rfl rfl (r_assign) rfl ?_
 refine s_end ?_
 refine go_seq ?_
 refine go_seq ?_
 refine go_region 3 rfl rfl ?_
 refine s_val rfl rfl (r_move) rfl ?_
 refine s_val rfl rfl (r_len Tryz.runUnderlying26 rfl) rfl ?_
 refine s_val rfl rfl (r_move) rfl ?_
 refine s_end ?_
 refine go_block ?_
 refine go_loopM (σ := Nat × Option Addr × Nat × Option Addr × Nat) [(4, 5), (7, 7), (10, 27)] (fun (x_ : Nat × Option Addr × Nat × Option Addr × Nat) e' w' => match x_ with | (k, a4, c4, a5, c5) => e' 10 = i64 (k : Nat) ∧ e' 4 = Value.slice a4 k c4 ∧ e' 5 = Value.slice a5 k c5 ∧ k ≤ n ∧ w.heap.size ≤ w'.heap.size ∧ Two w' w.heap.size (Value.slice a4 k c4) k ((S.take k).map (·.x)) (Value.slice a5 k c5) k ((S.take k).map fun s => s.y.getD o 0) ∧ k ≤ c4 ∧ k ≤ c5 ∧ Chg no w w') (fun (x_ : Nat × Option Addr × Nat × Option Addr × Nat) => match x_ with | (k, a4, c4, a5, c5) => n - k) (0, none, 0, none, 0) ?_ ?_
 ·exact ⟨rfl, rfl, rfl, by omega, by omega, Two.nil _, by omega, by omega, (Chg.refl no w)⟩
 rintro ⟨k, a4, c4, a5, c5⟩ f2 w1 ⟨e3, e4, e5, hk, hcw, h2, hc4, hc5, C_w1⟩
 have ob_7 : ∃ g_, f2 = upd g_ 10 (i64 (k : Nat)) := ⟨f2, upd_id e3⟩
 obtain ⟨f6, rfl⟩ := ob_7
 have ob_9 : ∃ g_, f6 = upd g_ 4 (Value.slice a4 k c4) := ⟨f6, upd_id e4⟩
 obtain ⟨f8, rfl⟩ := ob_9
 have ob_11 : ∃ g_, f8 = upd g_ 5 (Value.slice a5 k c5) := ⟨f8, upd_id e5⟩
 obtain ⟨f10, rfl⟩ := ob_11
 clear e3 e4 e5
 have hs_w1 : w.heap.size ≤ w1.heap.size := Chg.size C_w1
 refine go_seq ?_
 refine go_region 1 rfl rfl ?_
 refine s_val rfl rfl (r_lss rfl rfl) rfl ?_
 refine s_end ?_
 refine go_seq ?_
 refine go_ifb _ rfl (fun h1 => ?_) (fun h1 => ?_)
 ·first | replace h1 := dcT h1 | replace h1 := dcF (nt h1) | skip
  refine go_skip ?_
  refine go_seq ?_
  refine go_block ?_
  refine go_seq ?_
  refine go_region 4 rfl rfl ?_
  refine s_val rfl rfl (r_indexSl (k := k) Tryz.runUnderlying26 Tryz.sizeOf40 rfl (hsl.k C_w1) (scells_ne hS (by first | omega | (simp; omega))) rfl (by first | rfl | omega) (by omega)) rfl ?_
  refine s_val rfl rfl (r_loadSlN Tryz.isAgg40 Tryz.sizeOf40 rfl (hsl.k C_w1) (scell_len (AllS.get hS k)) (scells_ne hS (by first | omega | (simp; omega))) (scells_get hS (by first | omega | (simp; omega)))) rfl ?_
  refine s_do rfl rfl (w_alloc (scell shr0) Tryz.zeroValue40 (by kernel_rfl)) rfl ?_
  rintro _ w12 ⟨b13, rfl, hl_b13, hu_b13, p14, c_w12⟩
  have ne_b13_h21 := Owns.ne_ge h2.o1 hl_b13
  have ne_b13_h22 := Owns.ne_ge h2.o2 hl_b13
  have hs_w12 : w1.heap.size ≤ w12.heap.size := Chg.size c_w12
  replace h2 := h2.k c_w12
  have C_w12 := Chg.pure C_w1 c_w12
  have hn_b13 : w.heap.size ≤ b13 := by have := Chg.size C_w12; omega
  refine s_do rfl rfl (w_storeA (o := 0) (cs := scell (S.getD k shr0)) Tryz.sizeOf40 rfl rfl (scell_len (AllS.get hS k)) (flat_scell _) p14 (scell_len shr0_ok)) rfl ?_
  rintro _ w15 ⟨q_w15, c_w15⟩
  have hs_w15 : w12.heap.size ≤ w15.heap.size := Chg.size c_w15
  replace h2 := h2.kb c_w15 ne_b13_h21 ne_b13_h22
  have C_w15 := Chg.newRng C_w12 c_w15 (by omega)
  have p16 : Pc w15 b13 0 (bs (S.getD k shr0).h) := Pc.shrH q_w15
  have hlH_p16 : ((S.getD k shr0).h).length = 16 := (AllS.get hS k).1
  have p17 : Pc w15 b13 16 [fi (S.getD k shr0).x] := Pc.shrX q_w15 (AllS.get hS k)
  have p18 : Pc w15 b13 17 (us (S.getD k shr0).y) := Pc.shrY q_w15 (AllS.get hS k)
  have hlY_p18 : ((S.getD k shr0).y).length = 32 := (AllS.get hS k).2
  clear q_w15
  refine s_end ?_
  refine go_meet [(4, 5), (14, 26)] (fun e' w' => ∃ (a6 : Option Addr) (c6 : Nat) (a7 : Option Addr) (c7 : Nat), e' 4 = Value.slice a6 (k + 1) c6 ∧ e' 5 = Value.slice a7 (k + 1) c7 ∧ Two w' w.heap.size (Value.slice a6 (k + 1) c6) (k + 1) ((S.take (k + 1)).map (·.x)) (Value.slice a7 (k + 1) c7) (k + 1) ((S.take (k + 1)).map fun s => s.y.getD o 0) ∧ k + 1 ≤ c6 ∧ k + 1 ≤ c7 ∧ Chg no w w') ?_ ?_
  ·
   refine go_drawsM (M := (ob (Value.slice a4 k c4))) 12 (.take 0 (.take 1 (.take 2 (.take 5 (.take 6 (.take 7 (.take 8 (.take 9 (.take 10 (.alts (.eff 3 (.alts (.eff 4 (.eff 11 (.eff 12 (.eff 13 (.eff 14 .done))))) (.eff 11 (.eff 4 (.eff 12 (.eff 13 (.eff 14 .done))))))) (.eff 11 (.eff 3 (.eff 4 (.eff 12 (.eff 13 (.eff 14 .done)))))))))))))))) (by kernel_rfl) (by kernel_rfl) fun w21 c_w21 => ?_
   have hs_w21 : w15.heap.size ≤ w21.heap.size := Chg.size c_w21
   replace h2 := h2.k c_w21
   replace p16 := p16.k c_w21
   replace p17 := p17.k c_w21
   replace p18 := p18.k c_w21
   have C_w21 := Chg.pure C_w15 c_w21
   have h2_0 := h2
   have p16_0 := p16
   have p17_0 := p17
   have p18_0 := p18
   refine s_takeM (M := (ob (Value.slice a4 k c4))) rfl rfl (w0 := w21) (fun x_ c_ => r_move) ?_
   refine s_takeM (M := (ob (Value.slice a4 k c4))) rfl rfl (w0 := w21) (fun x_ c_ => r_fieldAddr Tryz.runUnderlying40 rfl Tryz.sizeOf3 rfl rfl) ?_
   refine s_takeM (M := (ob (Value.slice a4 k c4))) rfl rfl (w0 := w21) (fun x_ c_ => r_load1 Tryz.isAgg3 rfl (p17_0.kob c_ ne_b13_h21).rd) ?_
   refine s_takeM (M := (ob (Value.slice a4 k c4))) rfl rfl (w0 := w21) (fun x_ c_ => r_move) ?_
   refine s_takeM (M := (ob (Value.slice a4 k c4))) rfl rfl (w0 := w21) (fun x_ c_ => r_move) ?_
   refine s_takeM (M := (ob (Value.slice a4 k c4))) rfl rfl (w0 := w21) (fun x_ c_ => r_fieldAddr Tryz.runUnderlying40 rfl Tryz.sizeOf38 rfl rfl) ?_
   refine s_takeM (M := (ob (Value.slice a4 k c4))) rfl rfl (w0 := w21) (fun x_ c_ => r_indexArr (k := o) Tryz.runUnderlying38 Tryz.sizeOf25 rfl rfl (by first | rfl | omega) (by first | decide | omega)) ?_
   refine s_takeM (M := (ob (Value.slice a4 k c4))) rfl rfl (w0 := w21) (fun x_ c_ => r_load1 Tryz.isAgg25 rfl (Rd.at1 (p18_0.kob c_ ne_b13_h21).rd (us_get (by first | omega | (simp; try omega))))) ?_
   refine s_takeM (M := (ob (Value.slice a4 k c4))) rfl rfl (w0 := w21) (fun x_ c_ => r_conv_F Tryz.runUnderlying25 Tryz.runUnderlying3 rfl) ?_
   refine s_alts ?_ ?_
   ·
    refine s_fxM rfl rfl (w_build1 (v := (i64 (((((S.getD k shr0).x).val : Nat) : Int)))) (E := 3) Tryz.underlying63 (i := Tryz.t3) (by kernel_rfl) rfl rfl rfl rfl rfl) ?_
    rintro _ w22 ⟨b23, rfl, hl_b23, hu_b23, o25, p24, c_w22⟩
    have ne_b23_h21 := Owns.ne_ge h2.o1 hl_b23
    have ne_b23_h22 := Owns.ne_ge h2.o2 hl_b23
    have hs_w22 : w21.heap.size ≤ w22.heap.size := Chg.size c_w22
    replace h2 := h2.k c_w22
    replace p16 := p16.k c_w22
    replace p17 := p17.k c_w22
    replace p18 := p18.k c_w22
    have C_w22 := Chg.pure C_w21 c_w22
    have hn_b23 : w.heap.size ≤ b23 := by have := Chg.size C_w22; omega
    replace p24 : Pc w22 b23 0 (fs [(S.getD k shr0).x]) := p24
    have K_w22 := Chg.pure (Chg.refl (ob (Value.slice a4 k c4)) w21) c_w22
    refine ⟨K_w22, ?_⟩
    refine s_alts ?_ ?_
    ·
     refine s_fxM rfl rfl (w_appendAt (E := 3) (sz := 1) Tryz.underlying63 rfl (i := Tryz.t3) (by kernel_rfl) rfl rfl rfl rfl rfl h2.o1 rfl (SlAt.some p24.rd) (by rw [fs_length]; rfl) (flat_fs _) (by omega) (by omega) (by show _ * 8 ≤ _; omega) (by omega)) ?_
     rintro v28 w26 ⟨o27, hq29, c_w26⟩
     have hs_w26 : w22.heap.size ≤ w26.heap.size := Chg.size c_w26
     replace p16 := p16.kob c_w26 ne_b13_h21
     replace p17 := p17.kob c_w26 ne_b13_h21
     replace p18 := p18.kob c_w26 ne_b13_h21
     replace p24 := p24.kob c_w26 ne_b23_h21
     have C_w26 := Chg.newOb C_w22 c_w26 h2.o1 (by omega)
     replace h2 := h2.add1 o27 hq29 c_w26
     clear hq29
     have hfo_ := Owns.form2 h2.o1
     obtain ⟨A30, cap31, e_, hc_cap31⟩ := hfo_
     subst e_
     have K_w26 := Chg.into K_w22 c_w26 (fun _ _ _ m => m)
     refine ⟨K_w26, ?_⟩
     refine s_fxM rfl rfl (w_build1 (v := (i64 ((((((S.getD k shr0).y).getD o 0).val : Nat) : Int)))) (E := 3) Tryz.underlying63 (i := Tryz.t3) (by kernel_rfl) rfl rfl rfl rfl rfl) ?_
     rintro _ w32 ⟨b33, rfl, hl_b33, hu_b33, o35, p34, c_w32⟩
     have ne_b33_h21 := Owns.ne_ge h2.o1 hl_b33
     have ne_b33_h22 := Owns.ne_ge h2.o2 hl_b33
     have hs_w32 : w26.heap.size ≤ w32.heap.size := Chg.size c_w32
     replace h2 := h2.k c_w32
     replace p16 := p16.k c_w32
     replace p17 := p17.k c_w32
     replace p18 := p18.k c_w32
     replace p24 := p24.k c_w32
     have C_w32 := Chg.pure C_w26 c_w32
     have hn_b33 : w.heap.size ≤ b33 := by have := Chg.size C_w32; omega
     replace p34 : Pc w32 b33 0 (fs [(((S.getD k shr0).y).getD o 0)]) := p34
     have K_w32 := Chg.pure K_w26 c_w32
     refine ⟨K_w32, ?_⟩
     refine s_do rfl rfl (w_appendAt (E := 3) (sz := 1) Tryz.underlying63 rfl (i := Tryz.t3) (by kernel_rfl) rfl rfl rfl rfl rfl h2.o2 rfl (SlAt.some p34.rd) (by rw [fs_length]; rfl) (flat_fs _) (by omega) (by omega) (by show _ * 8 ≤ _; omega) (by omega)) rfl ?_
     rintro v38 w36 ⟨o37, hq39, c_w36⟩
     have hs_w36 : w32.heap.size ≤ w36.heap.size := Chg.size c_w36
     replace p16 := p16.kob c_w36 ne_b13_h22
     replace p17 := p17.kob c_w36 ne_b13_h22
     replace p18 := p18.kob c_w36 ne_b13_h22
     replace p24 := p24.kob c_w36 ne_b23_h22
     replace p34 := p34.kob c_w36 ne_b33_h22
     have C_w36 := Chg.newOb C_w32 c_w36 h2.o2 (by omega)
     replace h2 := h2.add2 o37 hq39 c_w36
     clear hq39
     have hfo_ := Owns.form2 h2.o2
     obtain ⟨A40, cap41, e_, hc_cap41⟩ := hfo_
     subst e_
     refine s_val rfl rfl (r_assign) rfl ?_
     refine s_val rfl rfl (r_assign) rfl ?_
     refine s_end ?_
     refine go_nil (loop_normal ⟨?_, (by repeat (first | exact same_refl | exact same_over | refine same_upd rfl ?_ | refine same_over2 rfl ?_))⟩)
     exact ⟨_, _, _, _, rfl, rfl, by rw [map_take_succ _ (by omega), map_take_succ _ (by omega)]; exact h2, by omega, by omega, C_w36⟩
    ·
     refine s_fxM rfl rfl (w_build1 (v := (i64 ((((((S.getD k shr0).y).getD o 0).val : Nat) : Int)))) (E := 3) Tryz.underlying63 (i := Tryz.t3) (by kernel_rfl) rfl rfl rfl rfl rfl) ?_
     rintro _ w42 ⟨b43, rfl, hl_b43, hu_b43, o45, p44, c_w42⟩
     have ne_b43_h21 := Owns.ne_ge h2.o1 hl_b43
     have ne_b43_h22 := Owns.ne_ge h2.o2 hl_b43
     have hs_w42 : w22.heap.size ≤ w42.heap.size := Chg.size c_w42
     replace h2 := h2.k c_w42
     replace p16 := p16.k c_w42
     replace p17 := p17.k c_w42
     replace p18 := p18.k c_w42
     replace p24 := p24.k c_w42
     have C_w42 := Chg.pure C_w22 c_w42
     have hn_b43 : w.heap.size ≤ b43 := by have := Chg.size C_w42; omega
     replace p44 : Pc w42 b43 0 (fs [(((S.getD k shr0).y).getD o 0)]) := p44
     have K_w42 := Chg.pure K_w22 c_w42
     refine ⟨K_w42, ?_⟩
     refine s_fxM rfl rfl (w_appendAt (E := 3) (sz := 1) Tryz.underlying63 rfl (i := Tryz.t3) (by kernel_rfl) rfl rfl rfl rfl rfl h2.o1 rfl (SlAt.some p24.rd) (by rw [fs_length]; rfl) (flat_fs _) (by omega) (by omega) (by show _ * 8 ≤ _; omega) (by omega)) ?_
     rintro v48 w46 ⟨o47, hq49, c_w46⟩
     have hs_w46 : w42.heap.size ≤ w46.heap.size := Chg.size c_w46
     replace p16 := p16.kob c_w46 ne_b13_h21
     replace p17 := p17.kob c_w46 ne_b13_h21
     replace p18 := p18.kob c_w46 ne_b13_h21
     replace p24 := p24.kob c_w46 ne_b23_h21
     replace p44 := p44.kob c_w46 ne_b43_h21
     have C_w46 := Chg.newOb C_w42 c_w46 h2.o1 (by omega)
     replace h2 := h2.add1 o47 hq49 c_w46
     clear hq49
     have hfo_ := Owns.form2 h2.o1
     obtain ⟨A50, cap51, e_, hc_cap51⟩ := hfo_
     subst e_
     have K_w46 := Chg.into K_w42 c_w46 (fun _ _ _ m => m)
     refine ⟨K_w46, ?_⟩
     refine s_do rfl rfl (w_appendAt (E := 3) (sz := 1) Tryz.underlying63 rfl (i := Tryz.t3) (by kernel_rfl) rfl rfl rfl rfl rfl h2.o2 rfl (SlAt.some p44.rd) (by rw [fs_length]; rfl) (flat_fs _) (by omega) (by omega) (by show _ * 8 ≤ _; omega) (by omega)) rfl ?_
     rintro v54 w52 ⟨o53, hq55, c_w52⟩
     have hs_w52 : w46.heap.size ≤ w52.heap.size := Chg.size c_w52
     replace p16 := p16.kob c_w52 ne_b13_h22
     replace p17 := p17.kob c_w52 ne_b13_h22
     replace p18 := p18.kob c_w52 ne_b13_h22
     replace p24 := p24.kob c_w52 ne_b23_h22
     replace p44 := p44.kob c_w52 ne_b43_h22
     have C_w52 := Chg.newOb C_w46 c_w52 h2.o2 (by omega)
     replace h2 := h2.add2 o53 hq55 c_w52
     clear hq55
     have hfo_ := Owns.form2 h2.o2
     obtain ⟨A56, cap57, e_, hc_cap57⟩ := hfo_
     subst e_
     refine s_val rfl rfl (r_assign) rfl ?_
     refine s_val rfl rfl (r_assign) rfl ?_
     refine s_end ?_
     refine go_nil (loop_normal ⟨?_, (by repeat (first | exact same_refl | exact same_over | refine same_upd rfl ?_ | refine same_over2 rfl ?_))⟩)
     exact ⟨_, _, _, _, rfl, rfl, by rw [map_take_succ _ (by omega), map_take_succ _ (by omega)]; exact h2, by omega, by omega, C_w52⟩
   ·
    refine s_fxM rfl rfl (w_build1 (v := (i64 ((((((S.getD k shr0).y).getD o 0).val : Nat) : Int)))) (E := 3) Tryz.underlying63 (i := Tryz.t3) (by kernel_rfl) rfl rfl rfl rfl rfl) ?_
    rintro _ w58 ⟨b59, rfl, hl_b59, hu_b59, o61, p60, c_w58⟩
    have ne_b59_h21 := Owns.ne_ge h2.o1 hl_b59
    have ne_b59_h22 := Owns.ne_ge h2.o2 hl_b59
    have hs_w58 : w21.heap.size ≤ w58.heap.size := Chg.size c_w58
    replace h2 := h2.k c_w58
    replace p16 := p16.k c_w58
    replace p17 := p17.k c_w58
    replace p18 := p18.k c_w58
    have C_w58 := Chg.pure C_w21 c_w58
    have hn_b59 : w.heap.size ≤ b59 := by have := Chg.size C_w58; omega
    replace p60 : Pc w58 b59 0 (fs [(((S.getD k shr0).y).getD o 0)]) := p60
    have K_w58 := Chg.pure (Chg.refl (ob (Value.slice a4 k c4)) w21) c_w58
    refine ⟨K_w58, ?_⟩
    refine s_fxM rfl rfl (w_build1 (v := (i64 (((((S.getD k shr0).x).val : Nat) : Int)))) (E := 3) Tryz.underlying63 (i := Tryz.t3) (by kernel_rfl) rfl rfl rfl rfl rfl) ?_
    rintro _ w62 ⟨b63, rfl, hl_b63, hu_b63, o65, p64, c_w62⟩
    have ne_b63_h21 := Owns.ne_ge h2.o1 hl_b63
    have ne_b63_h22 := Owns.ne_ge h2.o2 hl_b63
    have hs_w62 : w58.heap.size ≤ w62.heap.size := Chg.size c_w62
    replace h2 := h2.k c_w62
    replace p16 := p16.k c_w62
    replace p17 := p17.k c_w62
    replace p18 := p18.k c_w62
    replace p60 := p60.k c_w62
    have C_w62 := Chg.pure C_w58 c_w62
    have hn_b63 : w.heap.size ≤ b63 := by have := Chg.size C_w62; omega
    replace p64 : Pc w62 b63 0 (fs [(S.getD k shr0).x]) := p64
    have K_w62 := Chg.pure K_w58 c_w62
    refine ⟨K_w62, ?_⟩
    refine s_fxM rfl rfl (w_appendAt (E := 3) (sz := 1) Tryz.underlying63 rfl (i := Tryz.t3) (by kernel_rfl) rfl rfl rfl rfl rfl h2.o1 rfl (SlAt.some p64.rd) (by rw [fs_length]; rfl) (flat_fs _) (by omega) (by omega) (by show _ * 8 ≤ _; omega) (by omega)) ?_
    rintro v68 w66 ⟨o67, hq69, c_w66⟩
    have hs_w66 : w62.heap.size ≤ w66.heap.size := Chg.size c_w66
    replace p16 := p16.kob c_w66 ne_b13_h21
    replace p17 := p17.kob c_w66 ne_b13_h21
    replace p18 := p18.kob c_w66 ne_b13_h21
    replace p60 := p60.kob c_w66 ne_b59_h21
    replace p64 := p64.kob c_w66 ne_b63_h21
    have C_w66 := Chg.newOb C_w62 c_w66 h2.o1 (by omega)
    replace h2 := h2.add1 o67 hq69 c_w66
    clear hq69
    have hfo_ := Owns.form2 h2.o1
    obtain ⟨A70, cap71, e_, hc_cap71⟩ := hfo_
    subst e_
    have K_w66 := Chg.into K_w62 c_w66 (fun _ _ _ m => m)
    refine ⟨K_w66, ?_⟩
    refine s_do rfl rfl (w_appendAt (E := 3) (sz := 1) Tryz.underlying63 rfl (i := Tryz.t3) (by kernel_rfl) rfl rfl rfl rfl rfl h2.o2 rfl (SlAt.some p60.rd) (by rw [fs_length]; rfl) (flat_fs _) (by omega) (by omega) (by show _ * 8 ≤ _; omega) (by omega)) rfl ?_
    rintro v74 w72 ⟨o73, hq75, c_w72⟩
    have hs_w72 : w66.heap.size ≤ w72.heap.size := Chg.size c_w72
    replace p16 := p16.kob c_w72 ne_b13_h22
    replace p17 := p17.kob c_w72 ne_b13_h22
    replace p18 := p18.kob c_w72 ne_b13_h22
    replace p60 := p60.kob c_w72 ne_b59_h22
    replace p64 := p64.kob c_w72 ne_b63_h22
    have C_w72 := Chg.newOb C_w66 c_w72 h2.o2 (by omega)
    replace h2 := h2.add2 o73 hq75 c_w72
    clear hq75
    have hfo_ := Owns.form2 h2.o2
    obtain ⟨A76, cap77, e_, hc_cap77⟩ := hfo_
    subst e_
    refine s_val rfl rfl (r_assign) rfl ?_
    refine s_val rfl rfl (r_assign) rfl ?_
    refine s_end ?_
    refine go_nil (loop_normal ⟨?_, (by repeat (first | exact same_refl | exact same_over | refine same_upd rfl ?_ | refine same_over2 rfl ?_))⟩)
    exact ⟨_, _, _, _, rfl, rfl, by rw [map_take_succ _ (by omega), map_take_succ _ (by omega)]; exact h2, by omega, by omega, C_w72⟩
  rintro f20 w19 ⟨a6, c6, a7, c7, e78, e79, h2, hc6, hc7, C_w19⟩
  have ob_81 : ∃ g_, f20 = upd g_ 4 (Value.slice a6 (k + 1) c6) := ⟨f20, upd_id e78⟩
  obtain ⟨f80, rfl⟩ := ob_81
  have ob_83 : ∃ g_, f80 = upd g_ 5 (Value.slice a7 (k + 1) c7) := ⟨f80, upd_id e79⟩
  obtain ⟨f82, rfl⟩ := ob_83
  clear e78 e79
  have hs_w19 : w.heap.size ≤ w19.heap.size := Chg.size C_w19
  refine go_nil (block_normal ?_)
  refine go_region 2 rfl rfl ?_
  refine s_val rfl rfl (r_addi rfl rfl (by omega)) rfl ?_
  refine s_val rfl rfl (r_move) rfl ?_
  refine s_end ?_
  refine go_nil (loop_normal ⟨⟨(k + 1, a6, c6, a7, c7), by first | omega | (dsimp only; omega), ⟨rfl, rfl, rfl, by omega, by omega, h2, by omega, by omega, C_w19⟩⟩, (by repeat (first | exact same_refl | exact same_over | refine same_upd rfl ?_ | refine same_over2 rfl ?_))⟩)
 ·first | replace h1 := dcF h1 | replace h1 := dcT (nf h1) | skip
  have ob_84 : n = k := by omega
  obtain rfl := ob_84
  rw [List.take_of_length_le (by omega)] at h2
  refine go_exit (loop_exit (block_hit ?_))
  refine go_seq ?_
  refine go_region 4 rfl rfl ?_
  refine s_val rfl rfl (r_move) rfl ?_
  refine s_val rfl rfl (r_move) rfl ?_
  refine s_val rfl rfl (r_assign) rfl ?_
  refine s_val rfl rfl (r_assign) rfl ?_
  refine s_end ?_
  refine go_ret ?_
  refine ⟨_, .cons rfl (.cons rfl (.nil)), ?_⟩
  exact ⟨_, _, _, _, rfl, by omega, by omega, fun x h_ => Nat.le_trans (by omega) (Owns.lo h2.o1 x h_), fun x h_ => Nat.le_trans (by omega) (Owns.lo h2.o2 x h_), Owns.sl h2.o1, Owns.sl h2.o2, C_w1⟩
set_option maxHeartbeats 4000000 in
set_option maxRecDepth 100000 in
theorem places_spec (S : List Shr) (a : Option Addr) (n c o : Nat) (w : World) (hn : S.length = n) (hb : n ≤ 64) (ho : o < 32) (hS : AllS S) (hsl : SlAt w a (scells S)) :
  Rtn Tryz.prog 55 [Value.slice a n c, i64 (o : Nat)].toArray w (fun v w' => ∃ ax cx ay cy, v = tup [.slice ax n cx, .slice ay n cy] ∧ n ≤ cx ∧ n ≤ cy ∧ (∀ x, ax = some x → w.heap.size ≤ x.block) ∧ (∀ x, ay = some x → w.heap.size ≤ x.block) ∧ SlAt w' ax (fs (S.map (·.x))) ∧ SlAt w' ay (fs (S.map fun s => s.y.getD o 0)) ∧ Kept w w') := by
 refine fn_body (l := [Value.slice a n c, i64 (o : Nat)]) 30 [.tmp 4, .tmp 5] Tryz.func55 rfl Tryz.ntmps55 (Nat.le_of_ble_eq_true rfl) (by rw [Tryz.results55]) ?_
 refine go_seq ?_
 refine go_region 2 rfl rfl ?_
 refine s_val rfl rfl (r_assign) rfl ?_
 refine s_val rfl rfl (r_assign) rfl ?_
 refine s_end ?_
 refine go_seq ?_
 refine go_seq ?_
 refine go_region 3 rfl rfl ?_
 refine s_val rfl rfl (r_move) rfl ?_
 refine s_val rfl rfl (r_len Tryz.runUnderlying26 rfl) rfl ?_
 refine s_val rfl rfl (r_move) rfl ?_
 refine s_end ?_
 refine go_block ?_
 refine go_loopM (σ := Nat × Option Addr × Nat × Option Addr × Nat) [(4, 5), (7, 7), (10, 27)] (fun (x_ : Nat × Option Addr × Nat × Option Addr × Nat) e' w' => match x_ with | (k, a4, c4, a5, c5) => e' 10 = i64 (k : Nat) ∧ e' 4 = Value.slice a4 k c4 ∧ e' 5 = Value.slice a5 k c5 ∧ k ≤ n ∧ w.heap.size ≤ w'.heap.size ∧ Two w' w.heap.size (Value.slice a4 k c4) k ((S.take k).map (·.x)) (Value.slice a5 k c5) k ((S.take k).map fun s => s.y.getD o 0) ∧ k ≤ c4 ∧ k ≤ c5 ∧ Chg no w w') (fun (x_ : Nat × Option Addr × Nat × Option Addr × Nat) => match x_ with | (k, a4, c4, a5, c5) => n - k) (0, none, 0, none, 0) ?_ ?_
 ·exact ⟨rfl, rfl, rfl, by omega, by omega, Two.nil _, by omega, by omega, (Chg.refl no w)⟩
 rintro ⟨k, a4, c4, a5, c5⟩ f2 w1 ⟨e3, e4, e5, hk, hcw, h2, hc4, hc5, C_w1⟩
 have ob_7 : ∃ g_, f2 = upd g_ 10 (i64 (k : Nat)) := ⟨f2, upd_id e3⟩
 obtain ⟨f6, rfl⟩ := ob_7
 have ob_9 : ∃ g_, f6 = upd g_ 4 (Value.slice a4 k c4) := ⟨f6, upd_id e4⟩
 obtain ⟨f8, rfl⟩ := ob_9
 have ob_11 : ∃ g_, f8 = upd g_ 5 (Value.slice a5 k c5) := ⟨f8, upd_id e5⟩
 obtain ⟨f10, rfl⟩ := ob_11
 clear e3 e4 e5
 have hs_w1 : w.heap.size ≤ w1.heap.size := Chg.size C_w1
 refine go_seq ?_
 refine go_region 1 rfl rfl ?_
 refine s_val rfl rfl (r_lss rfl rfl) rfl ?_
 refine s_end ?_
 refine go_seq ?_
 refine go_ifb _ rfl (fun h1 => ?_) (fun h1 => ?_)
 ·first | replace h1 := dcT h1 | replace h1 := dcF (nt h1) | skip
  refine go_skip ?_
  refine go_seq ?_
  refine go_block ?_
  refine go_seq ?_
  refine go_region 4 rfl rfl ?_
  refine s_val rfl rfl (r_indexSl (k := k) Tryz.runUnderlying26 Tryz.sizeOf40 rfl (hsl.k C_w1) (scells_ne hS (by first | omega | (simp; omega))) rfl (by first | rfl | omega) (by omega)) rfl ?_
  refine s_val rfl rfl (r_loadSlN Tryz.isAgg40 Tryz.sizeOf40 rfl (hsl.k C_w1) (scell_len (AllS.get hS k)) (scells_ne hS (by first | omega | (simp; omega))) (scells_get hS (by first | omega | (simp; omega)))) rfl ?_
  refine s_do rfl rfl (w_alloc (scell shr0) Tryz.zeroValue40 (by kernel_rfl)) rfl ?_
  rintro _ w12 ⟨b13, rfl, hl_b13, hu_b13, p14, c_w12⟩
  have ne_b13_h21 := Owns.ne_ge h2.o1 hl_b13
  have ne_b13_h22 := Owns.ne_ge h2.o2 hl_b13
  have hs_w12 : w1.heap.size ≤ w12.heap.size := Chg.size c_w12
  replace h2 := h2.k c_w12
  have C_w12 := Chg.pure C_w1 c_w12
  have hn_b13 : w.heap.size ≤ b13 := by have := Chg.size C_w12; omega
  refine s_do rfl rfl (w_storeA (o := 0) (cs := scell (S.getD k shr0)) Tryz.sizeOf40 rfl rfl (scell_len (AllS.get hS k)) (flat_scell _) p14 (scell_len shr0_ok)) rfl ?_
  rintro _ w15 ⟨q_w15, c_w15⟩
  have hs_w15 : w12.heap.size ≤ w15.heap.size := Chg.size c_w15
  replace h2 := h2.kb c_w15 ne_b13_h21 ne_b13_h22
  have C_w15 := Chg.newRng C_w12 c_w15 (by omega)
  have p16 : Pc w15 b13 0 (bs (S.getD k shr0).h) := Pc.shrH q_w15
  have hlH_p16 : ((S.getD k shr0).h).length = 16 := (AllS.get hS k).1
  have p17 : Pc w15 b13 16 [fi (S.getD k shr0).x] := Pc.shrX q_w15 (AllS.get hS k)
  have p18 : Pc w15 b13 17 (us (S.getD k shr0).y) := Pc.shrY q_w15 (AllS.get hS k)
  have hlY_p18 : ((S.getD k shr0).y).length = 32 := (AllS.get hS k).2
  clear q_w15
  refine s_end ?_
  refine go_meet [(4, 5), (14, 26)] (fun e' w' => ∃ (a6 : Option Addr) (c6 : Nat) (a7 : Option Addr) (c7 : Nat), e' 4 = Value.slice a6 (k + 1) c6 ∧ e' 5 = Value.slice a7 (k + 1) c7 ∧ Two w' w.heap.size (Value.slice a6 (k + 1) c6) (k + 1) ((S.take (k + 1)).map (·.x)) (Value.slice a7 (k + 1) c7) (k + 1) ((S.take (k + 1)).map fun s => s.y.getD o 0) ∧ k + 1 ≤ c6 ∧ k + 1 ≤ c7 ∧ Chg no w w') ?_ ?_
  ·
   refine go_drawsM (M := (ob (Value.slice a4 k c4))) 12 (.take 0 (.take 1 (.take 2 (.take 5 (.take 6 (.take 7 (.take 8 (.take 9 (.take 10 (.alts (.eff 3 (.alts (.eff 4 (.eff 11 (.eff 12 (.eff 13 (.eff 14 .done))))) (.eff 11 (.eff 4 (.eff 12 (.eff 13 (.eff 14 .done))))))) (.eff 11 (.eff 3 (.eff 4 (.eff 12 (.eff 13 (.eff 14 .done)))))))))))))))) (by kernel_rfl) (by kernel_rfl) fun w21 c_w21 => ?_
   have hs_w21 : w15.heap.size ≤ w21.heap.size := Chg.size c_w21
   replace h2 := h2.k c_w21
   replace p16 := p16.k c_w21
   replace p17 := p17.k c_w21
   replace p18 := p18.k c_w21
   have C_w21 := Chg.pure C_w15 c_w21
   have h2_0 := h2
   have p16_0 := p16
   have p17_0 := p17
   have p18_0 := p18
   refine s_takeM (M := (ob (Value.slice a4 k c4))) rfl rfl (w0 := w21) (fun x_ c_ => r_move) ?_
   refine s_takeM (M := (ob (Value.slice a4 k c4))) rfl rfl (w0 := w21) (fun x_ c_ => r_fieldAddr Tryz.runUnderlying40 rfl Tryz.sizeOf3 rfl rfl) ?_
   refine s_takeM (M := (ob (Value.slice a4 k c4))) rfl rfl (w0 := w21) (fun x_ c_ => r_load1 Tryz.isAgg3 rfl (p17_0.kob c_ ne_b13_h21).rd) ?_
   refine s_takeM (M := (ob (Value.slice a4 k c4))) rfl rfl (w0 := w21) (fun x_ c_ => r_move) ?_
   refine s_takeM (M := (ob (Value.slice a4 k c4))) rfl rfl (w0 := w21) (fun x_ c_ => r_move) ?_
   refine s_takeM (M := (ob (Value.slice a4 k c4))) rfl rfl (w0 := w21) (fun x_ c_ => r_fieldAddr Tryz.runUnderlying40 rfl Tryz.sizeOf38 rfl rfl) ?_
   refine s_takeM (M := (ob (Value.slice a4 k c4))) rfl rfl (w0 := w21) (fun x_ c_ => r_indexArr (k := o) Tryz.runUnderlying38 Tryz.sizeOf25 rfl rfl (by first | rfl | omega) (by first | decide | omega)) ?_
   refine s_takeM (M := (ob (Value.slice a4 k c4))) rfl rfl (w0 := w21) (fun x_ c_ => r_load1 Tryz.isAgg25 rfl (Rd.at1 (p18_0.kob c_ ne_b13_h21).rd (us_get (by first | omega | (simp; try omega))))) ?_
   refine s_takeM (M := (ob (Value.slice a4 k c4))) rfl rfl (w0 := w21) (fun x_ c_ => r_conv_F Tryz.runUnderlying25 Tryz.runUnderlying3 rfl) ?_
   refine s_alts ?_ ?_
   ·
    refine s_fxM rfl rfl (w_build1 (v := (i64 (((((S.getD k shr0).x).val : Nat) : Int)))) (E := 3) Tryz.underlying63 (i := Tryz.t3) (by kernel_rfl) rfl rfl rfl rfl rfl) ?_
    rintro _ w22 ⟨b23, rfl, hl_b23, hu_b23, o25, p24, c_w22⟩
    have ne_b23_h21 := Owns.ne_ge h2.o1 hl_b23
    have ne_b23_h22 := Owns.ne_ge h2.o2 hl_b23
    have hs_w22 : w21.heap.size ≤ w22.heap.size := Chg.size c_w22
    replace h2 := h2.k c_w22
    replace p16 := p16.k c_w22
    replace p17 := p17.k c_w22
    replace p18 := p18.k c_w22
    have C_w22 := Chg.pure C_w21 c_w22
    have hn_b23 : w.heap.size ≤ b23 := by have := Chg.size C_w22; omega
    replace p24 : Pc w22 b23 0 (fs [(S.getD k shr0).x]) := p24
    have K_w22 := Chg.pure (Chg.refl (ob (Value.slice a4 k c4)) w21) c_w22
    refine ⟨K_w22, ?_⟩
    refine s_alts ?_ ?_
    ·
     refine s_fxM rfl rfl (w_appendAt (E := 3) (sz := 1) Tryz.underlying63 rfl (i := Tryz.t3) (by kernel_rfl) rfl rfl rfl rfl rfl h2.o1 rfl (SlAt.some p24.rd) (by rw [fs_length]; rfl) (flat_fs _) (by omega) (by omega) (by show _ * 8 ≤ _; omega) (by omega)) ?_
     rintro v28 w26 ⟨o27, hq29, c_w26⟩
     have hs_w26 : w22.heap.size ≤ w26.heap.size := Chg.size c_w26
     replace p16 := p16.kob c_w26 ne_b13_h21
     replace p17 := p17.kob c_w26 ne_b13_h21
     replace p18 := p18.kob c_w26 ne_b13_h21
     replace p24 := p24.kob c_w26 ne_b23_h21
     have C_w26 := Chg.newOb C_w22 c_w26 h2.o1 (by omega)
     replace h2 := h2.add1 o27 hq29 c_w26
     clear hq29
     have hfo_ := Owns.form2 h2.o1
     obtain ⟨A30, cap31, e_, hc_cap31⟩ := hfo_
     subst e_
     have K_w26 := Chg.into K_w22 c_w26 (fun _ _ _ m => m)
     refine ⟨K_w26, ?_⟩
     refine s_fxM rfl rfl (w_build1 (v := (i64 ((((((S.getD k shr0).y).getD o 0).val : Nat) : Int)))) (E := 3) Tryz.underlying63 (i := Tryz.t3) (by kernel_rfl) rfl rfl rfl rfl rfl) ?_
     rintro _ w32 ⟨b33, rfl, hl_b33, hu_b33, o35, p34, c_w32⟩
     have ne_b33_h21 := Owns.ne_ge h2.o1 hl_b33
     have ne_b33_h22 := Owns.ne_ge h2.o2 hl_b33
     have hs_w32 : w26.heap.size ≤ w32.heap.size := Chg.size c_w32
     replace h2 := h2.k c_w32
     replace p16 := p16.k c_w32
     replace p17 := p17.k c_w32
     replace p18 := p18.k c_w32
     replace p24 := p24.k c_w32
     have C_w32 := Chg.pure C_w26 c_w32
     have hn_b33 : w.heap.size ≤ b33 := by have := Chg.size C_w32; omega
     replace p34 : Pc w32 b33 0 (fs [(((S.getD k shr0).y).getD o 0)]) := p34
     have K_w32 := Chg.pure K_w26 c_w32
     refine ⟨K_w32, ?_⟩
     refine s_do rfl rfl (w_appendAt (E := 3) (sz := 1) Tryz.underlying63 rfl (i := Tryz.t3) (by kernel_rfl) rfl rfl rfl rfl rfl h2.o2 rfl (SlAt.some p34.rd) (by rw [fs_length]; rfl) (flat_fs _) (by omega) (by omega) (by show _ * 8 ≤ _; omega) (by omega)) rfl ?_
     rintro v38 w36 ⟨o37, hq39, c_w36⟩
     have hs_w36 : w32.heap.size ≤ w36.heap.size := Chg.size c_w36
     replace p16 := p16.kob c_w36 ne_b13_h22
     replace p17 := p17.kob c_w36 ne_b13_h22
     replace p18 := p18.kob c_w36 ne_b13_h22
     replace p24 := p24.kob c_w36 ne_b23_h22
     replace p34 := p34.kob c_w36 ne_b33_h22
     have C_w36 := Chg.newOb C_w32 c_w36 h2.o2 (by omega)
     replace h2 := h2.add2 o37 hq39 c_w36
     clear hq39
     have hfo_ := Owns.form2 h2.o2
     obtain ⟨A40, cap41, e_, hc_cap41⟩ := hfo_
     subst e_
     refine s_val rfl rfl (r_assign) rfl ?_
     refine s_val rfl rfl (r_assign) rfl ?_
     refine s_end ?_
     refine go_nil (loop_normal ⟨?_, (by repeat (first | exact same_refl | exact same_over | refine same_upd rfl ?_ | refine same_over2 rfl ?_))⟩)
     exact ⟨_, _, _, _, rfl, rfl, by rw [map_take_succ _ (by omega), map_take_succ _ (by omega)]; exact h2, by omega, by omega, C_w36⟩
    ·
     refine s_fxM rfl rfl (w_build1 (v := (i64 ((((((S.getD k shr0).y).getD o 0).val : Nat) : Int)))) (E := 3) Tryz.underlying63 (i := Tryz.t3) (by kernel_rfl) rfl rfl rfl rfl rfl) ?_
     rintro _ w42 ⟨b43, rfl, hl_b43, hu_b43, o45, p44, c_w42⟩
     have ne_b43_h21 := Owns.ne_ge h2.o1 hl_b43
     have ne_b43_h22 := Owns.ne_ge h2.o2 hl_b43
     have hs_w42 : w22.heap.size ≤ w42.heap.size := Chg.size c_w42
     replace h2 := h2.k c_w42
     replace p16 := p16.k c_w42
     replace p17 := p17.k c_w42
     replace p18 := p18.k c_w42
     replace p24 := p24.k c_w42
     have C_w42 := Chg.pure C_w22 c_w42
     have hn_b43 : w.heap.size ≤ b43 := by have := Chg.size C_w42; omega
     replace p44 : Pc w42 b43 0 (fs [(((S.getD k shr0).y).getD o 0)]) := p44
     have K_w42 := Chg.pure K_w22 c_w42
     refine ⟨K_w42, ?_⟩
     refine s_fxM rfl rfl (w_appendAt (E := 3) (sz := 1) Tryz.underlying63 rfl (i := Tryz.t3) (by kernel_rfl) rfl rfl rfl rfl rfl h2.o1 rfl (SlAt.some p24.rd) (by rw [fs_length]; rfl) (flat_fs _) (by omega) (by omega) (by show _ * 8 ≤ _; omega) (by omega)) ?_
     rintro v48 w46 ⟨o47, hq49, c_w46⟩
     have hs_w46 : w42.heap.size ≤ w46.heap.size := Chg.size c_w46
     replace p16 := p16.kob c_w46 ne_b13_h21
     replace p17 := p17.kob c_w46 ne_b13_h21
     replace p18 := p18.kob c_w46 ne_b13_h21
     replace p24 := p24.kob c_w46 ne_b23_h21
     replace p44 := p44.kob c_w46 ne_b43_h21
     have C_w46 := Chg.newOb C_w42 c_w46 h2.o1 (by omega)
     replace h2 := h2.add1 o47 hq49 c_w46
     clear hq49
     have hfo_ := Owns.form2 h2.o1
     obtain ⟨A50, cap51, e_, hc_cap51⟩ := hfo_
     subst e_
     have K_w46 := Chg.into K_w42 c_w46 (fun _ _ _ m => m)
     refine ⟨K_w46, ?_⟩
     refine s_do rfl rfl (w_appendAt (E := 3) (sz := 1) Tryz.underlying63 rfl (i := Tryz.t3) (by kernel_rfl) rfl rfl rfl rfl rfl h2.o2 rfl (SlAt.some p44.rd) (by rw [fs_length]; rfl) (flat_fs _) (by omega) (by omega) (by show _ * 8 ≤ _; omega) (by omega)) rfl ?_
     rintro v54 w52 ⟨o53, hq55, c_w52⟩
     have hs_w52 : w46.heap.size ≤ w52.heap.size := Chg.size c_w52
     replace p16 := p16.kob c_w52 ne_b13_h22
     replace p17 := p17.kob c_w52 ne_b13_h22
     replace p18 := p18.kob c_w52 ne_b13_h22
     replace p24 := p24.kob c_w52 ne_b23_h22
     replace p44 := p44.kob c_w52 ne_b43_h22
     have C_w52 := Chg.newOb C_w46 c_w52 h2.o2 (by omega)
     replace h2 := h2.add2 o53 hq55 c_w52
     clear hq55
     have hfo_ := Owns.form2 h2.o2
     obtain ⟨A56, cap57, e_, hc_cap57⟩ := hfo_
     subst e_
     refine s_val rfl rfl (r_assign) rfl ?_
     refine s_val rfl rfl (r_assign) rfl ?_
     refine s_end ?_
     refine go_nil (loop_normal ⟨?_, (by repeat (first | exact same_refl | exact same_over | refine same_upd rfl ?_ | refine same_over2 rfl ?_))⟩)
     exact ⟨_, _, _, _, rfl, rfl, by rw [map_take_succ _ (by omega), map_take_succ _ (by omega)]; exact h2, by omega, by omega, C_w52⟩
   ·
    refine s_fxM rfl rfl (w_build1 (v := (i64 ((((((S.getD k shr0).y).getD o 0).val : Nat) : Int)))) (E := 3) Tryz.underlying63 (i := Tryz.t3) (by kernel_rfl) rfl rfl rfl rfl rfl) ?_
    rintro _ w58 ⟨b59, rfl, hl_b59, hu_b59, o61, p60, c_w58⟩
    have ne_b59_h21 := Owns.ne_ge h2.o1 hl_b59
    have ne_b59_h22 := Owns.ne_ge h2.o2 hl_b59
    have hs_w58 : w21.heap.size ≤ w58.heap.size := Chg.size c_w58
    replace h2 := h2.k c_w58
    replace p16 := p16.k c_w58
    replace p17 := p17.k c_w58
    replace p18 := p18.k c_w58
    have C_w58 := Chg.pure C_w21 c_w58
    have hn_b59 : w.heap.size ≤ b59 := by have := Chg.size C_w58; omega
    replace p60 : Pc w58 b59 0 (fs [(((S.getD k shr0).y).getD o 0)]) := p60
    have K_w58 := Chg.pure (Chg.refl (ob (Value.slice a4 k c4)) w21) c_w58
    refine ⟨K_w58, ?_⟩
    refine s_fxM rfl rfl (w_build1 (v := (i64 (((((S.getD k shr0).x).val : Nat) : Int)))) (E := 3) Tryz.underlying63 (i := Tryz.t3) (by kernel_rfl) rfl rfl rfl rfl rfl) ?_
    rintro _ w62 ⟨b63, rfl, hl_b63, hu_b63, o65, p64, c_w62⟩
    have ne_b63_h21 := Owns.ne_ge h2.o1 hl_b63
    have ne_b63_h22 := Owns.ne_ge h2.o2 hl_b63
    have hs_w62 : w58.heap.size ≤ w62.heap.size := Chg.size c_w62
    replace h2 := h2.k c_w62
    replace p16 := p16.k c_w62
    replace p17 := p17.k c_w62
    replace p18 := p18.k c_w62
    replace p60 := p60.k c_w62
    have C_w62 := Chg.pure C_w58 c_w62
    have hn_b63 : w.heap.size ≤ b63 := by have := Chg.size C_w62; omega
    replace p64 : Pc w62 b63 0 (fs [(S.getD k shr0).x]) := p64
    have K_w62 := Chg.pure K_w58 c_w62
    refine ⟨K_w62, ?_⟩
    refine s_fxM rfl rfl (w_appendAt (E := 3) (sz := 1) Tryz.underlying63 rfl (i := Tryz.t3) (by kernel_rfl) rfl rfl rfl rfl rfl h2.o1 rfl (SlAt.some p64.rd) (by rw [fs_length]; rfl) (flat_fs _) (by omega) (by omega) (by show _ * 8 ≤ _; omega) (by omega)) ?_
    rintro v68 w66 ⟨o67, hq69, c_w66⟩
    have hs_w66 : w62.heap.size ≤ w66.heap.size := Chg.size c_w66
    replace p16 := p16.kob c_w66 ne_b13_h21
    replace p17 := p17.kob c_w66 ne_b13_h21
    replace p18 := p18.kob c_w66 ne_b13_h21
    replace p60 := p60.kob c_w66 ne_b59_h21
    replace p64 := p64.kob c_w66 ne_b63_h21
    have C_w66 := Chg.newOb C_w62 c_w66 h2.o1 (by omega)
    replace h2 := h2.add1 o67 hq69 c_w66
    clear hq69
    have hfo_ := Owns.form2 h2.o1
    obtain ⟨A70, cap71, e_, hc_cap71⟩ := hfo_
    subst e_
    have K_w66 := Chg.into K_w62 c_w66 (fun _ _ _ m => m)
    refine ⟨K_w66, ?_⟩
    refine s_do rfl rfl (w_appendAt (E := 3) (sz := 1) Tryz.underlying63 rfl (i := Tryz.t3) (by kernel_rfl) rfl rfl rfl rfl rfl h2.o2 rfl (SlAt.some p60.rd) (by rw [fs_length]; rfl) (flat_fs _) (by omega) (by omega) (by show _ * 8 ≤ _; omega) (by omega)) rfl ?_
    rintro v74 w72 ⟨o73, hq75, c_w72⟩
    have hs_w72 : w66.heap.size ≤ w72.heap.size := Chg.size c_w72
    replace p16 := p16.kob c_w72 ne_b13_h22
    replace p17 := p17.kob c_w72 ne_b13_h22
    replace p18 := p18.kob c_w72 ne_b13_h22
    replace p60 := p60.kob c_w72 ne_b59_h22
    replace p64 := p64.kob c_w72 ne_b63_h22
    have C_w72 := Chg.newOb C_w66 c_w72 h2.o2 (by omega)
    replace h2 := h2.add2 o73 hq75 c_w72
    clear hq75
    have hfo_ := Owns.form2 h2.o2
    obtain ⟨A76, cap77, e_, hc_cap77⟩ := hfo_
    subst e_
    refine s_val rfl rfl (r_assign) rfl ?_
    refine s_val rfl rfl (r_assign) rfl ?_
    refine s_end ?_
    refine go_nil (loop_normal ⟨?_, (by repeat (first | exact same_refl | exact same_over | refine same_upd rfl ?_ | refine same_over2 rfl ?_))⟩)
    exact ⟨_, _, _, _, rfl, rfl, by rw [map_take_succ _ (by omega), map_take_succ _ (by omega)]; exact h2, by omega, by omega, C_w72⟩
  rintro f20 w19 ⟨a6, c6, a7, c7, e78, e79, h2, hc6, hc7, C_w19⟩
  have ob_81 : ∃ g_, f20 = upd g_ 4 (Value.slice a6 (k + 1) c6) := ⟨f20, upd_id e78⟩
  obtain ⟨f80, rfl⟩ := ob_81
  have ob_83 : ∃ g_, f80 = upd g_ 5 (Value.slice a7 (k + 1) c7) := ⟨f80, upd_id e79⟩
  obtain ⟨f82, rfl⟩ := ob_83
  clear e78 e79
  have hs_w19 : w.heap.size ≤ w19.heap.size := Chg.size C_w19
  refine go_nil (block_normal ?_)
  refine go_region 2 rfl rfl ?_
  refine s_val rfl rfl (r_addi rfl rfl (by omega)) rfl ?_
  refine s_val rfl rfl (r_move) rfl ?_
  refine s_end ?_
  refine go_nil (loop_normal ⟨⟨(k + 1, a6, c6, a7, c7), by first | omega | (dsimp only; omega), ⟨rfl, rfl, rfl, by omega, by omega, h2, by omega, by omega, C_w19⟩⟩, (by repeat (first | exact same_refl | exact same_over | refine same_upd rfl ?_ | refine same_over2 rfl ?_))⟩)
 ·first | replace h1 := dcF h1 | replace h1 := dcT (nf h1) | skip
  have ob_84 : n = k := by omega
  obtain rfl := ob_84
  rw [List.take_of_length_le (by omega)] at h2
  refine go_exit (loop_exit (block_hit ?_))
  refine go_seq ?_
  refine go_region 4 rfl rfl ?_
  refine s_val rfl rfl (r_move) rfl ?_
  refine s_val rfl rfl (r_move) rfl ?_
  refine s_val rfl rfl (r_assign) rfl ?_
  refine s_val rfl rfl (r_assign) rfl ?_
  refine s_end ?_
  refine go_ret ?_
  refine ⟨_, .cons rfl (.cons rfl (.nil)), ?_⟩
  exact ⟨_, _, _, _, rfl, by omega, by omega, fun x h_ => Nat.le_trans (by omega) (Owns.lo h2.o1 x h_), fun x h_ => Nat.le_trans (by omega) (Owns.lo h2.o2 x h_), Owns.sl h2.o1, Owns.sl h2.o2, C_w1⟩
end Go.Proofs.YtippcmedgfmgbaaGreat
end
section
open Go Go.Eng Go.Proofs
namespace Go.Proofs.YtippcmedgfmgbaaGreat
theorem kt37 : KeyT Tryz.prog 37 5 16 := ⟨Tryz.underlying37, Tryz.underlying5, Tryz.sizeOf5, by kernel_rfl, by kernel_rfl, by kernel_rfl⟩
theorem outside_spec (n lo hi : Int) (w : World) :
  Rtn Tryz.prog 31 [i64 n, i64 lo, i64 hi].toArray w (fun v w' => v = .bool (decide (n < lo ∨ hi < n)) ∧ Kept w w') := by
 refine fn_body (l := [i64 n, i64 lo, i64 hi]) 15 [.tmp 6] Tryz.func31 rfl Tryz.ntmps31 (Nat.le_of_ble_eq_true rfl) (by rw [Tryz.results31]) ?_
 refine go_seq ?_
 refine go_region 1 rfl rfl ?_
 refine s_val rfl rfl (r_assign) rfl ?_
 refine s_end ?_
 refine go_seq ?_
 refine go_region 9 rfl rfl ?_
 refine s_val rfl rfl (r_move) rfl ?_
 refine s_val rfl rfl (r_move) rfl ?_
 refine s_valB rfl rfl (r_lss rfl rfl) rfl (fun h1 => ?_) (fun h1 => ?_)
 ·first | replace h1 := dcT h1 | replace h1 := dcF (nt h1) | skip
  have h1_ := h1
  refine s_val rfl rfl (r_move) rfl ?_
  refine s_val_not rfl rfl ?_
  refine s_val_not rfl rfl ?_
  refine s_val_not rfl rfl ?_
  refine s_val rfl rfl (r_pick true rfl) rfl ?_
  refine s_val rfl rfl (r_assign) rfl ?_
  refine s_end ?_
  refine go_ret ?_
  refine ⟨_, .cons rfl (.nil), ?_⟩
  exact ⟨congrArg Value.bool (decide_eq_true (.inl h1_)).symm, (Chg.refl no w)⟩
 ·first | replace h1 := dcF h1 | replace h1 := dcT (nf h1) | skip
  have h1_ := h1
  refine s_val rfl rfl (r_move) rfl ?_
  refine s_val_g rfl rfl (r_move) rfl ?_
  refine s_val_g rfl rfl (r_move) rfl ?_
  refine s_val_g rfl rfl (r_gtr rfl rfl) rfl ?_
  refine s_val rfl rfl (r_pick false rfl) rfl ?_
  refine s_val rfl rfl (r_assign) rfl ?_
  refine s_end ?_
  refine go_ret ?_
  refine ⟨_, .cons rfl (.nil), ?_⟩
  exact ⟨congrArg Value.bool (decide_eq_decide.2 ⟨.inr, fun h_ => h_.resolve_left h1_⟩), (Chg.refl no w)⟩
theorem inside_spec (n lo hi : Int) (w : World) (h1 : lo ≤ n) (h2 : n ≤ hi) : Rtn Tryz.prog 31 [i64 n, i64 lo, i64 hi].toArray w (fun v w' => v = .bool false ∧ Kept w w') :=
  (outside_spec n lo hi w).mono fun v w' ⟨e, k⟩ => ⟨by rw [e, decide_eq_false (by omega)], k⟩
theorem bad1_spec (z : F) (w : World) :
  Rtn Tryz.prog 112 [uf z].toArray w (fun v w' => v = .bool false ∧ Kept w w') := by
 refine fn_body (l := [uf z]) 5 [.tmp 2] Tryz.func112 rfl Tryz.ntmps112 (Nat.le_of_ble_eq_true rfl) (by rw [Tryz.results112]) ?_
 refine go_seq ?_
 refine go_region 1 rfl rfl ?_
 refine s_val rfl rfl (r_assign) rfl ?_
 refine s_end ?_
 refine go_seq ?_
 refine go_region 3 rfl rfl ?_
 refine s_val rfl rfl (r_move) rfl ?_
 refine s_val rfl rfl (r_geq rfl rfl) rfl ?_
 refine s_val rfl rfl (r_assign) rfl ?_
 refine s_end ?_
 refine go_ret ?_
 refine ⟨_, .cons rfl (.nil), ?_⟩
 have hz_ := f_lt z
 exact ⟨congrArg Value.bool (decide_eq_false (by omega)), (Chg.refl no w)⟩
theorem indexBad_spec (L : List F) (a : Option Addr) (n c : Nat) (w : World) (hn : L.length = n) (hbig : n ≤ 1000) (hsl : SlAt w a (us L)) :
  Rtn Tryz.prog 118 [Value.slice a n c, Value.func (.func 112) #[] #[]].toArray w (fun v w' => v = i64 (-1) ∧ Kept w w') := by
 refine fn_body (l := [Value.slice a n c, Value.func (.func 112) #[] #[]]) 19 [.tmp 4] Tryz.func118 rfl Tryz.ntmps118 (Nat.le_of_ble_eq_true rfl) (by rw [Tryz.results118]) ?_
 refine go_seq ?_
 refine go_region 1 rfl rfl ?_
 refine s_val rfl rfl (r_assign) rfl ?_
 refine s_end ?_
 refine go_seq ?_
 refine go_seq ?_
 refine go_region 3 rfl rfl ?_
 refine s_val rfl rfl (r_move) rfl ?_
 refine s_val rfl rfl (r_len Tryz.runUnderlying162 rfl) rfl ?_
 refine s_val rfl rfl (r_move) rfl ?_
 refine s_end ?_
 refine go_block ?_
 refine go_loopM (σ := Nat) [(4, 5), (8, 18)] (fun (k : Nat) e' w' => e' 8 = i64 (k : Nat) ∧ k ≤ n ∧ Chg no w w') (fun (k : Nat) => n - k) 0 ?_ ?_
 ·exact ⟨rfl, by omega, (Chg.refl no w)⟩
 rintro k f2 w1 ⟨e3, hk, C_w1⟩
 have ob_5 : ∃ g_, f2 = upd g_ 8 (i64 (k : Nat)) := ⟨f2, upd_id e3⟩
 obtain ⟨f4, rfl⟩ := ob_5
 clear e3
 have hs_w1 : w.heap.size ≤ w1.heap.size := Chg.size C_w1
 refine go_seq ?_
 refine go_region 1 rfl rfl ?_
 refine s_val rfl rfl (r_lss rfl rfl) rfl ?_
 refine s_end ?_
 refine go_seq ?_
 refine go_ifb _ rfl (fun h1 => ?_) (fun h1 => ?_)
 ·first | replace h1 := dcT h1 | replace h1 := dcF (nt h1) | skip
  refine go_skip ?_
  refine go_seq ?_
  refine go_block ?_
  refine go_seq ?_
  refine go_region 2 rfl rfl ?_
  refine s_val rfl rfl (r_move) rfl ?_
  refine s_val rfl rfl (r_assign) rfl ?_
  refine s_end ?_
  refine go_seq ?_
  refine go_region 6 rfl rfl ?_
  refine s_val rfl rfl (r_move) rfl ?_
  refine s_val rfl rfl (r_move) rfl ?_
  refine s_val rfl rfl (r_move) rfl ?_
  refine s_val rfl rfl (r_indexSl (k := k) Tryz.runUnderlying162 Tryz.sizeOf25 rfl (hsl.k C_w1) (us_ne (by first | omega | (simp; try omega))) rfl (by first | rfl | omega) (by omega)) rfl ?_
  refine s_val rfl rfl (r_loadSl1 Tryz.isAgg25 rfl (hsl.k C_w1) (us_get (by first | omega | (simp; try omega)))) rfl ?_
  refine s_do rfl rfl (w_callV (cap := []) Tryz.call112 rfl rfl (bad1_spec (L.getD k 0) _)) rfl ?_
  rintro _ w6 ⟨rfl, c_w6⟩
  have hs_w6 : w1.heap.size ≤ w6.heap.size := Chg.size c_w6
  have C_w6 := Chg.pure C_w1 c_w6
  refine s_end ?_
  refine go_false rfl ?_
  refine go_skip ?_
  refine go_nil (block_normal ?_)
  refine go_region 2 rfl rfl ?_
  refine s_val rfl rfl (r_addi rfl rfl (by omega)) rfl ?_
  refine s_val rfl rfl (r_move) rfl ?_
  refine s_end ?_
  refine go_nil (loop_normal ⟨⟨(k + 1), by first | omega | (dsimp only; omega), ⟨rfl, by omega, C_w6⟩⟩, (by repeat (first | exact same_refl | exact same_over | refine same_upd rfl ?_ | refine same_over2 rfl ?_))⟩)
 ·first | replace h1 := dcF h1 | replace h1 := dcT (nf h1) | skip
  refine go_exit (loop_exit (block_hit ?_))
  refine go_seq ?_
  refine go_region 1 rfl rfl ?_
  refine s_val rfl rfl (r_assign) rfl ?_
  refine s_end ?_
  refine go_ret ?_
  refine ⟨_, .cons rfl (.nil), ?_⟩
  exact ⟨rfl, C_w1⟩
theorem containsBad_spec (L : List F) (a : Option Addr) (n c : Nat) (w : World) (hn : L.length = n) (hbig : n ≤ 1000) (hsl : SlAt w a (us L)) :
  Rtn Tryz.prog 111 [Value.slice a n c, Value.func (.func 112) #[] #[]].toArray w (fun v w' => v = .bool false ∧ Kept w w') := by
 refine fn_body (l := [Value.slice a n c, Value.func (.func 112) #[] #[]]) 9 [.tmp 4] Tryz.func111 rfl Tryz.ntmps111 (Nat.le_of_ble_eq_true rfl) (by rw [Tryz.results111]) ?_
 refine go_seq ?_
 refine go_region 1 rfl rfl ?_
 refine s_val rfl rfl (r_assign) rfl ?_
 refine s_end ?_
 refine go_seq ?_
 refine go_region 5 rfl rfl ?_
 refine s_val rfl rfl (r_move) rfl ?_
 refine s_val rfl rfl (r_move) rfl ?_
 refine s_do rfl rfl (w_call Tryz.call118 rfl (indexBad_spec L _ _ _ _ (by first | omega | (simp; try omega)) (by first | omega | (simp; try omega)) (hsl.k (Chg.refl no w)))) rfl ?_
 rintro _ w1 ⟨rfl, c_w1⟩
 have hs_w1 : w.heap.size ≤ w1.heap.size := Chg.size c_w1
 have C_w1 := Chg.pure (Chg.refl no w) c_w1
 refine s_val rfl rfl (r_geq rfl rfl) rfl ?_
 refine s_val rfl rfl (r_assign) rfl ?_
 refine s_end ?_
 refine go_ret ?_
 refine ⟨_, .cons rfl (.nil), ?_⟩
 exact ⟨rfl, C_w1⟩
theorem badValues_spec (s : Shr) (w : World) (hs : SOk s) :
  Rtn Tryz.prog 100 [Value.agg (scell s).toArray].toArray w (fun v w' => v = .bool false ∧ Kept w w') := by
 refine fn_body (l := [Value.agg (scell s).toArray]) 6 [.tmp 2] Tryz.func100 rfl Tryz.ntmps100 (Nat.le_of_ble_eq_true rfl) (by rw [Tryz.results100]) ?_
 refine go_seq ?_
 refine go_region 2 rfl rfl ?_
 refine s_do rfl rfl (w_boxA rfl) rfl ?_
 rintro _ w1 ⟨b2, rfl, hl_b2, hu_b2, p3, c_w1⟩
 have hs_w1 : w.heap.size ≤ w1.heap.size := Chg.size c_w1
 have C_w1 := Chg.pure (Chg.refl no w) c_w1
 have hn_b2 : w.heap.size ≤ b2 := by have := Chg.size C_w1; omega
 have p4 : Pc w1 b2 0 (bs s.h) := Pc.shrH p3
 have hlH_p4 : (s.h).length = 16 := hs.1
 have p5 : Pc w1 b2 16 [fi s.x] := Pc.shrX p3 hs
 have p6 : Pc w1 b2 17 (us s.y) := Pc.shrY p3 hs
 have hlY_p6 : (s.y).length = 32 := hs.2
 clear p3
 refine s_val rfl rfl (r_assign) rfl ?_
 refine s_end ?_
 refine go_seq ?_
 refine go_region 4 rfl rfl ?_
 refine s_val rfl rfl (r_fieldAddr Tryz.runUnderlying40 rfl Tryz.sizeOf38 rfl rfl) rfl ?_
 refine s_val rfl rfl (r_sliceA (l := 0) (h := 32) (m := 32) Tryz.runUnderlying38 Tryz.sizeOf25 rfl rfl rfl rfl (by first | decide | (intro h_; cases h_)) (by first | decide | omega) (by first | decide | omega | (intro _; omega)) (by first | decide | omega) (by first | decide | omega)) rfl ?_
 refine s_do rfl rfl (w_call Tryz.call111 rfl (containsBad_spec s.y _ _ _ _ (by first | omega | (simp; try omega)) (by first | omega | (simp; try omega)) (SlAt.some p6.rd))) rfl ?_
 rintro _ w7 ⟨rfl, c_w7⟩
 have hs_w7 : w1.heap.size ≤ w7.heap.size := Chg.size c_w7
 replace p4 := p4.k c_w7
 replace p5 := p5.k c_w7
 replace p6 := p6.k c_w7
 have C_w7 := Chg.pure C_w1 c_w7
 refine s_val rfl rfl (r_assign) rfl ?_
 refine s_end ?_
 refine go_ret ?_
 refine ⟨_, .cons rfl (.nil), ?_⟩
 exact ⟨rfl, C_w7⟩
set_option maxHeartbeats 4000000 in
set_option maxRecDepth 100000 in
theorem eachFault_spec (S : List Shr) (a : Option Addr) (n c : Nat) (w : World) (hn : S.length = n) (hb : n ≤ 64) (hS : AllS S) (hx0 : ∀ s ∈ S, s.x ≠ 0) (hxn : (S.map (·.x)).Nodup) (hhn : (S.map (·.h)).Nodup) (hsl : SlAt w a (scells S)) :
  Rtn Tryz.prog 78 [Value.slice a n c].toArray w (fun v w' => v = i64 0 ∧ Kept w w') := by
 refine fn_body (l := [Value.slice a n c]) 40 [.tmp 2] Tryz.func78 rfl Tryz.ntmps78 (Nat.le_of_ble_eq_true rfl) (by rw [Tryz.results78]) ?_
 refine go_seq ?_
 refine go_region 1 rfl rfl ?_
 refine s_val rfl rfl (r_assign) rfl ?_
 refine s_end ?_
 refine go_seq ?_
 refine go_region 4 rfl rfl ?_
 refine s_do rfl rfl (w_makeMap) rfl ?_
 rintro _ w1 ⟨b2, rfl, hl_b2, hu_b2, mp3, c_w1⟩
 have hs_w1 : w.heap.size ≤ w1.heap.size := Chg.size c_w1
 have C_w1 := Chg.pure (Chg.refl no w) c_w1
 have hn_b2 : w.heap.size ≤ b2 := by have := Chg.size C_w1; omega
 refine s_do rfl rfl (w_makeMapK 16) rfl ?_
 rintro _ w4 ⟨b5, rfl, hl_b5, hu_b5, mp6, c_w4⟩
 have hs_w4 : w1.heap.size ≤ w4.heap.size := Chg.size c_w4
 replace mp3 := mp3.k c_w4
 have C_w4 := Chg.pure C_w1 c_w4
 have hn_b5 : w.heap.size ≤ b5 := by have := Chg.size C_w4; omega
 refine s_val rfl rfl (r_assign) rfl ?_
 refine s_val rfl rfl (r_assign) rfl ?_
 refine s_end ?_
 refine go_seq ?_
 refine go_seq ?_
 refine go_region 3 rfl rfl ?_
 refine s_val rfl rfl (r_move) rfl ?_
 refine s_val rfl rfl (r_len Tryz.runUnderlying26 rfl) rfl ?_
 refine s_val rfl rfl (r_move) rfl ?_
 refine s_end ?_
 refine go_block ?_
 refine go_loopM (σ := Nat) [(2, 2), (6, 6), (11, 39)] (fun (k : Nat) e' w' => e' 11 = i64 (k : Nat) ∧ k ≤ n ∧ MapI w' b2 (placeM (S.take k)) ∧ MapK 16 w' b5 (holdM (S.take k)) ∧ b2 < w'.heap.size ∧ b5 < w'.heap.size ∧ b2 ≠ b5 ∧ Chg no w w') (fun (k : Nat) => n - k) 0 ?_ ?_
 ·exact ⟨rfl, by omega, mp3, mp6, by omega, by omega, by omega, C_w4⟩
 rintro k f8 w7 ⟨e9, hk, hmi, hmk, hu3, hu4, hne34, C_w7⟩
 have ob_11 : ∃ g_, f8 = upd g_ 11 (i64 (k : Nat)) := ⟨f8, upd_id e9⟩
 obtain ⟨f10, rfl⟩ := ob_11
 clear e9
 have hs_w7 : w.heap.size ≤ w7.heap.size := Chg.size C_w7
 refine go_seq ?_
 refine go_region 1 rfl rfl ?_
 refine s_val rfl rfl (r_lss rfl rfl) rfl ?_
 refine s_end ?_
 refine go_seq ?_
 refine go_ifb _ rfl (fun h1 => ?_) (fun h1 => ?_)
 ·first | replace h1 := dcT h1 | replace h1 := dcF (nt h1) | skip
  have hx1_ := F_pos (hx0 _ (getD_memS (k := k) (by omega)))
  refine go_skip ?_
  refine go_seq ?_
  refine go_block ?_
  refine go_seq ?_
  refine go_region 4 rfl rfl ?_
  refine s_val rfl rfl (r_indexSl (k := k) Tryz.runUnderlying26 Tryz.sizeOf40 rfl (hsl.k C_w7) (scells_ne hS (by first | omega | (simp; omega))) rfl (by first | rfl | omega) (by omega)) rfl ?_
  refine s_val rfl rfl (r_loadSlN Tryz.isAgg40 Tryz.sizeOf40 rfl (hsl.k C_w7) (scell_len (AllS.get hS k)) (scells_ne hS (by first | omega | (simp; omega))) (scells_get hS (by first | omega | (simp; omega)))) rfl ?_
  refine s_do rfl rfl (w_alloc (scell shr0) Tryz.zeroValue40 (by kernel_rfl)) rfl ?_
  rintro _ w12 ⟨b13, rfl, hl_b13, hu_b13, p14, c_w12⟩
  have hs_w12 : w7.heap.size ≤ w12.heap.size := Chg.size c_w12
  replace hmi := hmi.k c_w12
  replace hmk := hmk.k c_w12
  have C_w12 := Chg.pure C_w7 c_w12
  have hn_b13 : w.heap.size ≤ b13 := by have := Chg.size C_w12; omega
  refine s_do rfl rfl (w_storeA (o := 0) (cs := scell (S.getD k shr0)) Tryz.sizeOf40 rfl rfl (scell_len (AllS.get hS k)) (flat_scell _) p14 (scell_len shr0_ok)) rfl ?_
  rintro _ w15 ⟨q_w15, c_w15⟩
  have hs_w15 : w12.heap.size ≤ w15.heap.size := Chg.size c_w15
  replace hmi := hmi.kb c_w15 (by omega)
  replace hmk := hmk.kb c_w15 (by omega)
  have C_w15 := Chg.newRng C_w12 c_w15 (by omega)
  have p16 : Pc w15 b13 0 (bs (S.getD k shr0).h) := Pc.shrH q_w15
  have hlH_p16 : ((S.getD k shr0).h).length = 16 := (AllS.get hS k).1
  have p17 : Pc w15 b13 16 [fi (S.getD k shr0).x] := Pc.shrX q_w15 (AllS.get hS k)
  have p18 : Pc w15 b13 17 (us (S.getD k shr0).y) := Pc.shrY q_w15 (AllS.get hS k)
  have hlY_p18 : ((S.getD k shr0).y).length = 32 := (AllS.get hS k).2
  clear q_w15
  refine s_end ?_
  refine go_seq ?_
  refine go_block ?_
  refine go_seq ?_
  refine go_region 4 rfl rfl ?_
  refine s_val rfl rfl (r_fieldAddr Tryz.runUnderlying40 rfl Tryz.sizeOf3 rfl rfl) rfl ?_
  refine s_val rfl rfl (r_load1 Tryz.isAgg3 rfl p17.rd) rfl ?_
  have hf_20 := f_lt ((S.getD k shr0).x)
  refine s_do rfl rfl (w_call Tryz.call31 rfl (inside_spec ((((S.getD k shr0).x).val : Nat) : Int) _ _ _ (by omega) (by omega))) rfl ?_
  rintro _ w19 ⟨rfl, c_w19⟩
  have hs_w19 : w15.heap.size ≤ w19.heap.size := Chg.size c_w19
  replace hmi := hmi.k c_w19
  replace hmk := hmk.k c_w19
  replace p16 := p16.k c_w19
  replace p17 := p17.k c_w19
  replace p18 := p18.k c_w19
  have C_w19 := Chg.pure C_w15 c_w19
  refine s_val rfl rfl (r_assign) rfl ?_
  refine s_end ?_
  refine go_false rfl ?_
  refine go_seq ?_
  refine go_region 11 rfl rfl ?_
  refine s_val rfl rfl (r_move) rfl ?_
  refine s_val rfl rfl (r_fieldAddr Tryz.runUnderlying40 rfl Tryz.sizeOf3 rfl rfl) rfl ?_
  refine s_val rfl rfl (r_load1 Tryz.isAgg3 rfl p17.rd) rfl ?_
  have hv23_ : (lookI (placeM (S.take k)) (((S.getD k shr0).x.val : Nat) : Int)).getD (Value.bool false) = .bool false := by rw [lookI_new (place_new hxn (by omega))]; rfl
  refine s_val rfl rfl (r_lookupV Tryz.underlying150 Tryz.underlying3 Tryz.zeroValue4 rfl rfl hmi hv23_) rfl ?_
  refine s_val rfl rfl (r_move) rfl ?_
  refine s_val_g rfl rfl (r_move) rfl ?_
  refine s_val_g rfl rfl (r_fieldAddr Tryz.runUnderlying40 rfl Tryz.sizeOf37 rfl rfl) rfl ?_
  refine s_val_g rfl rfl (r_loadN Tryz.isAgg37 Tryz.sizeOf37 rfl p16.rd (bs_len (by first | omega | (simp; try omega)))) rfl ?_
  have hv28_ : (lookK (holdM (S.take k)) (S.getD k shr0).h).getD (Value.bool false) = .bool false := by rw [lookK_new (hold_new hhn (by omega))]; rfl
  refine s_val_g rfl rfl (r_lookupK Tryz.underlying151 kt37 Tryz.zeroValue4 rfl rfl hmk (hS.get k).1 hv28_) rfl ?_
  refine s_val rfl rfl (r_pick false rfl) rfl ?_
  refine s_val rfl rfl (r_assign) rfl ?_
  refine s_end ?_
  refine go_false rfl ?_
  refine go_seq ?_
  refine go_region 3 rfl rfl ?_
  refine s_val rfl rfl (r_loadN Tryz.isAgg40 Tryz.sizeOf40 rfl (Rd.shrAll (AllS.get hS k) p16.rd p17.rd p18.rd) (scell_len (AllS.get hS k))) rfl ?_
  refine s_do rfl rfl (w_call Tryz.call100 rfl (badValues_spec (S.getD k shr0) _ (AllS.get hS k))) rfl ?_
  rintro _ w21 ⟨rfl, c_w21⟩
  have hs_w21 : w19.heap.size ≤ w21.heap.size := Chg.size c_w21
  replace hmi := hmi.k c_w21
  replace hmk := hmk.k c_w21
  replace p16 := p16.k c_w21
  replace p17 := p17.k c_w21
  replace p18 := p18.k c_w21
  have C_w21 := Chg.pure C_w19 c_w21
  refine s_val rfl rfl (r_assign) rfl ?_
  refine s_end ?_
  refine go_false rfl ?_
  refine go_skip ?_
  refine go_nil (block_normal ?_)
  refine go_drawsM (M := (blk b2)) 7 (.take 0 (.take 1 (.take 2 (.take 3 (.take 4 (.take 5 (.eff 6 (.eff 7 .done)))))))) (by kernel_rfl) (by kernel_rfl) fun w22 c_w22 => ?_
  have hs_w22 : w21.heap.size ≤ w22.heap.size := Chg.size c_w22
  replace hmi := hmi.k c_w22
  replace hmk := hmk.k c_w22
  replace p16 := p16.k c_w22
  replace p17 := p17.k c_w22
  replace p18 := p18.k c_w22
  have C_w22 := Chg.pure C_w21 c_w22
  have hmi_0 := hmi
  have hmk_0 := hmk
  have p16_0 := p16
  have p17_0 := p17
  have p18_0 := p18
  refine s_takeM (M := (blk b2)) rfl rfl (w0 := w22) (fun x_ c_ => r_move) ?_
  refine s_takeM (M := (blk b2)) rfl rfl (w0 := w22) (fun x_ c_ => r_fieldAddr Tryz.runUnderlying40 rfl Tryz.sizeOf3 rfl rfl) ?_
  refine s_takeM (M := (blk b2)) rfl rfl (w0 := w22) (fun x_ c_ => r_load1 Tryz.isAgg3 rfl (p17_0.kB c_ (by omega)).rd) ?_
  refine s_takeM (M := (blk b2)) rfl rfl (w0 := w22) (fun x_ c_ => r_move) ?_
  refine s_takeM (M := (blk b2)) rfl rfl (w0 := w22) (fun x_ c_ => r_fieldAddr Tryz.runUnderlying40 rfl Tryz.sizeOf37 rfl rfl) ?_
  refine s_takeM (M := (blk b2)) rfl rfl (w0 := w22) (fun x_ c_ => r_loadN Tryz.isAgg37 Tryz.sizeOf37 rfl (p16_0.kB c_ (by omega)).rd (bs_len (by first | omega | (simp; try omega)))) ?_
  refine s_fxM rfl rfl (w_mapPut Tryz.underlying150 Tryz.underlying3 rfl rfl hmi) ?_
  rintro _ w23 ⟨q_w23, c_w23⟩
  have hs_w23 : w22.heap.size ≤ w23.heap.size := Chg.size c_w23
  replace hmk := hmk.kB c_w23 (by omega)
  replace p16 := p16.kB c_w23 (by omega)
  replace p17 := p17.kB c_w23 (by omega)
  replace p18 := p18.kB c_w23 (by omega)
  have C_w23 := Chg.newB C_w22 c_w23 (by omega)
  have hmi := q_w23
  replace hmi : MapI w23 b2 (placeM (S.take (k + 1))) := by rw [placeM_succ (by omega), ← putI_new (place_new hxn (by omega))]; exact hmi
  have K_w23 := Chg.into (Chg.refl (blk b2) w22) c_w23 (fun _ _ _ m => m)
  refine ⟨K_w23, ?_⟩
  refine s_do rfl rfl (w_mapPutK Tryz.underlying151 kt37 rfl rfl rfl hmk (hS.get k).1) rfl ?_
  rintro _ w24 ⟨q_w24, c_w24⟩
  have hs_w24 : w23.heap.size ≤ w24.heap.size := Chg.size c_w24
  replace p16 := p16.kB c_w24 (by omega)
  replace p17 := p17.kB c_w24 (by omega)
  replace p18 := p18.kB c_w24 (by omega)
  replace hmi := hmi.kB c_w24 (by omega)
  have C_w24 := Chg.newB C_w23 c_w24 (by omega)
  have hmk := q_w24
  replace hmk : MapK 16 w24 b5 (holdM (S.take (k + 1))) := by rw [holdM_succ (by omega), ← putK_new (hold_new hhn (by omega))]; exact hmk
  refine s_end ?_
  refine go_nil (block_normal ?_)
  refine go_region 2 rfl rfl ?_
  refine s_val rfl rfl (r_addi rfl rfl (by omega)) rfl ?_
  refine s_val rfl rfl (r_move) rfl ?_
  refine s_end ?_
  refine go_nil (loop_normal ⟨⟨(k + 1), by first | omega | (dsimp only; omega), ⟨rfl, by omega, hmi, hmk, by omega, by omega, by omega, C_w24⟩⟩, (by repeat (first | exact same_refl | exact same_over | refine same_upd rfl ?_ | refine same_over2 rfl ?_))⟩)
 ·first | replace h1 := dcF h1 | replace h1 := dcT (nf h1) | skip
  refine go_exit (loop_exit (block_hit ?_))
  refine go_seq ?_
  refine go_region 1 rfl rfl ?_
  refine s_val rfl rfl (r_assign) rfl ?_
  refine s_end ?_
  refine go_ret ?_
  refine ⟨_, .cons rfl (.nil), ?_⟩
  exact ⟨rfl, C_w7⟩
theorem checkShares_spec (S : List Shr) (a : Option Addr) (n c need : Nat) (w : World) (hn : S.length = n) (h0 : 0 < need) (hb : n ≤ 32) (hnd : need ≤ n) (hS : AllS S) (hx0 : ∀ s ∈ S, s.x ≠ 0) (hxn : (S.map (·.x)).Nodup) (hhn : (S.map (·.h)).Nodup) (hsl : SlAt w a (scells S)) :
  Rtn Tryz.prog 50 [i64 (need : Nat), Value.slice a n c].toArray w (fun v w' => v = i64 0 ∧ Kept w w') := by
 refine fn_body (l := [i64 (need : Nat), Value.slice a n c]) 19 [.tmp 4] Tryz.func50 rfl Tryz.ntmps50 (Nat.le_of_ble_eq_true rfl) (by rw [Tryz.results50]) ?_
 refine go_seq ?_
 refine go_region 1 rfl rfl ?_
 refine s_val rfl rfl (r_assign) rfl ?_
 refine s_end ?_
 refine go_seq ?_
 refine go_block ?_
 refine go_seq ?_
 refine go_region 3 rfl rfl ?_
 refine s_val rfl rfl (r_move) rfl ?_
 refine s_do rfl rfl (w_call Tryz.call31 rfl (inside_spec ((need : Nat) : Int) _ _ _ (by omega) (by omega))) rfl ?_
 rintro _ w1 ⟨rfl, c_w1⟩
 have hs_w1 : w.heap.size ≤ w1.heap.size := Chg.size c_w1
 have C_w1 := Chg.pure (Chg.refl no w) c_w1
 refine s_val rfl rfl (r_assign) rfl ?_
 refine s_end ?_
 refine go_false rfl ?_
 refine go_seq ?_
 refine go_region 5 rfl rfl ?_
 refine s_val rfl rfl (r_move) rfl ?_
 refine s_val rfl rfl (r_len Tryz.runUnderlying26 rfl) rfl ?_
 refine s_val rfl rfl (r_move) rfl ?_
 refine s_val rfl rfl (r_lss rfl rfl) rfl ?_
 refine s_val rfl rfl (r_assign) rfl ?_
 refine s_end ?_
 refine go_ifb _ rfl (fun h2 => ?_) (fun h2 => ?_)
 ·first | replace h2 := dcT h2 | replace h2 := dcF (nt h2) | skip
  exfalso
  omega
 ·first | replace h2 := dcF h2 | replace h2 := dcT (nf h2) | skip
  refine go_seq ?_
  refine go_region 4 rfl rfl ?_
  refine s_val rfl rfl (r_move) rfl ?_
  refine s_val rfl rfl (r_len Tryz.runUnderlying26 rfl) rfl ?_
  refine s_val rfl rfl (r_gtr rfl rfl) rfl ?_
  refine s_val rfl rfl (r_assign) rfl ?_
  refine s_end ?_
  refine go_ifb _ rfl (fun h3 => ?_) (fun h3 => ?_)
  ·first | replace h3 := dcT h3 | replace h3 := dcF (nt h3) | skip
   exfalso
   omega
  ·first | replace h3 := dcF h3 | replace h3 := dcT (nf h3) | skip
   refine go_skip ?_
   refine go_nil (block_normal ?_)
   refine go_seq ?_
   refine go_region 3 rfl rfl ?_
   refine s_val rfl rfl (r_move) rfl ?_
   refine s_do rfl rfl (w_call Tryz.call78 rfl (eachFault_spec S _ _ _ _ hn (by omega) hS hx0 hxn hhn (hsl.k C_w1))) rfl ?_
   rintro _ w4 ⟨rfl, c_w4⟩
   have hs_w4 : w1.heap.size ≤ w4.heap.size := Chg.size c_w4
   have C_w4 := Chg.pure C_w1 c_w4
   refine s_val rfl rfl (r_assign) rfl ?_
   refine s_end ?_
   refine go_ret ?_
   refine ⟨_, .cons rfl (.nil), ?_⟩
   exact ⟨rfl, C_w4⟩
end Go.Proofs.YtippcmedgfmgbaaGreat
end
section
open Go Go.Eng Go.Proofs
namespace Go.Proofs.YtippcmedgfmgbaaGreat
theorem mod_spec (n : Int) (z : F) (w : World) (h1 : -1000000 ≤ n) (h2 : n ≤ 1000000) (hz : fI n = z) :
  Rtn Tryz.prog 49 [i64 n].toArray w (fun v w' => v = fi z ∧ Kept w w') := by
 refine fn_body (l := [i64 n]) 7 [.tmp 2] Tryz.func49 rfl Tryz.ntmps49 (Nat.le_of_ble_eq_true rfl) (by rw [Tryz.results49]) ?_
 refine go_seq ?_
 refine go_region 1 rfl rfl ?_
 refine s_val rfl rfl (r_assign) rfl ?_
 refine s_end ?_
 refine go_seq ?_
 refine go_region 5 rfl rfl ?_
 refine s_val rfl rfl (r_move) rfl ?_
 refine s_val rfl rfl (r_rem rfl rfl (by decide)) rfl ?_
 refine s_val rfl rfl (r_addi rfl rfl (by have h1_ := Int.tmod_lt_of_pos n (b := 257) (by decide); have h2_ := Int.lt_tmod_of_pos n (b := 257) (by decide); omega)) rfl ?_
 refine s_val rfl rfl (r_remF (z := z) rfl rfl (by have h2_ := Int.lt_tmod_of_pos n (b := 257) (by decide); omega) (by rw [fI_add, fI_257, fI_tmod, hz]; grind)) rfl ?_
 refine s_val rfl rfl (r_assign) rfl ?_
 refine s_end ?_
 refine go_ret ?_
 refine ⟨_, .cons rfl (.nil), ?_⟩
 exact ⟨rfl, (Chg.refl no w)⟩
theorem over_spec (a b : F) (w : World) :
  Rtn Tryz.prog 101 [fi a, fi b].toArray w (fun v w' => v = fi (a * fInv b) ∧ Kept w w') := by
 refine fn_body (l := [fi a, fi b]) 28 [.tmp 4] Tryz.func101 rfl Tryz.ntmps101 (Nat.le_of_ble_eq_true rfl) (by rw [Tryz.results101]) ?_
 refine go_seq ?_
 refine go_region 1 rfl rfl ?_
 refine s_val rfl rfl (r_assign) rfl ?_
 refine s_end ?_
 refine go_seq ?_
 refine go_region 3 rfl rfl ?_
 refine s_val rfl rfl (r_move) rfl ?_
 refine s_val rfl rfl (r_assign) rfl ?_
 refine s_val rfl rfl (r_assign) rfl ?_
 refine s_end ?_
 refine go_seq ?_
 refine go_seq ?_
 refine go_region 1 rfl rfl ?_
 refine s_val rfl rfl (r_assign) rfl ?_
 refine s_end ?_
 refine go_block ?_
 refine go_loopM (σ := Nat × F × F) [(5, 7), (9, 23)] (fun (x_ : Nat × F × F) e' w' => match x_ with | (n, p, q) => e' 7 = i64 (n : Nat) ∧ e' 5 = fi p ∧ e' 6 = fi q ∧ n ≤ 255 ∧ p * pw q n = fInv b ∧ Chg no w w') (fun (x_ : Nat × F × F) => match x_ with | (n, p, q) => n) (255, 1, b) ?_ ?_
 ·exact ⟨rfl, rfl, rfl, by omega, over_start b, (Chg.refl no w)⟩
 rintro ⟨n, p, q⟩ f2 w1 ⟨e3, e4, e5, hn, hp, C_w1⟩
 have ob_7 : ∃ g_, f2 = upd g_ 7 (i64 (n : Nat)) := ⟨f2, upd_id e3⟩
 obtain ⟨f6, rfl⟩ := ob_7
 have ob_9 : ∃ g_, f6 = upd g_ 5 (fi p) := ⟨f6, upd_id e4⟩
 obtain ⟨f8, rfl⟩ := ob_9
 have ob_11 : ∃ g_, f8 = upd g_ 6 (fi q) := ⟨f8, upd_id e5⟩
 obtain ⟨f10, rfl⟩ := ob_11
 clear e3 e4 e5
 have hs_w1 : w.heap.size ≤ w1.heap.size := Chg.size C_w1
 refine go_seq ?_
 refine go_seq ?_
 refine go_region 2 rfl rfl ?_
 refine s_val rfl rfl (r_move) rfl ?_
 refine s_val rfl rfl (r_gtr rfl rfl) rfl ?_
 refine s_end ?_
 refine go_ifb _ rfl (fun h1 => ?_) (fun h1 => ?_)
 ·first | replace h1 := dcT h1 | replace h1 := dcF (nt h1) | skip
  refine go_skip ?_
  refine go_seq ?_
  refine go_block ?_
  refine go_seq ?_
  refine go_seq ?_
  refine go_region 3 rfl rfl ?_
  refine s_val rfl rfl (r_move) rfl ?_
  refine s_val rfl rfl (r_remi rfl rfl (by omega) (by omega)) rfl ?_
  refine s_val rfl rfl (r_eql rfl rfl) rfl ?_
  refine s_end ?_
  refine go_ifb _ rfl (fun h2 => ?_) (fun h2 => ?_)
  ·first | replace h2 := dcT h2 | replace h2 := dcF (nt h2) | skip
   refine go_region 5 rfl rfl ?_
   refine s_val rfl rfl (r_move) rfl ?_
   refine s_val rfl rfl (r_move) rfl ?_
   have hf_12 := f_lt p
   have hf_13 := f_lt q
   have hm_14 := mul_bd ((p.val : Nat) : Int) ((q.val : Nat) : Int) (by omega) (by omega) (by omega) (by omega)
   refine s_val rfl rfl (r_muli rfl rfl (by omega)) rfl ?_
   refine s_val rfl rfl (r_remF (z := (p * q)) rfl rfl (by omega) (by simp only [fI_add, fI_mul, fI_sub, fI_cast, fI_257, fI_0, fI_1])) rfl ?_
   refine s_val rfl rfl (r_assign) rfl ?_
   refine s_end ?_
   refine go_region 5 rfl rfl ?_
   refine s_val rfl rfl (r_move) rfl ?_
   refine s_val rfl rfl (r_move) rfl ?_
   have hf_15 := f_lt q
   have hf_16 := f_lt q
   have hm_17 := mul_bd ((q.val : Nat) : Int) ((q.val : Nat) : Int) (by omega) (by omega) (by omega) (by omega)
   refine s_val rfl rfl (r_muli rfl rfl (by omega)) rfl ?_
   refine s_val rfl rfl (r_remF (z := (q * q)) rfl rfl (by omega) (by simp only [fI_add, fI_mul, fI_sub, fI_cast, fI_257, fI_0, fI_1])) rfl ?_
   refine s_val rfl rfl (r_assign) rfl ?_
   refine s_end ?_
   refine go_nil (block_normal ?_)
   refine go_region 3 rfl rfl ?_
   refine s_val rfl rfl (r_move) rfl ?_
   refine s_val rfl rfl (r_quoi rfl rfl (by omega) (by omega) (by omega)) rfl ?_
   refine s_val rfl rfl (r_assign) rfl ?_
   refine s_end ?_
   refine go_nil (loop_normal ⟨⟨(n / 2, p * q, q * q), by first | omega | (dsimp only; omega), ⟨rfl, rfl, rfl, by omega, over_odd hp (by omega), C_w1⟩⟩, (by repeat (first | exact same_refl | exact same_over | refine same_upd rfl ?_ | refine same_over2 rfl ?_))⟩)
  ·first | replace h2 := dcF h2 | replace h2 := dcT (nf h2) | skip
   refine go_skip ?_
   refine go_region 5 rfl rfl ?_
   refine s_val rfl rfl (r_move) rfl ?_
   refine s_val rfl rfl (r_move) rfl ?_
   have hf_18 := f_lt q
   have hf_19 := f_lt q
   have hm_20 := mul_bd ((q.val : Nat) : Int) ((q.val : Nat) : Int) (by omega) (by omega) (by omega) (by omega)
   refine s_val rfl rfl (r_muli rfl rfl (by omega)) rfl ?_
   refine s_val rfl rfl (r_remF (z := (q * q)) rfl rfl (by omega) (by simp only [fI_add, fI_mul, fI_sub, fI_cast, fI_257, fI_0, fI_1])) rfl ?_
   refine s_val rfl rfl (r_assign) rfl ?_
   refine s_end ?_
   refine go_nil (block_normal ?_)
   refine go_region 3 rfl rfl ?_
   refine s_val rfl rfl (r_move) rfl ?_
   refine s_val rfl rfl (r_quoi rfl rfl (by omega) (by omega) (by omega)) rfl ?_
   refine s_val rfl rfl (r_assign) rfl ?_
   refine s_end ?_
   refine go_nil (loop_normal ⟨⟨(n / 2, p, q * q), by first | omega | (dsimp only; omega), ⟨rfl, rfl, rfl, by omega, over_even hp (by omega), C_w1⟩⟩, (by repeat (first | exact same_refl | exact same_over | refine same_upd rfl ?_ | refine same_over2 rfl ?_))⟩)
 ·first | replace h1 := dcF h1 | replace h1 := dcT (nf h1) | skip
  have ob_21 : n = 0 := by omega
  obtain rfl := ob_21
  refine go_exit (loop_exit (block_hit ?_))
  refine go_seq ?_
  refine go_region 5 rfl rfl ?_
  refine s_val rfl rfl (r_move) rfl ?_
  refine s_val rfl rfl (r_move) rfl ?_
  have hf_22 := f_lt a
  have hf_23 := f_lt p
  have hm_24 := mul_bd ((a.val : Nat) : Int) ((p.val : Nat) : Int) (by omega) (by omega) (by omega) (by omega)
  refine s_val rfl rfl (r_muli rfl rfl (by omega)) rfl ?_
  refine s_val rfl rfl (r_remF (z := (a * p)) rfl rfl (by omega) (by simp only [fI_add, fI_mul, fI_sub, fI_cast, fI_257, fI_0, fI_1])) rfl ?_
  refine s_val rfl rfl (r_assign) rfl ?_
  refine s_end ?_
  refine go_ret ?_
  refine ⟨_, .cons rfl (.nil), ?_⟩
  exact ⟨congrArg (fun z => fi (a * z)) (over_end hp), C_w1⟩
theorem value_spec (L : List F) (a : Option Addr) (n c : Nat) (x : F) (w : World) (hn : L.length = n) (hb : n ≤ 4611686018427387904) (hsl : SlAt w a (fs L)) :
  Rtn Tryz.prog 34 [Value.slice a n c, fi x].toArray w (fun v w' => v = fi (ev L x) ∧ Kept w w') := by
 refine fn_body (l := [Value.slice a n c, fi x]) 24 [.tmp 4] Tryz.func34 rfl Tryz.ntmps34 (Nat.le_of_ble_eq_true rfl) (by rw [Tryz.results34]) ?_
 refine go_seq ?_
 refine go_region 1 rfl rfl ?_
 refine s_val rfl rfl (r_assign) rfl ?_
 refine s_end ?_
 refine go_seq ?_
 refine go_region 1 rfl rfl ?_
 refine s_val rfl rfl (r_assign) rfl ?_
 refine s_end ?_
 refine go_seq ?_
 refine go_seq ?_
 refine go_region 4 rfl rfl ?_
 refine s_val rfl rfl (r_move) rfl ?_
 refine s_val rfl rfl (r_len Tryz.runUnderlying63 rfl) rfl ?_
 refine s_val rfl rfl (r_subi rfl rfl (by omega)) rfl ?_
 refine s_val rfl rfl (r_assign) rfl ?_
 refine s_end ?_
 refine go_block ?_
 refine go_loopM (σ := Nat × F) [(5, 6), (10, 22)] (fun (x_ : Nat × F) e' w' => match x_ with | (k, q) => e' 6 = i64 ((k : Nat) - 1 : Int) ∧ e' 5 = fi q ∧ k ≤ n ∧ q = ev (L.drop k) x ∧ Chg no w w') (fun (x_ : Nat × F) => match x_ with | (k, q) => k) (n, 0) ?_ ?_
 ·exact ⟨rfl, rfl, by omega, by rw [List.drop_eq_nil_of_le (by omega)]; rfl, (Chg.refl no w)⟩
 rintro ⟨k, q⟩ f2 w1 ⟨e3, e4, hk, hq, C_w1⟩
 have ob_6 : ∃ g_, f2 = upd g_ 6 (i64 ((k : Nat) - 1 : Int)) := ⟨f2, upd_id e3⟩
 obtain ⟨f5, rfl⟩ := ob_6
 have ob_8 : ∃ g_, f5 = upd g_ 5 (fi q) := ⟨f5, upd_id e4⟩
 obtain ⟨f7, rfl⟩ := ob_8
 clear e3 e4
 have hs_w1 : w.heap.size ≤ w1.heap.size := Chg.size C_w1
 refine go_seq ?_
 refine go_seq ?_
 refine go_region 2 rfl rfl ?_
 refine s_val rfl rfl (r_move) rfl ?_
 refine s_val rfl rfl (r_geq rfl rfl) rfl ?_
 refine s_end ?_
 refine go_ifb _ rfl (fun h1 => ?_) (fun h1 => ?_)
 ·first | replace h1 := dcT h1 | replace h1 := dcF (nt h1) | skip
  have hk0 : 0 < k := by omega
  refine go_skip ?_
  refine go_seq ?_
  refine go_block ?_
  refine go_region 10 rfl rfl ?_
  refine s_val rfl rfl (r_move) rfl ?_
  refine s_val rfl rfl (r_move) rfl ?_
  have hf_9 := f_lt q
  have hf_10 := f_lt x
  have hm_11 := mul_bd ((q.val : Nat) : Int) ((x.val : Nat) : Int) (by omega) (by omega) (by omega) (by omega)
  refine s_val rfl rfl (r_muli rfl rfl (by omega)) rfl ?_
  refine s_val rfl rfl (r_move) rfl ?_
  refine s_val rfl rfl (r_move) rfl ?_
  refine s_val rfl rfl (r_indexSl (k := (k - 1)) Tryz.runUnderlying63 Tryz.sizeOf3 rfl (hsl.k C_w1) (fs_ne (by first | omega | (simp; try omega))) rfl (by first | rfl | omega) (by omega)) rfl ?_
  refine s_val rfl rfl (r_loadSl1 Tryz.isAgg3 rfl (hsl.k C_w1) (fs_get (by first | omega | (simp; try omega)))) rfl ?_
  have hf_12 := f_lt (L.getD (k - 1) 0)
  refine s_val rfl rfl (r_addi rfl rfl (by omega)) rfl ?_
  refine s_val rfl rfl (r_remF (z := ((q * x) + (L.getD (k - 1) 0))) rfl rfl (by omega) (by simp only [fI_add, fI_mul, fI_sub, fI_cast, fI_257, fI_0, fI_1])) rfl ?_
  refine s_val rfl rfl (r_assign) rfl ?_
  refine s_end ?_
  refine go_nil (block_normal ?_)
  refine go_region 3 rfl rfl ?_
  refine s_val rfl rfl (r_move) rfl ?_
  refine s_val rfl rfl (r_subi rfl rfl (by omega)) rfl ?_
  refine s_val rfl rfl (r_assign) rfl ?_
  refine s_end ?_
  refine go_nil (loop_normal ⟨⟨(k - 1, ((q * x) + (L.getD (k - 1) 0))), by first | omega | (dsimp only; omega), ⟨congrArg i64 (by omega), rfl, by omega, by rw [hq]; exact (ev_drop L x hk0 (by omega)).symm, C_w1⟩⟩, (by repeat (first | exact same_refl | exact same_over | refine same_upd rfl ?_ | refine same_over2 rfl ?_))⟩)
 ·first | replace h1 := dcF h1 | replace h1 := dcT (nf h1) | skip
  have ob_13 : k = 0 := by omega
  obtain rfl := ob_13
  rw [List.drop_zero] at hq
  subst hq
  refine go_exit (loop_exit (block_hit ?_))
  refine go_seq ?_
  refine go_region 2 rfl rfl ?_
  refine s_val rfl rfl (r_move) rfl ?_
  refine s_val rfl rfl (r_assign) rfl ?_
  refine s_end ?_
  refine go_ret ?_
  refine ⟨_, .cons rfl (.nil), ?_⟩
  exact ⟨rfl, C_w1⟩
theorem valueOf_spec (L : List F) (a : Option Addr) (n c : Nat) (x : F) (w : World) (hn : L.length = n) (hb : n ≤ 4611686018427387904) (hsl : SlAt w a (fs L)) :
  Rtn Tryz.prog 25 [Value.slice a n c, fi x].toArray w (fun v w' => v = fi (ev L x) ∧ Kept w w') := by
 refine fn_body (l := [Value.slice a n c, fi x]) 27 [.tmp 4] Tryz.func25 rfl Tryz.ntmps25 (Nat.le_of_ble_eq_true rfl) (by rw [Tryz.results25]) ?_
 refine go_seq ?_
 refine go_region 1 rfl rfl ?_
 refine s_val rfl rfl (r_assign) rfl ?_
 refine s_end ?_
 refine go_seq ?_
 refine go_region 2 rfl rfl ?_
 refine s_val rfl rfl (r_assign) rfl ?_
 refine s_val rfl rfl (r_assign) rfl ?_
 refine s_end ?_
 refine go_seq ?_
 refine go_seq ?_
 refine go_region 3 rfl rfl ?_
 refine s_val rfl rfl (r_move) rfl ?_
 refine s_val rfl rfl (r_len Tryz.runUnderlying63 rfl) rfl ?_
 refine s_val rfl rfl (r_move) rfl ?_
 refine s_end ?_
 refine go_block ?_
 refine go_loopM (σ := Nat × F × F) [(5, 6), (8, 8), (11, 25)] (fun (x_ : Nat × F × F) e' w' => match x_ with | (k, q, r) => e' 11 = i64 (k : Nat) ∧ e' 5 = fi q ∧ e' 6 = fi r ∧ k ≤ n ∧ q = ev (L.take k) x ∧ r = pw x k ∧ Chg no w w') (fun (x_ : Nat × F × F) => match x_ with | (k, q, r) => n - k) (0, 0, 1) ?_ ?_
 ·exact ⟨rfl, rfl, rfl, by omega, rfl, rfl, (Chg.refl no w)⟩
 rintro ⟨k, q, r⟩ f2 w1 ⟨e3, e4, e5, hk, hq, hr, C_w1⟩
 have ob_7 : ∃ g_, f2 = upd g_ 11 (i64 (k : Nat)) := ⟨f2, upd_id e3⟩
 obtain ⟨f6, rfl⟩ := ob_7
 have ob_9 : ∃ g_, f6 = upd g_ 5 (fi q) := ⟨f6, upd_id e4⟩
 obtain ⟨f8, rfl⟩ := ob_9
 have ob_11 : ∃ g_, f8 = upd g_ 6 (fi r) := ⟨f8, upd_id e5⟩
 obtain ⟨f10, rfl⟩ := ob_11
 clear e3 e4 e5
 have hs_w1 : w.heap.size ≤ w1.heap.size := Chg.size C_w1
 refine go_seq ?_
 refine go_region 1 rfl rfl ?_
 refine s_val rfl rfl (r_lss rfl rfl) rfl ?_
 refine s_end ?_
 refine go_seq ?_
 refine go_ifb _ rfl (fun h1 => ?_) (fun h1 => ?_)
 ·first | replace h1 := dcT h1 | replace h1 := dcF (nt h1) | skip
  refine go_skip ?_
  refine go_seq ?_
  refine go_block ?_
  refine go_seq ?_
  refine go_region 3 rfl rfl ?_
  refine s_val rfl rfl (r_indexSl (k := k) Tryz.runUnderlying63 Tryz.sizeOf3 rfl (hsl.k C_w1) (fs_ne (by first | omega | (simp; try omega))) rfl (by first | rfl | omega) (by omega)) rfl ?_
  refine s_val rfl rfl (r_loadSl1 Tryz.isAgg3 rfl (hsl.k C_w1) (fs_get (by first | omega | (simp; try omega)))) rfl ?_
  refine s_val rfl rfl (r_assign) rfl ?_
  refine s_end ?_
  refine go_seq ?_
  refine go_region 7 rfl rfl ?_
  refine s_val rfl rfl (r_move) rfl ?_
  refine s_val rfl rfl (r_move) rfl ?_
  refine s_val rfl rfl (r_move) rfl ?_
  have hf_12 := f_lt (L.getD k 0)
  have hf_13 := f_lt r
  have hm_14 := mul_bd (((L.getD k 0).val : Nat) : Int) ((r.val : Nat) : Int) (by omega) (by omega) (by omega) (by omega)
  refine s_val rfl rfl (r_muli rfl rfl (by omega)) rfl ?_
  have hf_15 := f_lt q
  refine s_val rfl rfl (r_addi rfl rfl (by omega)) rfl ?_
  refine s_do rfl rfl (w_call Tryz.call49 rfl (mod_spec _ (q + ((L.getD k 0) * r)) _ (by omega) (by omega) (by simp only [fI_add, fI_mul, fI_sub, fI_cast, fI_257, fI_0, fI_1]))) rfl ?_
  rintro _ w16 ⟨rfl, c_w16⟩
  have hs_w16 : w1.heap.size ≤ w16.heap.size := Chg.size c_w16
  have C_w16 := Chg.pure C_w1 c_w16
  refine s_val rfl rfl (r_assign) rfl ?_
  refine s_end ?_
  refine go_region 5 rfl rfl ?_
  refine s_val rfl rfl (r_move) rfl ?_
  refine s_val rfl rfl (r_move) rfl ?_
  have hf_17 := f_lt r
  have hf_18 := f_lt x
  have hm_19 := mul_bd ((r.val : Nat) : Int) ((x.val : Nat) : Int) (by omega) (by omega) (by omega) (by omega)
  refine s_val rfl rfl (r_muli rfl rfl (by omega)) rfl ?_
  refine s_do rfl rfl (w_call Tryz.call49 rfl (mod_spec _ (r * x) _ (by omega) (by omega) (by simp only [fI_add, fI_mul, fI_sub, fI_cast, fI_257, fI_0, fI_1]))) rfl ?_
  rintro _ w20 ⟨rfl, c_w20⟩
  have hs_w20 : w16.heap.size ≤ w20.heap.size := Chg.size c_w20
  have C_w20 := Chg.pure C_w16 c_w20
  refine s_val rfl rfl (r_assign) rfl ?_
  refine s_end ?_
  refine go_nil (block_normal ?_)
  refine go_region 2 rfl rfl ?_
  refine s_val rfl rfl (r_addi rfl rfl (by omega)) rfl ?_
  refine s_val rfl rfl (r_move) rfl ?_
  refine s_end ?_
  refine go_nil (loop_normal ⟨⟨(k + 1, (q + ((L.getD k 0) * r)), (r * x)), by first | omega | (dsimp only; omega), ⟨rfl, rfl, rfl, by omega, by rw [hq, hr]; exact (ev_take L x (by omega)).symm, by rw [hr]; rfl, C_w20⟩⟩, (by repeat (first | exact same_refl | exact same_over | refine same_upd rfl ?_ | refine same_over2 rfl ?_))⟩)
 ·first | replace h1 := dcF h1 | replace h1 := dcT (nf h1) | skip
  have ob_21 : k = n := by omega
  obtain rfl := ob_21
  rw [List.take_of_length_le (by omega)] at hq
  subst hq
  refine go_exit (loop_exit (block_hit ?_))
  refine go_seq ?_
  refine go_region 2 rfl rfl ?_
  refine s_val rfl rfl (r_move) rfl ?_
  refine s_val rfl rfl (r_assign) rfl ?_
  refine s_end ?_
  refine go_ret ?_
  refine ⟨_, .cons rfl (.nil), ?_⟩
  exact ⟨rfl, C_w1⟩
theorem overOf_spec (a b : F) (w : World) (hb : b ≠ 0) :
  Rtn Tryz.prog 82 [fi a, fi b].toArray w (fun v w' => v = fi (a * fInv b) ∧ Kept w w') := by
 refine fn_body (l := [fi a, fi b]) 17 [.tmp 4] Tryz.func82 rfl Tryz.ntmps82 (Nat.le_of_ble_eq_true rfl) (by rw [Tryz.results82]) ?_
 refine go_seq ?_
 refine go_region 1 rfl rfl ?_
 refine s_val rfl rfl (r_assign) rfl ?_
 refine s_end ?_
 refine go_seq ?_
 refine go_seq ?_
 refine go_region 1 rfl rfl ?_
 refine s_val rfl rfl (r_move) rfl ?_
 refine s_end ?_
 refine go_block ?_
 refine go_loopM (σ := Nat) [(4, 16)] (fun (k : Nat) e' w' => e' 6 = i64 (k : Nat) ∧ k ≤ 257 ∧ (∀ j : Nat, j < k → fI (j : Int) * b ≠ a) ∧ Chg no w w') (fun (k : Nat) => 257 - k) 0 ?_ ?_
 ·exact ⟨rfl, by omega, fun j hj => absurd hj (Nat.not_lt_zero j), (Chg.refl no w)⟩
 rintro k f2 w1 ⟨e3, hk, hz, C_w1⟩
 have ob_5 : ∃ g_, f2 = upd g_ 6 (i64 (k : Nat)) := ⟨f2, upd_id e3⟩
 obtain ⟨f4, rfl⟩ := ob_5
 clear e3
 have hs_w1 : w.heap.size ≤ w1.heap.size := Chg.size C_w1
 refine go_seq ?_
 refine go_region 1 rfl rfl ?_
 refine s_val rfl rfl (r_lss rfl rfl) rfl ?_
 refine s_end ?_
 refine go_seq ?_
 refine go_ifb _ rfl (fun h6 => ?_) (fun h6 => ?_)
 ·first | replace h6 := dcT h6 | replace h6 := dcF (nt h6) | skip
  refine go_skip ?_
  refine go_seq ?_
  refine go_block ?_
  refine go_seq ?_
  refine go_region 2 rfl rfl ?_
  refine s_val rfl rfl (r_move) rfl ?_
  refine s_val rfl rfl (r_assign) rfl ?_
  refine s_end ?_
  refine go_seq ?_
  refine go_region 6 rfl rfl ?_
  refine s_val rfl rfl (r_move) rfl ?_
  refine s_val rfl rfl (r_move) rfl ?_
  have hf_7 := f_lt b
  have hm_8 := mul_bd ((k : Nat) : Int) ((b.val : Nat) : Int) (by omega) (by omega) (by omega) (by omega)
  refine s_val rfl rfl (r_muli rfl rfl (by omega)) rfl ?_
  refine s_do rfl rfl (w_call Tryz.call49 rfl (mod_spec _ (fI ((k : Nat) : Int) * b) _ (by omega) (by omega) (by rw [fI_mul, fI_cast]))) rfl ?_
  rintro _ w9 ⟨rfl, c_w9⟩
  have hs_w9 : w1.heap.size ≤ w9.heap.size := Chg.size c_w9
  have C_w9 := Chg.pure C_w1 c_w9
  refine s_val rfl rfl (r_move) rfl ?_
  refine s_val rfl rfl (r_eql rfl rfl) rfl ?_
  refine s_end ?_
  refine go_ifb _ rfl (fun h2 => ?_) (fun h2 => ?_)
  ·first | replace h2 := dcT h2 | replace h2 := dcF (nt h2) | skip
   have he := overOf_hit hb h2 (by omega)
   rw [he]
   refine go_seq ?_
   refine go_region 2 rfl rfl ?_
   refine s_val rfl rfl (r_move) rfl ?_
   refine s_val rfl rfl (r_assign) rfl ?_
   refine s_end ?_
   refine go_ret (block_ret (loop_ret (block_ret ?_)))
   refine ⟨_, .cons rfl (.nil), ?_⟩
   exact ⟨rfl, C_w9⟩
  ·first | replace h2 := dcF h2 | replace h2 := dcT (nf h2) | skip
   have hne : fI ((k : Nat) : Int) * b ≠ a := fun e_ => h2 (by rw [e_])
   refine go_skip ?_
   refine go_nil (block_normal ?_)
   refine go_region 2 rfl rfl ?_
   refine s_val rfl rfl (r_addi rfl rfl (by omega)) rfl ?_
   refine s_val rfl rfl (r_move) rfl ?_
   refine s_end ?_
   refine go_nil (loop_normal ⟨⟨(k + 1), by first | omega | (dsimp only; omega), ⟨rfl, by omega, overOf_step hz hne, C_w9⟩⟩, (by repeat (first | exact same_refl | exact same_over | refine same_upd rfl ?_ | refine same_over2 rfl ?_))⟩)
 ·first | replace h6 := dcF h6 | replace h6 := dcT (nf h6) | skip
  exfalso
  exact overOf_none hb hz (by omega)
set_option maxHeartbeats 800000 in
theorem at_spec (xs ys : List F) (ax ay : Option Addr) (n cx cy : Nat) (q : F) (w : World) (hx : xs.length = n) (hy : ys.length = n) (hb : n ≤ 1000000) (hnd : xs.Nodup) (hsx : SlAt w ax (fs xs)) (hsy : SlAt w ay (fs ys)) :
  Rtn Tryz.prog 56 [Value.slice ax n cx, Value.slice ay n cy, fi q].toArray w (fun v w' => v = fi (lagTo xs ys q xs.length) ∧ Kept w w') := by
 refine fn_body (l := [Value.slice ax n cx, Value.slice ay n cy, fi q]) 60 [.tmp 6] Tryz.func56 rfl Tryz.ntmps56 (Nat.le_of_ble_eq_true rfl) (by rw [Tryz.results56]) ?_
 refine go_seq ?_
 refine go_region 1 rfl rfl ?_
 refine s_val rfl rfl (r_assign) rfl ?_
 refine s_end ?_
 refine go_seq ?_
 refine go_region 1 rfl rfl ?_
 refine s_val rfl rfl (r_assign) rfl ?_
 refine s_end ?_
 refine go_seq ?_
 refine go_seq ?_
 refine go_region 3 rfl rfl ?_
 refine s_val rfl rfl (r_move) rfl ?_
 refine s_val rfl rfl (r_len Tryz.runUnderlying63 rfl) rfl ?_
 refine s_val rfl rfl (r_move) rfl ?_
 refine s_end ?_
 refine go_block ?_
 refine go_loopM (σ := Nat × F) [(7, 11), (14, 58)] (fun (x_ : Nat × F) e' w' => match x_ with | (i, r) => e' 14 = i64 (i : Nat) ∧ e' 7 = fi r ∧ i ≤ n ∧ r = lagTo xs ys q i ∧ Chg no w w') (fun (x_ : Nat × F) => match x_ with | (i, r) => n - i) (0, 0) ?_ ?_
 ·exact ⟨rfl, rfl, by omega, rfl, (Chg.refl no w)⟩
 rintro ⟨i, r⟩ f2 w1 ⟨e3, e4, hi, hr, C_w1⟩
 have ob_6 : ∃ g_, f2 = upd g_ 14 (i64 (i : Nat)) := ⟨f2, upd_id e3⟩
 obtain ⟨f5, rfl⟩ := ob_6
 have ob_8 : ∃ g_, f5 = upd g_ 7 (fi r) := ⟨f5, upd_id e4⟩
 obtain ⟨f7, rfl⟩ := ob_8
 clear e3 e4
 have hs_w1 : w.heap.size ≤ w1.heap.size := Chg.size C_w1
 refine go_seq ?_
 refine go_region 1 rfl rfl ?_
 refine s_val rfl rfl (r_lss rfl rfl) rfl ?_
 refine s_end ?_
 refine go_seq ?_
 refine go_ifb _ rfl (fun h1 => ?_) (fun h1 => ?_)
 ·first | replace h1 := dcT h1 | replace h1 := dcF (nt h1) | skip
  refine go_skip ?_
  refine go_seq ?_
  refine go_block ?_
  refine go_seq ?_
  refine go_region 2 rfl rfl ?_
  refine s_val rfl rfl (r_move) rfl ?_
  refine s_val rfl rfl (r_assign) rfl ?_
  refine s_end ?_
  refine go_seq ?_
  refine go_region 6 rfl rfl ?_
  refine s_val rfl rfl (r_move) rfl ?_
  refine s_val rfl rfl (r_move) rfl ?_
  refine s_val rfl rfl (r_indexSl (k := i) Tryz.runUnderlying63 Tryz.sizeOf3 rfl (hsy.k C_w1) (fs_ne (by first | omega | (simp; try omega))) rfl (by first | rfl | omega) (by omega)) rfl ?_
  refine s_val rfl rfl (r_loadSl1 Tryz.isAgg3 rfl (hsy.k C_w1) (fs_get (by first | omega | (simp; try omega)))) rfl ?_
  refine s_val rfl rfl (r_assign) rfl ?_
  refine s_val rfl rfl (r_assign) rfl ?_
  refine s_end ?_
  refine go_seq ?_
  refine go_seq ?_
  refine go_region 3 rfl rfl ?_
  refine s_val rfl rfl (r_move) rfl ?_
  refine s_val rfl rfl (r_len Tryz.runUnderlying63 rfl) rfl ?_
  refine s_val rfl rfl (r_move) rfl ?_
  refine s_end ?_
  refine go_block ?_
  refine go_loopM (σ := Nat × F × F) [(9, 11), (23, 50)] (fun (x_ : Nat × F × F) e' w' => match x_ with | (j, u, d) => e' 23 = i64 (j : Nat) ∧ e' 9 = fi u ∧ e' 10 = fi d ∧ j ≤ n ∧ u = ys.getD i 0 * prodTo xs i q j ∧ d = prodTo xs i (xs.getD i 0) j ∧ Chg no w w') (fun (x_ : Nat × F × F) => match x_ with | (j, u, d) => n - j) (0, ys.getD i 0, 1) ?_ ?_
  ·exact ⟨rfl, rfl, rfl, by omega, by rw [prodTo]; grind, rfl, C_w1⟩
  rintro ⟨j, u, d⟩ f10 w9 ⟨e11, e12, e13, hj, hu, hd, C_w9⟩
  have ob_15 : ∃ g_, f10 = upd g_ 23 (i64 (j : Nat)) := ⟨f10, upd_id e11⟩
  obtain ⟨f14, rfl⟩ := ob_15
  have ob_17 : ∃ g_, f14 = upd g_ 9 (fi u) := ⟨f14, upd_id e12⟩
  obtain ⟨f16, rfl⟩ := ob_17
  have ob_19 : ∃ g_, f16 = upd g_ 10 (fi d) := ⟨f16, upd_id e13⟩
  obtain ⟨f18, rfl⟩ := ob_19
  clear e11 e12 e13
  have hs_w9 : w.heap.size ≤ w9.heap.size := Chg.size C_w9
  refine go_seq ?_
  refine go_region 1 rfl rfl ?_
  refine s_val rfl rfl (r_lss rfl rfl) rfl ?_
  refine s_end ?_
  refine go_seq ?_
  refine go_ifb _ rfl (fun h2 => ?_) (fun h2 => ?_)
  ·first | replace h2 := dcT h2 | replace h2 := dcF (nt h2) | skip
   refine go_skip ?_
   refine go_seq ?_
   refine go_block ?_
   refine go_seq ?_
   refine go_region 2 rfl rfl ?_
   refine s_val rfl rfl (r_move) rfl ?_
   refine s_val rfl rfl (r_assign) rfl ?_
   refine s_end ?_
   refine go_seq ?_
   refine go_region 3 rfl rfl ?_
   refine s_val rfl rfl (r_move) rfl ?_
   refine s_val rfl rfl (r_move) rfl ?_
   refine s_val rfl rfl (r_neq rfl rfl) rfl ?_
   refine s_end ?_
   refine go_ifb _ rfl (fun h3 => ?_) (fun h3 => ?_)
   ·first | replace h3 := dcT h3 | replace h3 := dcF (nt h3) | skip
    replace h3 : ¬ j = i := by omega
    refine go_seq ?_
    refine go_region 10 rfl rfl ?_
    refine s_val rfl rfl (r_move) rfl ?_
    refine s_val rfl rfl (r_move) rfl ?_
    refine s_val rfl rfl (r_move) rfl ?_
    refine s_val rfl rfl (r_move) rfl ?_
    refine s_val rfl rfl (r_indexSl (k := j) Tryz.runUnderlying63 Tryz.sizeOf3 rfl (hsx.k C_w9) (fs_ne (by first | omega | (simp; try omega))) rfl (by first | rfl | omega) (by omega)) rfl ?_
    refine s_val rfl rfl (r_loadSl1 Tryz.isAgg3 rfl (hsx.k C_w9) (fs_get (by first | omega | (simp; try omega)))) rfl ?_
    have hf_20 := f_lt q
    have hf_21 := f_lt (xs.getD j 0)
    refine s_val rfl rfl (r_subi rfl rfl (by omega)) rfl ?_
    have hf_22 := f_lt u
    have hm_23 := mul_bd ((u.val : Nat) : Int) (((q.val : Nat) : Int) - (((xs.getD j 0).val : Nat) : Int)) (by omega) (by omega) (by omega) (by omega)
    refine s_val rfl rfl (r_muli rfl rfl (by omega)) rfl ?_
    refine s_do rfl rfl (w_call Tryz.call49 rfl (mod_spec _ (u * (q - (xs.getD j 0))) _ (by omega) (by omega) (by simp only [fI_add, fI_mul, fI_sub, fI_cast, fI_257, fI_0, fI_1]))) rfl ?_
    rintro _ w24 ⟨rfl, c_w24⟩
    have hs_w24 : w9.heap.size ≤ w24.heap.size := Chg.size c_w24
    have C_w24 := Chg.pure C_w9 c_w24
    refine s_val rfl rfl (r_assign) rfl ?_
    refine s_end ?_
    refine go_drawsE 10 (.take 0 (.take 1 (.take 2 (.take 3 (.take 4 (.take 5 (.take 6 (.take 7 (.take 8 (.take 9 (.eff 10 (.eff 11 (.eff 12 .done))))))))))))) (by kernel_rfl) (by kernel_rfl) fun w25 c_w25 => ?_
    have hs_w25 : w24.heap.size ≤ w25.heap.size := Chg.size c_w25
    have C_w25 := Chg.pure C_w24 c_w25
    refine s_takeE rfl rfl (r_move) ?_
    refine s_takeE rfl rfl (r_move) ?_
    refine s_takeE rfl rfl (r_move) ?_
    refine s_takeE rfl rfl (r_indexSl (k := i) Tryz.runUnderlying63 Tryz.sizeOf3 rfl (hsx.k C_w25) (fs_ne (by first | omega | (simp; try omega))) rfl (by first | rfl | omega) (by omega)) ?_
    refine s_takeE rfl rfl (r_loadSl1 Tryz.isAgg3 rfl (hsx.k C_w25) (fs_get (by first | omega | (simp; try omega)))) ?_
    refine s_takeE rfl rfl (r_move) ?_
    refine s_takeE rfl rfl (r_move) ?_
    refine s_takeE rfl rfl (r_indexSl (k := j) Tryz.runUnderlying63 Tryz.sizeOf3 rfl (hsx.k C_w25) (fs_ne (by first | omega | (simp; try omega))) rfl (by first | rfl | omega) (by omega)) ?_
    refine s_takeE rfl rfl (r_loadSl1 Tryz.isAgg3 rfl (hsx.k C_w25) (fs_get (by first | omega | (simp; try omega)))) ?_
    have hf_26 := f_lt (xs.getD i 0)
    have hf_27 := f_lt (xs.getD j 0)
    refine s_takeE rfl rfl (r_subi rfl rfl (by omega)) ?_
    have hf_28 := f_lt d
    have hm_29 := mul_bd ((d.val : Nat) : Int) ((((xs.getD i 0).val : Nat) : Int) - (((xs.getD j 0).val : Nat) : Int)) (by omega) (by omega) (by omega) (by omega)
    refine s_val rfl rfl (r_muli rfl rfl (by omega)) rfl ?_
    refine s_do rfl rfl (w_call Tryz.call49 rfl (mod_spec _ (d * ((xs.getD i 0) - (xs.getD j 0))) _ (by omega) (by omega) (by simp only [fI_add, fI_mul, fI_sub, fI_cast, fI_257, fI_0, fI_1]))) rfl ?_
    rintro _ w30 ⟨rfl, c_w30⟩
    have hs_w30 : w25.heap.size ≤ w30.heap.size := Chg.size c_w30
    have C_w30 := Chg.pure C_w25 c_w30
    refine s_val rfl rfl (r_assign) rfl ?_
    refine s_end ?_
    refine go_nil (block_normal ?_)
    refine go_region 2 rfl rfl ?_
    refine s_val rfl rfl (r_addi rfl rfl (by omega)) rfl ?_
    refine s_val rfl rfl (r_move) rfl ?_
    refine s_end ?_
    refine go_nil (loop_normal ⟨⟨(j + 1, (u * (q - (xs.getD j 0))), (d * ((xs.getD i 0) - (xs.getD j 0)))), by first | omega | (dsimp only; omega), ⟨rfl, rfl, rfl, by omega, by rw [hu, prodTo, if_neg h3]; grind, by rw [hd, prodTo, if_neg h3], C_w30⟩⟩, (by repeat (first | exact same_refl | exact same_over | refine same_upd rfl ?_ | refine same_over2 rfl ?_))⟩)
   ·first | replace h3 := dcF h3 | replace h3 := dcT (nf h3) | skip
    replace h3 : j = i := by omega
    refine go_skip ?_
    refine go_nil (block_normal ?_)
    refine go_region 2 rfl rfl ?_
    refine s_val rfl rfl (r_addi rfl rfl (by omega)) rfl ?_
    refine s_val rfl rfl (r_move) rfl ?_
    refine s_end ?_
    refine go_nil (loop_normal ⟨⟨(j + 1, u, d), by first | omega | (dsimp only; omega), ⟨rfl, rfl, rfl, by omega, by rw [hu, prodTo, if_pos h3], by rw [hd, prodTo, if_pos h3], C_w9⟩⟩, (by repeat (first | exact same_refl | exact same_over | refine same_upd rfl ?_ | refine same_over2 rfl ?_))⟩)
  ·first | replace h2 := dcF h2 | replace h2 := dcT (nf h2) | skip
   have ob_31 : j = n := by omega
   obtain rfl := ob_31
   refine go_exit (loop_exit (block_hit ?_))
   refine go_region 8 rfl rfl ?_
   refine s_val rfl rfl (r_move) rfl ?_
   refine s_val rfl rfl (r_move) rfl ?_
   have hf_33 := f_lt u
   refine s_do rfl rfl (w_call Tryz.call49 rfl (mod_spec _ u _ (by omega) (by omega) (by simp only [fI_add, fI_mul, fI_sub, fI_cast, fI_257, fI_0, fI_1]))) rfl ?_
   rintro _ w32 ⟨rfl, c_w32⟩
   have hs_w32 : w9.heap.size ≤ w32.heap.size := Chg.size c_w32
   have C_w32 := Chg.pure C_w9 c_w32
   refine s_val rfl rfl (r_move) rfl ?_
   refine s_do rfl rfl (w_call Tryz.call82 rfl (overOf_spec u d _ (by rw [hd, ← hx]; exact prod_miss hnd (by omega) _ (Nat.le_refl _)))) rfl ?_
   rintro _ w34 ⟨rfl, c_w34⟩
   have hs_w34 : w32.heap.size ≤ w34.heap.size := Chg.size c_w34
   have C_w34 := Chg.pure C_w32 c_w34
   have hf_35 := f_lt r
   have hf_36 := f_lt (u * fInv d)
   refine s_val rfl rfl (r_addi rfl rfl (by omega)) rfl ?_
   refine s_do rfl rfl (w_call Tryz.call49 rfl (mod_spec _ (r + (u * fInv d)) _ (by omega) (by omega) (by simp only [fI_add, fI_mul, fI_sub, fI_cast, fI_257, fI_0, fI_1]))) rfl ?_
   rintro _ w37 ⟨rfl, c_w37⟩
   have hs_w37 : w34.heap.size ≤ w37.heap.size := Chg.size c_w37
   have C_w37 := Chg.pure C_w34 c_w37
   refine s_val rfl rfl (r_assign) rfl ?_
   refine s_end ?_
   refine go_nil (block_normal ?_)
   refine go_region 2 rfl rfl ?_
   refine s_val rfl rfl (r_addi rfl rfl (by omega)) rfl ?_
   refine s_val rfl rfl (r_move) rfl ?_
   refine s_end ?_
   refine go_nil (loop_normal ⟨⟨(i + 1, (r + (u * fInv d))), by first | omega | (dsimp only; omega), ⟨rfl, rfl, by omega, by rw [lagTo, hr, hu, hd, hx], C_w37⟩⟩, (by repeat (first | exact same_refl | exact same_over | refine same_upd rfl ?_ | refine same_over2 rfl ?_))⟩)
 ·first | replace h1 := dcF h1 | replace h1 := dcT (nf h1) | skip
  have ob_38 : i = n := by omega
  obtain rfl := ob_38
  rw [hr, ← hx]
  refine go_exit (loop_exit (block_hit ?_))
  refine go_seq ?_
  refine go_region 2 rfl rfl ?_
  refine s_val rfl rfl (r_move) rfl ?_
  refine s_val rfl rfl (r_assign) rfl ?_
  refine s_end ?_
  refine go_ret ?_
  refine ⟨_, .cons rfl (.nil), ?_⟩
  exact ⟨rfl, C_w1⟩
end Go.Proofs.YtippcmedgfmgbaaGreat
end
