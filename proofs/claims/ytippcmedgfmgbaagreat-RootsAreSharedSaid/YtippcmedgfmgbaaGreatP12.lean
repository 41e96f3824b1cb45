/- YtippcmedgfmgbaaGreatP12: a calculus of walks, plain facts of the numbers that are shared, and contracts of functions of the program: called in any world that meets a contract's premises, a function returns what the contract says and changes no more than it says. -/
import Derived.Test.YtippcmedgfmgbaaGreatP02
import Derived.Test.YtippcmedgfmgbaaGreatP03
import Derived.Test.YtippcmedgfmgbaaGreatP04
import Derived.Test.YtippcmedgfmgbaaGreatP07
import Derived.Test.YtippcmedgfmgbaaGreatP08
import Derived.Test.YtippcmedgfmgbaaGreatP10
import Derived.Test.YtippcmedgfmgbaaGreatP11
import Derived.Test.YtippcmedgfmgbaaGreatChecked
import Derived.ChangeKeysEq
import Derived.Laws.StructEq
import Derived.Stop.BytesEq
section
open Go Go.Eng Go.Proofs
namespace Go.Proofs.YtippcmedgfmgbaaGreat
set_option maxHeartbeats 8000000 in
set_option maxRecDepth 100000 in
theorem mended_spec (xs ys : List F) (ax ay : Option Addr) (n cx cy need wrong : Nat) (w : World) (hx : xs.length = n) (hy : ys.length = n) (h0 : 0 < n) (hb : n ≤ 32) (hnd : 0 < need) (hnw : need + 2 * wrong ≤ n) (hsx : SlAt w ax (fs xs)) (hsy : SlAt w ay (fs ys)) :
  Rtn Tryz.prog 52 [Value.slice ax n cx, Value.slice ay n cy, i64 (need : Nat), i64 (wrong : Nat)].toArray w (fun v w' => (∀ p, mendF need wrong (pts2 xs ys n) = some p → ∃ a c, v = tup [.slice a need c, .bool true] ∧ need ≤ c ∧ p.length = need ∧ (∀ x, a = some x → w.heap.size ≤ x.block) ∧ SlAt w' a (fs p)) ∧ (mendF need wrong (pts2 xs ys n) = none → ∃ a m c, v = tup [.slice a m c, .bool false]) ∧ Kept w w') := by
 refine fn_body (l := [Value.slice ax n cx, Value.slice ay n cy, i64 (need : Nat), i64 (wrong : Nat)]) 107 [.tmp 8, .tmp 9] Tryz.func52 rfl Tryz.ntmps52 (Nat.le_of_ble_eq_true rfl) (by rw [Tryz.results52]) ?_
 refine go_seq ?_
 refine go_region 2 rfl rfl ?_
 refine s_val rfl rfl (r_assign) rfl ?_
 refine s_val rfl rfl (r_assign) rfl ?_
 refine s_end ?_
 refine go_seq ?_
 refine go_region 1 rfl rfl ?_
 refine s_val rfl rfl (r_assign) rfl ?_
 refine s_end ?_
 refine go_seq ?_
 refine go_seq ?_
 refine go_region 3 rfl rfl ?_
 refine s_val rfl rfl (r_move) rfl ?_
 refine s_val rfl rfl (r_len Tryz.runUnderlying63 rfl) rfl ?_
 refine s_val rfl rfl (r_move) rfl ?_
 refine s_end ?_
 refine go_block ?_
 have hrb0 : RowsB w 63 w.heap.size w.heap.size (need + 2 * wrong + 1) (Value.slice none 0 0) [] := by
  have h_ := (RowsB.nil (w := w) (E := 63) (B := w.heap.size) (u := need + 2 * wrong + 1))
  exact h_
 refine go_loopM (σ := Nat × Value × List Rw × Nat) [(10, 13), (18, 79)] (fun (x_ : Nat × Value × List Rw × Nat) e' w' => match x_ with | (i, v10, R, H) => e' 18 = i64 (i : Nat) ∧ e' 10 = v10 ∧ i ≤ n ∧ R.length = i ∧ lsOf R = (pts2 xs ys i).map (rowOf need wrong) ∧ RowsB w' 63 w.heap.size H (need + 2 * wrong + 1) v10 R ∧ Chg no w w') (fun (x_ : Nat × Value × List Rw × Nat) => match x_ with | (i, v10, R, H) => n - i) (0, Value.slice none 0 0, [], w.heap.size) ?_ ?_
 ·exact ⟨rfl, rfl, by omega, rfl, rfl, hrb0, (Chg.refl no w)⟩
 rintro ⟨i, v10, R, H⟩ f2 w1 ⟨e3, e4, hi, hRl, hls, hrb, C_w1⟩
 have ob_6 : ∃ g_, f2 = upd g_ 18 (i64 (i : Nat)) := ⟨f2, upd_id e3⟩
 obtain ⟨f5, rfl⟩ := ob_6
 have ob_8 : ∃ g_, f5 = upd g_ 10 v10 := ⟨f5, upd_id e4⟩
 obtain ⟨f7, rfl⟩ := ob_8
 clear e3 e4
 have hs_w1 : w.heap.size ≤ w1.heap.size := Chg.size C_w1
 have hHle := hrb.le
 refine go_seq ?_
 refine go_region 1 rfl rfl ?_
 refine s_val rfl rfl (r_lss rfl rfl) rfl ?_
 refine s_end ?_
 refine go_seq ?_
 refine go_ifb _ rfl (fun h1 => ?_) (fun h1 => ?_)
 ·first | replace h1 := dcT h1 | replace h1 := dcF (nt h1) | skip
  refine go_skip ?_
  refine go_seq ?_
  refine go_block ?_
  refine go_seq ?_
  refine go_region 2 rfl rfl ?_
  refine s_val rfl rfl (r_move) rfl ?_
  refine s_val rfl rfl (r_assign) rfl ?_
  refine s_end ?_
  refine go_seq ?_
  refine go_region 7 rfl rfl ?_
  refine s_val rfl rfl (r_move) rfl ?_
  refine s_val rfl rfl (r_move) rfl ?_
  refine s_val rfl rfl (r_muli rfl rfl (by omega)) rfl ?_
  refine s_val rfl rfl (r_addi rfl rfl (by omega)) rfl ?_
  refine s_val rfl rfl (r_addi rfl rfl (by omega)) rfl ?_
  refine s_do rfl rfl (w_make (n := 0) (c := ((need + (2 * wrong)) + 1)) (E := 3) Tryz.underlying63 (i := Tryz.t3) (by kernel_rfl) rfl rfl rfl rfl rfl (by first | rfl | omega) (by first | rfl | omega) (by omega) (by first | decide | (show _ * 1 ≤ _; omega) | (show _ * 8 ≤ _; omega)) (by omega)) rfl ?_
  rintro _ w9 ⟨b10, rfl, hl_b10, hu_b10, o12, p11, c_w9⟩
  have hs_w9 : w1.heap.size ≤ w9.heap.size := Chg.size c_w9
  replace hrb := hrb.k c_w9
  have C_w9 := Chg.pure C_w1 c_w9
  have hn_b10 : w.heap.size ≤ b10 := by have := Chg.size C_w9; omega
  replace o12 : Owns w9 w1.heap.size 3 1 (.slice (some ⟨b10, 0, none⟩) 0 ((need + (2 * wrong)) + 1)) 0 (fs []) := o12
  clear p11
  refine s_val rfl rfl (r_assign) rfl ?_
  refine s_end ?_
  refine go_seq ?_
  refine go_region 1 rfl rfl ?_
  refine s_val rfl rfl (r_assign) rfl ?_
  refine s_end ?_
  refine go_seq ?_
  refine go_seq ?_
  refine go_region 4 rfl rfl ?_
  refine s_val rfl rfl (r_move) rfl ?_
  refine s_val rfl rfl (r_move) rfl ?_
  refine s_val rfl rfl (r_addi rfl rfl (by omega)) rfl ?_
  refine s_val rfl rfl (r_move) rfl ?_
  refine s_end ?_
  refine go_block ?_
  refine go_loopM (σ := Nat × F × Option Addr × Nat) [(12, 13), (30, 43)] (fun (x_ : Nat × F × Option Addr × Nat) e' w' => match x_ with | (j, p, a2, c2) => e' 30 = i64 (j : Nat) ∧ e' 13 = fi p ∧ e' 12 = Value.slice a2 j c2 ∧ j ≤ need + wrong ∧ p = pw (xs.getD i 0) j ∧ w1.heap.size ≤ w'.heap.size ∧ Owns w' w1.heap.size 3 1 (Value.slice a2 j c2) j (fs (powL (xs.getD i 0) j)) ∧ j ≤ c2 ∧ RowsB w' 63 w.heap.size H (need + 2 * wrong + 1) v10 R ∧ H ≤ w1.heap.size ∧ Chg no w w') (fun (x_ : Nat × F × Option Addr × Nat) => match x_ with | (j, p, a2, c2) => need + wrong - j) (0, 1, (some ⟨b10, 0, none⟩), ((need + (2 * wrong)) + 1)) ?_ ?_
  ·exact ⟨rfl, rfl, rfl, by omega, rfl, by omega, Owns.mono o12 (by omega), by omega, hrb, by omega, C_w9⟩
  rintro ⟨j, p, a2, c2⟩ f14 w13 ⟨e15, e16, e17, hj, hp, hB_hrow, hrow, hc2, hrb, hHo, C_w13⟩
  have ob_19 : ∃ g_, f14 = upd g_ 30 (i64 (j : Nat)) := ⟨f14, upd_id e15⟩
  obtain ⟨f18, rfl⟩ := ob_19
  have ob_21 : ∃ g_, f18 = upd g_ 13 (fi p) := ⟨f18, upd_id e16⟩
  obtain ⟨f20, rfl⟩ := ob_21
  have ob_23 : ∃ g_, f20 = upd g_ 12 (Value.slice a2 j c2) := ⟨f20, upd_id e17⟩
  obtain ⟨f22, rfl⟩ := ob_23
  clear e15 e16 e17
  have hs_w13 : w.heap.size ≤ w13.heap.size := Chg.size C_w13
  refine go_seq ?_
  refine go_region 1 rfl rfl ?_
  refine s_val rfl rfl (r_lss rfl rfl) rfl ?_
  refine s_end ?_
  refine go_seq ?_
  refine go_ifb _ rfl (fun h2 => ?_) (fun h2 => ?_)
  ·first | replace h2 := dcT h2 | replace h2 := dcF (nt h2) | skip
   refine go_skip ?_
   refine go_seq ?_
   refine go_block ?_
   refine go_seq ?_
   refine go_region 5 rfl rfl ?_
   refine s_val rfl rfl (r_move) rfl ?_
   refine s_val rfl rfl (r_move) rfl ?_
   refine s_do rfl rfl (w_build1 (v := (i64 (((p.val : Nat) : Int)))) (E := 3) Tryz.underlying63 (i := Tryz.t3) (by kernel_rfl) rfl rfl rfl rfl rfl) rfl ?_
   rintro _ w24 ⟨b25, rfl, hl_b25, hu_b25, o27, p26, c_w24⟩
   have ne_b25_hrow := Owns.ne_ge hrow hl_b25
   have hs_w24 : w13.heap.size ≤ w24.heap.size := Chg.size c_w24
   replace hrow := hrow.k c_w24
   replace hrb := hrb.k c_w24
   have C_w24 := Chg.pure C_w13 c_w24
   have hn_b25 : w.heap.size ≤ b25 := by have := Chg.size C_w24; omega
   replace p26 : Pc w24 b25 0 (fs [p]) := p26
   refine s_do rfl rfl (w_append (E := 3) (sz := 1) Tryz.underlying63 rfl (i := Tryz.t3) (by kernel_rfl) rfl rfl rfl rfl (by rfl) hrow rfl (SlAt.some p26.rd) (by first | (rw [bs_length]; omega) | (simp [bs_length]; done) | (simp [bs_length]; omega) | rfl) (flat_fs _) (by omega) (by show _ * 8 ≤ _; omega) (by omega)) rfl ?_
   rintro v32 w28 ⟨o29, c_w28⟩
   have hs_w28 : w24.heap.size ≤ w28.heap.size := Chg.size c_w28
   replace hrb := hrb.kob hrow c_w28 (by omega)
   replace p26 := p26.kob c_w28 ne_b25_hrow
   have C_w28 := Chg.newOb C_w24 c_w28 hrow (by omega)
   have hfo_o29 := Owns.form2 o29
   obtain ⟨A30, cap31, e_o29, hc_cap31⟩ := hfo_o29
   subst e_o29
   replace o29 := Owns.appF o29
   refine s_val rfl rfl (r_assign) rfl ?_
   refine s_end ?_
   refine go_region 8 rfl rfl ?_
   refine s_val rfl rfl (r_move) rfl ?_
   refine s_val rfl rfl (r_move) rfl ?_
   refine s_val rfl rfl (r_move) rfl ?_
   refine s_val rfl rfl (r_indexSl (k := i) Tryz.runUnderlying63 Tryz.sizeOf3 rfl (hsx.k C_w28) (fs_ne (by first | omega | (simp; try omega))) rfl (by first | rfl | omega) (by omega)) rfl ?_
   refine s_val rfl rfl (r_loadSl1 Tryz.isAgg3 rfl (hsx.k C_w28) (fs_get (by first | omega | (simp; try omega)))) rfl ?_
   have hf_33 := f_lt p
   have hf_34 := f_lt (xs.getD i 0)
   have hm_35 := mul_bd ((p.val : Nat) : Int) (((xs.getD i 0).val : Nat) : Int) (by omega) (by omega) (by omega) (by omega)
   refine s_val rfl rfl (r_muli rfl rfl (by omega)) rfl ?_
   refine s_val rfl rfl (r_remF (z := (p * (xs.getD i 0))) rfl rfl (by omega) (by simp only [fI_add, fI_mul, fI_sub, fI_cast, fI_257, fI_0, fI_1])) rfl ?_
   refine s_val rfl rfl (r_assign) rfl ?_
   refine s_end ?_
   refine go_nil (block_normal ?_)
   refine go_region 2 rfl rfl ?_
   refine s_val rfl rfl (r_addi rfl rfl (by omega)) rfl ?_
   refine s_val rfl rfl (r_move) rfl ?_
   refine s_end ?_
   refine go_nil (loop_normal ⟨⟨(j + 1, (p * (xs.getD i 0)), A30, cap31), by first | omega | (dsimp only; omega), ⟨rfl, rfl, rfl, by omega, by rw [hp]; rfl, by omega, by rw [← powL_succ, ← hp]; exact o29, by omega, hrb, by omega, C_w28⟩⟩, (by repeat (first | exact same_refl | exact same_over | refine same_upd rfl ?_ | refine same_over2 rfl ?_))⟩)
  ·first | replace h2 := dcF h2 | replace h2 := dcT (nf h2) | skip
   have ob_36 : j = need + wrong := by omega
   obtain rfl := ob_36
   refine go_exit (loop_exit (block_hit ?_))
   refine go_seq ?_
   refine go_region 1 rfl rfl ?_
   refine s_val rfl rfl (r_assign) rfl ?_
   refine s_end ?_
   refine go_seq ?_
   refine go_seq ?_
   refine go_region 2 rfl rfl ?_
   refine s_val rfl rfl (r_move) rfl ?_
   refine s_val rfl rfl (r_move) rfl ?_
   refine s_end ?_
   refine go_block ?_
   refine go_loopM (σ := Nat × F × Option Addr × Nat × Nat) [(12, 13), (45, 65)] (fun (x_ : Nat × F × Option Addr × Nat × Nat) e' w' => match x_ with | (j, p, a3, n3, c3) => e' 45 = i64 (j : Nat) ∧ e' 13 = fi p ∧ e' 12 = Value.slice a3 n3 c3 ∧ j ≤ wrong ∧ n3 = need + wrong + j ∧ p = pw (xs.getD i 0) j ∧ w1.heap.size ≤ w'.heap.size ∧ Owns w' w1.heap.size 3 1 (Value.slice a3 n3 c3) n3 (fs (powL (xs.getD i 0) (need + wrong) ++ npowL (xs.getD i 0) (ys.getD i 0) j)) ∧ n3 ≤ c3 ∧ RowsB w' 63 w.heap.size H (need + 2 * wrong + 1) v10 R ∧ H ≤ w1.heap.size ∧ Chg no w w') (fun (x_ : Nat × F × Option Addr × Nat × Nat) => match x_ with | (j, p, a3, n3, c3) => wrong - j) (0, 1, a2, need + wrong, c2) ?_ ?_
   ·exact ⟨rfl, rfl, rfl, by omega, rfl, rfl, by omega, by simpa [npowL] using hrow, by omega, hrb, by omega, C_w13⟩
   rintro ⟨j, p, a3, n3, c3⟩ f38 w37 ⟨e39, e40, e41, hj, hn3, hp, hB_hrow, hrow, hc3, hrb, hHo, C_w37⟩
   have ob_43 : ∃ g_, f38 = upd g_ 45 (i64 (j : Nat)) := ⟨f38, upd_id e39⟩
   obtain ⟨f42, rfl⟩ := ob_43
   have ob_45 : ∃ g_, f42 = upd g_ 13 (fi p) := ⟨f42, upd_id e40⟩
   obtain ⟨f44, rfl⟩ := ob_45
   have ob_47 : ∃ g_, f44 = upd g_ 12 (Value.slice a3 n3 c3) := ⟨f44, upd_id e41⟩
   obtain ⟨f46, rfl⟩ := ob_47
   clear e39 e40 e41
   have hs_w37 : w.heap.size ≤ w37.heap.size := Chg.size C_w37
   refine go_seq ?_
   refine go_region 1 rfl rfl ?_
   refine s_val rfl rfl (r_lss rfl rfl) rfl ?_
   refine s_end ?_
   refine go_seq ?_
   refine go_ifb _ rfl (fun h3 => ?_) (fun h3 => ?_)
   ·first | replace h3 := dcT h3 | replace h3 := dcF (nt h3) | skip
    refine go_skip ?_
    refine go_seq ?_
    refine go_block ?_
    refine go_seq ?_
    refine go_region 12 rfl rfl ?_
    refine s_val rfl rfl (r_move) rfl ?_
    refine s_val rfl rfl (r_move) rfl ?_
    refine s_val rfl rfl (r_move) rfl ?_
    refine s_val rfl rfl (r_indexSl (k := i) Tryz.runUnderlying63 Tryz.sizeOf3 rfl (hsy.k C_w37) (fs_ne (by first | omega | (simp; try omega))) rfl (by first | rfl | omega) (by omega)) rfl ?_
    refine s_val rfl rfl (r_loadSl1 Tryz.isAgg3 rfl (hsy.k C_w37) (fs_get (by first | omega | (simp; try omega)))) rfl ?_
    have hf_48 := f_lt (ys.getD i 0)
    refine s_val rfl rfl (r_subi rfl rfl (by omega)) rfl ?_
    refine s_val rfl rfl (r_move) rfl ?_
    have hf_49 := f_lt p
    have hm_50 := mul_bd (257 - (((ys.getD i 0).val : Nat) : Int)) ((p.val : Nat) : Int) (by omega) (by omega) (by omega) (by omega)
    refine s_val rfl rfl (r_muli rfl rfl (by omega)) rfl ?_
    refine s_val rfl rfl (r_remF (z := (((0 : F) - (ys.getD i 0)) * p)) rfl rfl (by omega) (by simp only [fI_add, fI_mul, fI_sub, fI_cast, fI_257, fI_0, fI_1])) rfl ?_
    refine s_do rfl rfl (w_build1 (v := (i64 ((((((0 : F) - (ys.getD i 0)) * p).val : Nat) : Int)))) (E := 3) Tryz.underlying63 (i := Tryz.t3) (by kernel_rfl) rfl rfl rfl rfl rfl) rfl ?_
    rintro _ w51 ⟨b52, rfl, hl_b52, hu_b52, o54, p53, c_w51⟩
    have ne_b52_hrow := Owns.ne_ge hrow hl_b52
    have hs_w51 : w37.heap.size ≤ w51.heap.size := Chg.size c_w51
    replace hrow := hrow.k c_w51
    replace hrb := hrb.k c_w51
    have C_w51 := Chg.pure C_w37 c_w51
    have hn_b52 : w.heap.size ≤ b52 := by have := Chg.size C_w51; omega
    replace p53 : Pc w51 b52 0 (fs [(((0 : F) - (ys.getD i 0)) * p)]) := p53
    refine s_do rfl rfl (w_append (E := 3) (sz := 1) Tryz.underlying63 rfl (i := Tryz.t3) (by kernel_rfl) rfl rfl rfl rfl (by rfl) hrow rfl (SlAt.some p53.rd) (by first | (rw [bs_length]; omega) | (simp [bs_length]; done) | (simp [bs_length]; omega) | rfl) (flat_fs _) (by omega) (by show _ * 8 ≤ _; omega) (by omega)) rfl ?_
    rintro v59 w55 ⟨o56, c_w55⟩
    have hs_w55 : w51.heap.size ≤ w55.heap.size := Chg.size c_w55
    replace hrb := hrb.kob hrow c_w55 (by omega)
    replace p53 := p53.kob c_w55 ne_b52_hrow
    have C_w55 := Chg.newOb C_w51 c_w55 hrow (by omega)
    have hfo_o56 := Owns.form2 o56
    obtain ⟨A57, cap58, e_o56, hc_cap58⟩ := hfo_o56
    subst e_o56
    replace o56 := Owns.appF o56
    refine s_val rfl rfl (r_assign) rfl ?_
    refine s_end ?_
    refine go_region 8 rfl rfl ?_
    refine s_val rfl rfl (r_move) rfl ?_
    refine s_val rfl rfl (r_move) rfl ?_
    refine s_val rfl rfl (r_move) rfl ?_
    refine s_val rfl rfl (r_indexSl (k := i) Tryz.runUnderlying63 Tryz.sizeOf3 rfl (hsx.k C_w55) (fs_ne (by first | omega | (simp; try omega))) rfl (by first | rfl | omega) (by omega)) rfl ?_
    refine s_val rfl rfl (r_loadSl1 Tryz.isAgg3 rfl (hsx.k C_w55) (fs_get (by first | omega | (simp; try omega)))) rfl ?_
    have hf_60 := f_lt p
    have hf_61 := f_lt (xs.getD i 0)
    have hm_62 := mul_bd ((p.val : Nat) : Int) (((xs.getD i 0).val : Nat) : Int) (by omega) (by omega) (by omega) (by omega)
    refine s_val rfl rfl (r_muli rfl rfl (by omega)) rfl ?_
    refine s_val rfl rfl (r_remF (z := (p * (xs.getD i 0))) rfl rfl (by omega) (by simp only [fI_add, fI_mul, fI_sub, fI_cast, fI_257, fI_0, fI_1])) rfl ?_
    refine s_val rfl rfl (r_assign) rfl ?_
    refine s_end ?_
    refine go_nil (block_normal ?_)
    refine go_region 2 rfl rfl ?_
    refine s_val rfl rfl (r_addi rfl rfl (by omega)) rfl ?_
    refine s_val rfl rfl (r_move) rfl ?_
    refine s_end ?_
    refine go_nil (loop_normal ⟨⟨(j + 1, (p * (xs.getD i 0)), A57, n3 + 1, cap58), by first | omega | (dsimp only; omega), ⟨rfl, rfl, rfl, by omega, by omega, by rw [hp]; rfl, by omega, by rw [← npowL_succ, ← hp, ← List.append_assoc]; exact o56, by omega, hrb, by omega, C_w55⟩⟩, (by repeat (first | exact same_refl | exact same_over | refine same_upd rfl ?_ | refine same_over2 rfl ?_))⟩)
   ·first | replace h3 := dcF h3 | replace h3 := dcT (nf h3) | skip
    have hjw : j = wrong := by omega
    rw [hjw] at hp hrow
    refine go_exit (loop_exit (block_hit ?_))
    refine go_region 14 rfl rfl ?_
    refine s_val rfl rfl (r_move) rfl ?_
    refine s_val rfl rfl (r_move) rfl ?_
    refine s_val rfl rfl (r_move) rfl ?_
    refine s_val rfl rfl (r_move) rfl ?_
    refine s_val rfl rfl (r_indexSl (k := i) Tryz.runUnderlying63 Tryz.sizeOf3 rfl (hsy.k C_w37) (fs_ne (by first | omega | (simp; try omega))) rfl (by first | rfl | omega) (by omega)) rfl ?_
    refine s_val rfl rfl (r_loadSl1 Tryz.isAgg3 rfl (hsy.k C_w37) (fs_get (by first | omega | (simp; try omega)))) rfl ?_
    refine s_val rfl rfl (r_move) rfl ?_
    have hf_63 := f_lt (ys.getD i 0)
    have hf_64 := f_lt p
    have hm_65 := mul_bd (((ys.getD i 0).val : Nat) : Int) ((p.val : Nat) : Int) (by omega) (by omega) (by omega) (by omega)
    refine s_val rfl rfl (r_muli rfl rfl (by omega)) rfl ?_
    refine s_val rfl rfl (r_remF (z := ((ys.getD i 0) * p)) rfl rfl (by omega) (by simp only [fI_add, fI_mul, fI_sub, fI_cast, fI_257, fI_0, fI_1])) rfl ?_
    refine s_do rfl rfl (w_build1 (v := (i64 (((((ys.getD i 0) * p).val : Nat) : Int)))) (E := 3) Tryz.underlying63 (i := Tryz.t3) (by kernel_rfl) rfl rfl rfl rfl rfl) rfl ?_
    rintro _ w66 ⟨b67, rfl, hl_b67, hu_b67, o69, p68, c_w66⟩
    have ne_b67_hrow := Owns.ne_ge hrow hl_b67
    have hs_w66 : w37.heap.size ≤ w66.heap.size := Chg.size c_w66
    replace hrow := hrow.k c_w66
    replace hrb := hrb.k c_w66
    have C_w66 := Chg.pure C_w37 c_w66
    have hn_b67 : w.heap.size ≤ b67 := by have := Chg.size C_w66; omega
    replace p68 : Pc w66 b67 0 (fs [((ys.getD i 0) * p)]) := p68
    refine s_do rfl rfl (w_append (E := 3) (sz := 1) Tryz.underlying63 rfl (i := Tryz.t3) (by kernel_rfl) rfl rfl rfl rfl (by rfl) hrow rfl (SlAt.some p68.rd) (by first | (rw [bs_length]; omega) | (simp [bs_length]; done) | (simp [bs_length]; omega) | rfl) (flat_fs _) (by omega) (by show _ * 8 ≤ _; omega) (by omega)) rfl ?_
    rintro v74 w70 ⟨o71, c_w70⟩
    have hs_w70 : w66.heap.size ≤ w70.heap.size := Chg.size c_w70
    replace hrb := hrb.kob hrow c_w70 (by omega)
    replace p68 := p68.kob c_w70 ne_b67_hrow
    have C_w70 := Chg.newOb C_w66 c_w70 hrow (by omega)
    have hfo_o71 := Owns.form2 o71
    obtain ⟨A72, cap73, e_o71, hc_cap73⟩ := hfo_o71
    subst e_o71
    replace o71 := Owns.appF o71
    refine s_do rfl rfl (w_build1 (v := (Value.slice A72 (n3 + 1) cap73)) (E := 63) Tryz.underlying128 (i := Tryz.t63) (by kernel_rfl) rfl rfl rfl rfl rfl) rfl ?_
    rintro _ w75 ⟨b76, rfl, hl_b76, hu_b76, o78, p77, c_w75⟩
    have ne_b76_o71 := Owns.ne_ge o71 hl_b76
    have hs_w75 : w70.heap.size ≤ w75.heap.size := Chg.size c_w75
    replace hrb := hrb.k c_w75
    replace p68 := p68.k c_w75
    replace o71 := o71.k c_w75
    have C_w75 := Chg.pure C_w70 c_w75
    have hn_b76 : w.heap.size ≤ b76 := by have := Chg.size C_w75; omega
    have hpc_ := Owns.pc o71 (by omega)
    obtain ⟨b80, he_, hB_b80, hu_b80, hc_b80, p81⟩ := hpc_
    subst he_
    refine s_do rfl rfl (w_appendAt (E := 63) (sz := 1) Tryz.underlying128 rfl (i := Tryz.t63) (by kernel_rfl) rfl rfl rfl rfl rfl hrb.ow rfl (SlAt.some p77.rd) rfl (flat_one rfl) (by omega) (by omega) (by show _ * 24 ≤ _; omega) (by omega)) rfl ?_
    rintro v84 w79 ⟨o82, hq83, c_w79⟩
    have hs_w79 : w75.heap.size ≤ w79.heap.size := Chg.size c_w79
    have C_w79 := Chg.newOb C_w75 c_w79 hrb.ow (by omega)
    have hrb2 := RowsB.add (n := 0) (b := b80) (c := cap73) (l := ((powL (xs.getD i 0) (need + wrong) ++ npowL (xs.getD i 0) (ys.getD i 0) wrong) ++ [((ys.getD i 0) * p)])) hrb p81 (by simp only [List.length_append, powL_length, npowL_length, List.length_cons, List.length_nil]; omega) (by omega) (by omega) (by omega) (by omega) (by rw [rw_v (n := (n3 + 1)) (by simp only [List.length_append, powL_length, npowL_length, List.length_cons, List.length_nil]; omega)]; exact o82) hq83 c_w79
    clear hrb
    refine s_val rfl rfl (r_assign) rfl ?_
    refine s_end ?_
    refine go_nil (block_normal ?_)
    refine go_region 2 rfl rfl ?_
    refine s_val rfl rfl (r_addi rfl rfl (by omega)) rfl ?_
    refine s_val rfl rfl (r_move) rfl ?_
    refine s_end ?_
    refine go_nil (loop_normal ⟨⟨(i + 1, v84, (R ++ [⟨b80, cap73, ((powL (xs.getD i 0) (need + wrong) ++ npowL (xs.getD i 0) (ys.getD i 0) wrong) ++ [((ys.getD i 0) * p)])⟩]), w79.heap.size), by first | omega | (dsimp only; omega), ⟨rfl, rfl, by omega, by rw [List.length_append, hRl]; rfl, by rw [lsOf_app, hls, ← pts2_rows, rowOf_eq, hp], hrb2, C_w79⟩⟩, (by repeat (first | exact same_refl | exact same_over | refine same_upd rfl ?_ | refine same_over2 rfl ?_))⟩)
 ·first | replace h1 := dcF h1 | replace h1 := dcT (nf h1) | skip
  have hin : i = n := by omega
  refine go_exit (loop_exit (block_hit ?_))
  refine go_seq ?_
  refine go_region 11 rfl rfl ?_
  refine s_val rfl rfl (r_move) rfl ?_
  refine s_val rfl rfl (r_move) rfl ?_
  refine s_val rfl rfl (r_move) rfl ?_
  refine s_val rfl rfl (r_muli rfl rfl (by omega)) rfl ?_
  refine s_val rfl rfl (r_addi rfl rfl (by omega)) rfl ?_
  have hfo_ := Owns.form2 hrb.ow
  obtain ⟨aR, cR, eR, hcR⟩ := hfo_
  subst eR
  have hpc_ := Owns.pc hrb.ow (by omega)
  obtain ⟨bR, he_, hBR, huR, hcR2, pR⟩ := hpc_
  subst he_
  have hmq : MatQ w1 (fun b_ => w.heap.size ≤ b_ ∧ b_ < w1.heap.size ∧ b_ ≠ bR) (need + 2 * wrong + 1) R := ⟨hrb.mat, fun k_ hk_ => ⟨(hrb.hi k_ hk_).1, Nat.lt_of_lt_of_le (hrb.hi k_ hk_).2.1 hrb.le, fun e_ => (hrb.hi k_ hk_).2.2 (by rw [e_]; rfl)⟩⟩
  have hso_ : solveF R.length (need + 2 * wrong) (lsOf R) = none ∨ ∃ s_, solveF R.length (need + 2 * wrong) (lsOf R) = some s_ := by cases solveF R.length (need + 2 * wrong) (lsOf R) with | none => exact .inl rfl | some s_ => exact .inr ⟨s_, rfl⟩
  have hcall_ := solveW_spec (fun b_ => w.heap.size ≤ b_) R bR R.length cR (need + 2 * wrong) w1 rfl (by omega) (by omega) (by omega) (by omega) hmq pR
  refine s_do rfl rfl (w_call Tryz.call79 rfl hcall_) rfl ?_
  rintro v87 w85 ⟨hp86, c_w85⟩
  have hs_w85 : w1.heap.size ≤ w85.heap.size := Chg.size c_w85
  have C_w85 := Chg.into C_w1 c_w85 (by intro b_ _ hb_ m_; rcases m_ with m_ | m_ <;> omega)
  clear hrb hmq pR hcall_
  rcases hso_ with hso | ⟨sv, hso⟩
  ·first | replace hp86 := dcT hp86 | replace hp86 := dcF (nt hp86) | skip
   rw [hso] at hp86
   replace hp86 : v87 = tup [.slice none 0 0, .bool false] := hp86
   subst hp86
   rw [hls, hin] at hso
   skip
   refine s_val rfl rfl (r_move) rfl ?_
   refine s_val rfl rfl (r_extract rfl rfl) rfl ?_
   refine s_val rfl rfl (r_extract rfl rfl) rfl ?_
   refine s_val rfl rfl (r_assign) rfl ?_
   refine s_val rfl rfl (r_assign) rfl ?_
   refine s_end ?_
   refine go_seq ?_
   refine go_seq ?_
   refine go_region 2 rfl rfl ?_
   refine s_val rfl rfl (r_move) rfl ?_
   refine s_val rfl rfl (r_not rfl) rfl ?_
   refine s_end ?_
   refine go_true rfl ?_
   refine go_seq ?_
   refine go_region 2 rfl rfl ?_
   refine s_val rfl rfl (r_assign) rfl ?_
   refine s_val rfl rfl (r_assign) rfl ?_
   refine s_end ?_
   refine go_ret ?_
   refine ⟨_, .cons rfl (.cons rfl (.nil)), ?_⟩
   have hm_ := mendF_none (n := R.length) (by rw [pts2_length]; omega) hso
   exact ⟨fun p_ h_ => (Option.some_ne_none _ (h_.symm.trans hm_)).elim, fun _ => ⟨_, _, _, rfl⟩, C_w85⟩
  ·first | replace hp86 := dcF hp86 | replace hp86 := dcT (nf hp86) | skip
   rw [hso] at hp86
   replace hp86 : ∃ a_ c_, v87 = tup [.slice a_ (need + 2 * wrong) c_, .bool true] ∧ (need + 2 * wrong) ≤ c_ ∧ sv.length = need + 2 * wrong ∧ (∀ x_, a_ = some x_ → _ ≤ x_.block) ∧ SlAt w85 a_ (fs sv) := hp86
   obtain ⟨aS, cS, rfl, hcS, hsvl, hqS, hS⟩ := hp86
   rw [hls, hin] at hso
   have hiS := SlAt.blk hS
   skip
   refine s_val rfl rfl (r_move) rfl ?_
   refine s_val rfl rfl (r_extract rfl rfl) rfl ?_
   refine s_val rfl rfl (r_extract rfl rfl) rfl ?_
   refine s_val rfl rfl (r_assign) rfl ?_
   refine s_val rfl rfl (r_assign) rfl ?_
   refine s_end ?_
   refine go_seq ?_
   refine go_seq ?_
   refine go_region 2 rfl rfl ?_
   refine s_val rfl rfl (r_move) rfl ?_
   refine s_val rfl rfl (r_not rfl) rfl ?_
   refine s_end ?_
   refine go_false rfl ?_
   refine go_skip ?_
   refine go_seq ?_
   refine go_drawsK 16 (.take 0 (.take 1 (.take 2 (.take 3 (.take 4 (.take 5 (.take 6 (.take 7 (.take 8 (.take 9 (.alts (.eff 10 (.eff 11 (.eff 12 (.eff 13 (.take 14 (.take 15 (.eff 16 (.eff 17 .done)))))))) (.eff 11 (.eff 10 (.eff 12 (.eff 13 (.take 14 (.take 15 (.eff 16 (.eff 17 .done))))))))))))))))))) (by kernel_rfl) (by kernel_rfl) fun w89 c_w89 => ?_
   have hs_w89 : w85.heap.size ≤ w89.heap.size := Chg.size c_w89
   replace hS := hS.k c_w89
   have C_w89 := Chg.pure C_w85 c_w89
   have hS_0 := hS
   refine s_takeK rfl rfl (w0 := w89) (fun x_ c_ => r_move) ?_
   refine s_takeK rfl rfl (w0 := w89) (fun x_ c_ => r_move) ?_
   refine s_takeK rfl rfl (w0 := w89) (fun x_ c_ => r_move) ?_
   refine s_takeK rfl rfl (w0 := w89) (fun x_ c_ => r_addi rfl rfl (by omega)) ?_
   have s90 := SlAt.cutF_mid hS 0 (need + wrong) cS (by first | omega | (simp; omega))
   have lo_s90 := cutA_lo (l := 0) (m := cS) (sz := 1) hqS
   have s90_0 := s90
   have hi_s90 := SlAt.blk s90
   refine s_takeK rfl rfl (w0 := w89) (fun x_ c_ => r_sliceSl (l := 0) (h := (need + wrong)) (m := cS) Tryz.runUnderlying63 Tryz.sizeOf3 rfl rfl ⟨_, _, rfl, by first | rfl | omega⟩ rfl (by first | decide | (intro h_; cases h_)) (by first | decide | omega) (by first | decide | omega | (intro _; omega)) (by first | exact Nat.le_refl _ | omega)) ?_
   refine s_takeK rfl rfl (w0 := w89) (fun x_ c_ => r_move) ?_
   refine s_takeK rfl rfl (w0 := w89) (fun x_ c_ => r_move) ?_
   refine s_takeK rfl rfl (w0 := w89) (fun x_ c_ => r_move) ?_
   refine s_takeK rfl rfl (w0 := w89) (fun x_ c_ => r_addi rfl rfl (by omega)) ?_
   have s91 := SlAt.cutF_drop hS (need + wrong) cS (by first | omega | (simp; omega))
   have lo_s91 := cutA_lo (l := (need + wrong)) (m := cS) (sz := 1) hqS
   have s91_0 := s91
   have hi_s91 := SlAt.blk s91
   refine s_takeK rfl rfl (w0 := w89) (fun x_ c_ => r_sliceSl (l := (need + wrong)) (h := (need + 2 * wrong)) (m := cS) Tryz.runUnderlying63 Tryz.sizeOf3 rfl ⟨_, _, rfl, by first | rfl | omega⟩ rfl rfl (by first | decide | (intro h_; cases h_)) (by first | decide | omega) (by first | decide | omega | (intro _; omega)) (by first | exact Nat.le_refl _ | omega)) ?_
   refine s_alts ?_ ?_
   ·
    refine s_fxK rfl rfl (w_call Tryz.call81 rfl (cloneO_spec (sv.drop (need + wrong)) _ _ _ _ (by first | omega | (simp; try omega)) (by first | omega | (simp; try omega)) s91)) ?_
    rintro v94 w92 ⟨o93, c_w92⟩
    have hs_w92 : w89.heap.size ≤ w92.heap.size := Chg.size c_w92
    replace hS := hS.k c_w92
    replace s90 := s90.k c_w92
    replace s91 := s91.k c_w92
    have C_w92 := Chg.pure C_w89 c_w92
    have hfo_o93 := Owns.form2 o93
    obtain ⟨A95, cap96, e_o93, hc_cap96⟩ := hfo_o93
    subst e_o93
    have K_w92 := Chg.pure (Chg.refl no w89) c_w92
    refine ⟨K_w92, ?_⟩
    refine s_fxK rfl rfl (w_build1 (v := (i64 (1))) (E := 3) Tryz.underlying63 (i := Tryz.t3) (by kernel_rfl) rfl rfl rfl rfl rfl) ?_
    rintro _ w97 ⟨b98, rfl, hl_b98, hu_b98, o100, p99, c_w97⟩
    have ne_b98_o93 := Owns.ne_ge o93 hl_b98
    have hs_w97 : w92.heap.size ≤ w97.heap.size := Chg.size c_w97
    replace hS := hS.k c_w97
    replace s90 := s90.k c_w97
    replace s91 := s91.k c_w97
    replace o93 := o93.k c_w97
    have C_w97 := Chg.pure C_w92 c_w97
    have hn_b98 : w.heap.size ≤ b98 := by have := Chg.size C_w97; omega
    replace p99 : Pc w97 b98 0 (fs [(1 : F)]) := p99
    have K_w97 := Chg.pure K_w92 c_w97
    refine ⟨K_w97, ?_⟩
    refine s_fxK rfl rfl (w_append (E := 3) (sz := 1) Tryz.underlying63 rfl (i := Tryz.t3) (by kernel_rfl) rfl rfl rfl rfl (by rfl) o93 rfl (SlAt.some p99.rd) (by first | (rw [bs_length]; omega) | (simp [bs_length]; done) | (simp [bs_length]; omega) | rfl) (flat_fs _) (by omega) (by show _ * 8 ≤ _; omega) (by omega)) ?_
    rintro v105 w101 ⟨o102, c_w101⟩
    have hs_w101 : w97.heap.size ≤ w101.heap.size := Chg.size c_w101
    replace hS := SlAt.keptE hS c_w101 (fun hc_ b_ o_ ha_ o2_ m_ => by have h1_ := hiS hc_ _ ha_; simp only at h1_; exact Owns.ne_lt o93 (by omega) m_)
    replace s90 := SlAt.keptE s90 c_w101 (fun hc_ b_ o_ ha_ o2_ m_ => by have h1_ := hi_s90 hc_ _ ha_; simp only at h1_; exact Owns.ne_lt o93 (by omega) m_)
    replace s91 := SlAt.keptE s91 c_w101 (fun hc_ b_ o_ ha_ o2_ m_ => by have h1_ := hi_s91 hc_ _ ha_; simp only at h1_; exact Owns.ne_lt o93 (by omega) m_)
    replace p99 := p99.kob c_w101 ne_b98_o93
    have C_w101 := Chg.newOb C_w97 c_w101 o93 (by omega)
    have hfo_o102 := Owns.form2 o102
    obtain ⟨A103, cap104, e_o102, hc_cap104⟩ := hfo_o102
    subst e_o102
    replace o102 := Owns.appF o102
    have K_w101 := Chg.newOb K_w97 c_w101 o93 (by omega)
    refine ⟨K_w101, ?_⟩
    have hB1_ : (((sv.drop (need + wrong)) ++ [(1 : F)])).getD (((((need + 2 * wrong) - (need + wrong)) + 1)) - 1) 0 = 1 := by rw [List.getD_eq_getElem?_getD, List.getElem?_append_right (by rw [List.length_drop]; omega), List.length_drop, hsvl, show ((((need + 2 * wrong) - (need + wrong)) + 1)) - 1 - (need + 2 * wrong - (need + wrong)) = 0 by omega]; rfl
    have hcall_ := divide_spec ((sv.drop 0).take ((need + wrong) - 0)) ((sv.drop (need + wrong)) ++ [(1 : F)]) _ _ (((need + wrong) - 0)) (cS - 0) ((((need + 2 * wrong) - (need + wrong)) + 1)) cap104 w101 (by simp only [List.length_take, List.length_drop]; omega) (by rw [List.length_append, List.length_drop, hsvl]; rfl) (by omega) (by omega) (by omega) hB1_ s90 (Owns.sl o102)
    rw [show (((need + wrong) - 0)) - ((((need + 2 * wrong) - (need + wrong)) + 1)) + 1 = need by omega, show ((((need + 2 * wrong) - (need + wrong)) + 1)) - 1 = wrong by omega, show ((sv.drop 0).take ((need + wrong) - 0)) = sv.take (need + wrong) by rw [List.drop_zero]; rfl] at hcall_
    refine s_fxK rfl rfl (w_call Tryz.call80 rfl hcall_) ?_
    rintro _ w106 ⟨aD, cD, rfl, hcD, hqD, hD, c_w106⟩
    have hs_w106 : w101.heap.size ≤ w106.heap.size := Chg.size c_w106
    replace hS := hS.k c_w106
    replace s90 := s90.k c_w106
    replace s91 := s91.k c_w106
    replace p99 := p99.k c_w106
    replace o102 := o102.k c_w106
    have C_w106 := Chg.pure C_w101 c_w106
    have K_w106 := Chg.pure K_w101 c_w106
    refine ⟨K_w106, ?_⟩
    refine s_takeK rfl rfl (w0 := w89) (fun x_ c_ => r_extract rfl rfl) ?_
    refine s_takeK rfl rfl (w0 := w89) (fun x_ c_ => r_extract rfl rfl) ?_
    refine s_val rfl rfl (r_assign) rfl ?_
    refine s_val rfl rfl (r_assign) rfl ?_
    refine s_end ?_
    refine go_ret ?_
    refine ⟨_, .cons rfl (.cons rfl (.nil)), ?_⟩
    have hm_ := mendF_of (n := R.length) (by rw [pts2_length]; omega) hso
    by_cases hall : (divS (sv.drop (need + wrong) ++ [1]) wrong need (sv.take (need + wrong))).2.all (fun v => decide (v = 0)) = true
    ·replace hm_ := hm_.trans (if_pos hall)
     refine ⟨fun p_ h_ => ?_, fun h_ => (Option.some_ne_none _ (hm_.symm.trans h_)).elim, C_w106⟩
     have e_ : p_ = (divS (sv.drop (need + wrong) ++ [1]) wrong need (sv.take (need + wrong))).1 := Option.some.inj (h_.symm.trans hm_)
     exact ⟨aD, cD, congrArg (fun q_ => tup [Value.slice aD need cD, .bool q_]) hall, hcD, by rw [e_]; exact divS_len1 _ _ _ _, fun x_ h_ => Nat.le_trans (by omega) (hqD x_ h_), by rw [e_]; exact hD⟩
    ·replace hm_ := hm_.trans (if_neg hall)
     exact ⟨fun p_ h_ => (Option.some_ne_none _ (h_.symm.trans hm_)).elim, fun _ => ⟨aD, need, cD, congrArg (fun q_ => tup [Value.slice aD need cD, .bool q_]) (Bool.eq_false_iff.2 hall)⟩, C_w106⟩
   ·
    refine s_fxK rfl rfl (w_build1 (v := (i64 (1))) (E := 3) Tryz.underlying63 (i := Tryz.t3) (by kernel_rfl) rfl rfl rfl rfl rfl) ?_
    rintro _ w108 ⟨b109, rfl, hl_b109, hu_b109, o111, p110, c_w108⟩
    have hs_w108 : w89.heap.size ≤ w108.heap.size := Chg.size c_w108
    replace hS := hS.k c_w108
    replace s90 := s90.k c_w108
    replace s91 := s91.k c_w108
    have C_w108 := Chg.pure C_w89 c_w108
    have hn_b109 : w.heap.size ≤ b109 := by have := Chg.size C_w108; omega
    replace p110 : Pc w108 b109 0 (fs [(1 : F)]) := p110
    have K_w108 := Chg.pure (Chg.refl no w89) c_w108
    refine ⟨K_w108, ?_⟩
    refine s_fxK rfl rfl (w_call Tryz.call81 rfl (cloneO_spec (sv.drop (need + wrong)) _ _ _ _ (by first | omega | (simp; try omega)) (by first | omega | (simp; try omega)) s91)) ?_
    rintro v114 w112 ⟨o113, c_w112⟩
    have hs_w112 : w108.heap.size ≤ w112.heap.size := Chg.size c_w112
    replace hS := hS.k c_w112
    replace s90 := s90.k c_w112
    replace s91 := s91.k c_w112
    replace p110 := p110.k c_w112
    have C_w112 := Chg.pure C_w108 c_w112
    have hfo_o113 := Owns.form2 o113
    obtain ⟨A115, cap116, e_o113, hc_cap116⟩ := hfo_o113
    subst e_o113
    have K_w112 := Chg.pure K_w108 c_w112
    refine ⟨K_w112, ?_⟩
    refine s_fxK rfl rfl (w_append (E := 3) (sz := 1) Tryz.underlying63 rfl (i := Tryz.t3) (by kernel_rfl) rfl rfl rfl rfl (by rfl) o113 rfl (SlAt.some p110.rd) (by first | (rw [bs_length]; omega) | (simp [bs_length]; done) | (simp [bs_length]; omega) | rfl) (flat_fs _) (by omega) (by show _ * 8 ≤ _; omega) (by omega)) ?_
    rintro v121 w117 ⟨o118, c_w117⟩
    have hs_w117 : w112.heap.size ≤ w117.heap.size := Chg.size c_w117
    replace hS := SlAt.keptE hS c_w117 (fun hc_ b_ o_ ha_ o2_ m_ => by have h1_ := hiS hc_ _ ha_; simp only at h1_; exact Owns.ne_lt o113 (by omega) m_)
    replace s90 := SlAt.keptE s90 c_w117 (fun hc_ b_ o_ ha_ o2_ m_ => by have h1_ := hi_s90 hc_ _ ha_; simp only at h1_; exact Owns.ne_lt o113 (by omega) m_)
    replace s91 := SlAt.keptE s91 c_w117 (fun hc_ b_ o_ ha_ o2_ m_ => by have h1_ := hi_s91 hc_ _ ha_; simp only at h1_; exact Owns.ne_lt o113 (by omega) m_)
    replace p110 := p110.kob c_w117 (Owns.ne_lt o113 (by omega))
    have C_w117 := Chg.newOb C_w112 c_w117 o113 (by omega)
    have hfo_o118 := Owns.form2 o118
    obtain ⟨A119, cap120, e_o118, hc_cap120⟩ := hfo_o118
    subst e_o118
    replace o118 := Owns.appF o118
    have K_w117 := Chg.newOb K_w112 c_w117 o113 (by omega)
    refine ⟨K_w117, ?_⟩
    have hB1_ : (((sv.drop (need + wrong)) ++ [(1 : F)])).getD (((((need + 2 * wrong) - (need + wrong)) + 1)) - 1) 0 = 1 := by rw [List.getD_eq_getElem?_getD, List.getElem?_append_right (by rw [List.length_drop]; omega), List.length_drop, hsvl, show ((((need + 2 * wrong) - (need + wrong)) + 1)) - 1 - (need + 2 * wrong - (need + wrong)) = 0 by omega]; rfl
    have hcall_ := divide_spec ((sv.drop 0).take ((need + wrong) - 0)) ((sv.drop (need + wrong)) ++ [(1 : F)]) _ _ (((need + wrong) - 0)) (cS - 0) ((((need + 2 * wrong) - (need + wrong)) + 1)) cap120 w117 (by simp only [List.length_take, List.length_drop]; omega) (by rw [List.length_append, List.length_drop, hsvl]; rfl) (by omega) (by omega) (by omega) hB1_ s90 (Owns.sl o118)
    rw [show (((need + wrong) - 0)) - ((((need + 2 * wrong) - (need + wrong)) + 1)) + 1 = need by omega, show ((((need + 2 * wrong) - (need + wrong)) + 1)) - 1 = wrong by omega, show ((sv.drop 0).take ((need + wrong) - 0)) = sv.take (need + wrong) by rw [List.drop_zero]; rfl] at hcall_
    refine s_fxK rfl rfl (w_call Tryz.call80 rfl hcall_) ?_
    rintro _ w122 ⟨aD, cD, rfl, hcD, hqD, hD, c_w122⟩
    have hs_w122 : w117.heap.size ≤ w122.heap.size := Chg.size c_w122
    replace hS := hS.k c_w122
    replace s90 := s90.k c_w122
    replace s91 := s91.k c_w122
    replace p110 := p110.k c_w122
    replace o118 := o118.k c_w122
    have C_w122 := Chg.pure C_w117 c_w122
    have K_w122 := Chg.pure K_w117 c_w122
    refine ⟨K_w122, ?_⟩
    refine s_takeK rfl rfl (w0 := w89) (fun x_ c_ => r_extract rfl rfl) ?_
    refine s_takeK rfl rfl (w0 := w89) (fun x_ c_ => r_extract rfl rfl) ?_
    refine s_val rfl rfl (r_assign) rfl ?_
    refine s_val rfl rfl (r_assign) rfl ?_
    refine s_end ?_
    refine go_ret ?_
    refine ⟨_, .cons rfl (.cons rfl (.nil)), ?_⟩
    have hm_ := mendF_of (n := R.length) (by rw [pts2_length]; omega) hso
    by_cases hall : (divS (sv.drop (need + wrong) ++ [1]) wrong need (sv.take (need + wrong))).2.all (fun v => decide (v = 0)) = true
    ·replace hm_ := hm_.trans (if_pos hall)
     refine ⟨fun p_ h_ => ?_, fun h_ => (Option.some_ne_none _ (hm_.symm.trans h_)).elim, C_w122⟩
     have e_ : p_ = (divS (sv.drop (need + wrong) ++ [1]) wrong need (sv.take (need + wrong))).1 := Option.some.inj (h_.symm.trans hm_)
     exact ⟨aD, cD, congrArg (fun q_ => tup [Value.slice aD need cD, .bool q_]) hall, hcD, by rw [e_]; exact divS_len1 _ _ _ _, fun x_ h_ => Nat.le_trans (by omega) (hqD x_ h_), by rw [e_]; exact hD⟩
    ·replace hm_ := hm_.trans (if_neg hall)
     exact ⟨fun p_ h_ => (Option.some_ne_none _ (h_.symm.trans hm_)).elim, fun _ => ⟨aD, need, cD, congrArg (fun q_ => tup [Value.slice aD need cD, .bool q_]) (Bool.eq_false_iff.2 hall)⟩, C_w122⟩
end Go.Proofs.YtippcmedgfmgbaaGreat
end
section
open Go Go.Eng Go.Proofs
namespace Go.Proofs.YtippcmedgfmgbaaGreat
set_option maxHeartbeats 2000000 in
set_option maxRecDepth 100000 in
theorem lies_spec (vs : List Value) (ps : List (List F)) (Q : Nat → Prop) (s : Shr) (w : World) (hvl : vs.length = 32) (hps : PolOk Q w vs ps) (hpl : ∀ k, (ps.getD k []).length ≤ 64) (hs : SOk s) :
  Rtn Tryz.prog 53 [Value.agg vs.toArray, Value.agg (scell s).toArray].toArray w (fun v w' => v = .bool (liesP ps s) ∧ Kept w w') := by
 have hpl32 : ps.length = 32 := hps.1.trans hvl
 have hsy := hs.2
 refine fn_body (l := [Value.agg vs.toArray, Value.agg (scell s).toArray]) 23 [.tmp 4] Tryz.func53 rfl Tryz.ntmps53 (Nat.le_of_ble_eq_true rfl) (by rw [Tryz.results53]) ?_
 refine go_seq ?_
 refine go_region 3 rfl rfl ?_
 refine s_do rfl rfl (w_boxA rfl) rfl ?_
 rintro _ w1 ⟨b2, rfl, hl_b2, hu_b2, p3, c_w1⟩
 have hs_w1 : w.heap.size ≤ w1.heap.size := Chg.size c_w1
 have C_w1 := Chg.pure (Chg.refl no w) c_w1
 have hn_b2 : w.heap.size ≤ b2 := by have := Chg.size C_w1; omega
 refine s_do rfl rfl (w_boxA rfl) rfl ?_
 rintro _ w4 ⟨b5, rfl, hl_b5, hu_b5, p6, c_w4⟩
 have hs_w4 : w1.heap.size ≤ w4.heap.size := Chg.size c_w4
 replace p3 := p3.k c_w4
 have C_w4 := Chg.pure C_w1 c_w4
 have hn_b5 : w.heap.size ≤ b5 := by have := Chg.size C_w4; omega
 have p7 : Pc w4 b5 0 (bs s.h) := Pc.shrH p6
 have hlH_p7 : (s.h).length = 16 := hs.1
 have p8 : Pc w4 b5 16 [fi s.x] := Pc.shrX p6 hs
 have p9 : Pc w4 b5 17 (us s.y) := Pc.shrY p6 hs
 have hlY_p9 : (s.y).length = 32 := hs.2
 clear p6
 refine s_val rfl rfl (r_assign) rfl ?_
 refine s_end ?_
 refine go_seq ?_
 refine go_seq ?_
 refine go_region 2 rfl rfl ?_
 refine s_val rfl rfl (r_loadN Tryz.isAgg64 Tryz.sizeOf64 rfl p3.rd hvl) rfl ?_
 refine s_val rfl rfl (r_move) rfl ?_
 refine s_end ?_
 refine go_block ?_
 refine go_loopM (σ := Nat) [(4, 6), (8, 22)] (fun (k : Nat) e' w' => e' 8 = i64 (k : Nat) ∧ k ≤ 32 ∧ (∀ o, o < k → ev (ps.getD o []) s.x = s.y.getD o 0) ∧ Pc w' b5 16 [fi s.x] ∧ Pc w' b5 17 (us s.y) ∧ b5 < w'.heap.size ∧ Chg no w w') (fun (k : Nat) => 32 - k) 0 ?_ ?_
 ·exact ⟨rfl, by omega, (fun o h_ => absurd h_ (Nat.not_lt_zero o)), p8, p9, by omega, C_w4⟩
 rintro k f11 w10 ⟨e12, hk, hz, pX, pY, hu3, C_w10⟩
 have ob_14 : ∃ g_, f11 = upd g_ 8 (i64 (k : Nat)) := ⟨f11, upd_id e12⟩
 obtain ⟨f13, rfl⟩ := ob_14
 clear e12
 have hs_w10 : w.heap.size ≤ w10.heap.size := Chg.size C_w10
 refine go_seq ?_
 refine go_region 1 rfl rfl ?_
 refine s_val rfl rfl (r_lss rfl rfl) rfl ?_
 refine s_end ?_
 refine go_seq ?_
 refine go_ifb _ rfl (fun h1 => ?_) (fun h1 => ?_)
 ·first | replace h1 := dcT h1 | replace h1 := dcF (nt h1) | skip
  refine go_skip ?_
  refine go_seq ?_
  refine go_block ?_
  refine go_seq ?_
  refine go_region 4 rfl rfl ?_
  refine s_val rfl rfl (r_move) rfl ?_
  have hp_ := hps.2 k (by omega)
  obtain ⟨ak, nk, ck, hvk, hlk, hck, hqk, hak⟩ := hp_
  have hlk2 := hpl k
  refine s_val rfl rfl (r_indexAgg (k := k) Tryz.runUnderlying64 Tryz.isAgg63 Tryz.sizeOf63 rfl rfl (by first | rfl | omega) (by omega) hvk) rfl ?_
  refine s_val rfl rfl (r_assign) rfl ?_
  refine s_val rfl rfl (r_assign) rfl ?_
  refine s_end ?_
  refine go_seq ?_
  refine go_drawsK 9 (.take 0 (.take 1 (.take 2 (.take 4 (.take 5 (.take 6 (.take 7 (.take 8 (.eff 3 (.eff 9 .done)))))))))) (by kernel_rfl) (by kernel_rfl) fun w15 c_w15 => ?_
  have hs_w15 : w10.heap.size ≤ w15.heap.size := Chg.size c_w15
  replace pX := pX.k c_w15
  replace pY := pY.k c_w15
  have C_w15 := Chg.pure C_w10 c_w15
  have pX_0 := pX
  have pY_0 := pY
  refine s_takeK rfl rfl (w0 := w15) (fun x_ c_ => r_move) ?_
  refine s_takeK rfl rfl (w0 := w15) (fun x_ c_ => r_fieldAddr Tryz.runUnderlying40 rfl Tryz.sizeOf3 rfl rfl) ?_
  refine s_takeK rfl rfl (w0 := w15) (fun x_ c_ => r_load1 Tryz.isAgg3 rfl (pX_0.k c_).rd) ?_
  refine s_takeK rfl rfl (w0 := w15) (fun x_ c_ => r_move) ?_
  refine s_takeK rfl rfl (w0 := w15) (fun x_ c_ => r_fieldAddr Tryz.runUnderlying40 rfl Tryz.sizeOf38 rfl rfl) ?_
  refine s_takeK rfl rfl (w0 := w15) (fun x_ c_ => r_indexArr (k := k) Tryz.runUnderlying38 Tryz.sizeOf25 rfl rfl (by first | rfl | omega) (by first | decide | omega)) ?_
  refine s_takeK rfl rfl (w0 := w15) (fun x_ c_ => r_load1 Tryz.isAgg25 rfl (Rd.at1 (pY_0.k c_).rd (us_get (by first | omega | (simp; try omega))))) ?_
  refine s_takeK rfl rfl (w0 := w15) (fun x_ c_ => r_conv_F Tryz.runUnderlying25 Tryz.runUnderlying3 rfl) ?_
  refine s_fxK rfl rfl (w_call Tryz.call34 rfl (value_spec (ps.getD k []) _ _ _ s.x _ (by first | omega | (simp; try omega)) (by first | omega | (simp; try omega)) (hak.k C_w15))) ?_
  rintro _ w16 ⟨rfl, c_w16⟩
  have hs_w16 : w15.heap.size ≤ w16.heap.size := Chg.size c_w16
  replace pX := pX.k c_w16
  replace pY := pY.k c_w16
  have C_w16 := Chg.pure C_w15 c_w16
  have K_w16 := Chg.pure (Chg.refl no w15) c_w16
  refine ⟨K_w16, ?_⟩
  refine s_val rfl rfl (r_neq rfl rfl) rfl ?_
  refine s_end ?_
  refine go_ifb _ rfl (fun h2 => ?_) (fun h2 => ?_)
  ·first | replace h2 := dcT h2 | replace h2 := dcF (nt h2) | skip
   refine go_seq ?_
   refine go_region 1 rfl rfl ?_
   refine s_val rfl rfl (r_assign) rfl ?_
   refine s_end ?_
   refine go_ret (block_ret (loop_ret (block_ret ?_)))
   refine ⟨_, .cons rfl (.nil), ?_⟩
   exact ⟨congrArg Value.bool (liesP_false (k := k) (by omega) (fun e_ => h2 (by rw [e_]))).symm, C_w16⟩
  ·first | replace h2 := dcF h2 | replace h2 := dcT (nf h2) | skip
   refine go_skip ?_
   refine go_nil (block_normal ?_)
   refine go_region 2 rfl rfl ?_
   refine s_val rfl rfl (r_addi rfl rfl (by omega)) rfl ?_
   refine s_val rfl rfl (r_move) rfl ?_
   refine s_end ?_
   refine go_nil (loop_normal ⟨⟨(k + 1), by first | omega | (dsimp only; omega), ⟨rfl, by omega, lt_step hz (f_ext (by omega)), pX, pY, by omega, C_w16⟩⟩, (by repeat (first | exact same_refl | exact same_over | refine same_upd rfl ?_ | refine same_over2 rfl ?_))⟩)
 ·first | replace h1 := dcF h1 | replace h1 := dcT (nf h1) | skip
  have hzz : ∀ o, o < 32 → ev (ps.getD o []) s.x = s.y.getD o 0 := fun o h_ => hz o (by omega)
  refine go_exit (loop_exit (block_hit ?_))
  refine go_seq ?_
  refine go_region 1 rfl rfl ?_
  refine s_val rfl rfl (r_assign) rfl ?_
  refine s_end ?_
  refine go_ret ?_
  refine ⟨_, .cons rfl (.nil), ?_⟩
  exact ⟨congrArg Value.bool (liesP_true hzz).symm, C_w10⟩
set_option maxHeartbeats 2000000 in
set_option maxRecDepth 100000 in
theorem said_spec (vs : List Value) (ps : List (List F)) (Q : Nat → Prop) (w : World) (hvl : vs.length = 32) (hps : PolOk Q w vs ps) (hpl : ∀ k, (ps.getD k []).length ≤ 64) :
  Rtn Tryz.prog 54 [Value.agg vs.toArray].toArray w (fun v w' => (∀ r, saidF ps = some r → v = tup [.agg (bs r).toArray, i64 0]) ∧ (saidF ps = none → v = tup [.agg (bs (List.replicate 32 0)).toArray, i64 20]) ∧ Kept w w') := by
 have hpl32 : ps.length = 32 := hps.1.trans hvl
 refine fn_body (l := [Value.agg vs.toArray]) 24 [.cell 2 23, .tmp 3] Tryz.func54 rfl Tryz.ntmps54 (Nat.le_of_ble_eq_true rfl) (by rw [Tryz.results54]) ?_
 refine go_seq ?_
 refine go_region 3 rfl rfl ?_
 refine s_do rfl rfl (w_boxA rfl) rfl ?_
 rintro _ w1 ⟨b2, rfl, hl_b2, hu_b2, p3, c_w1⟩
 have hs_w1 : w.heap.size ≤ w1.heap.size := Chg.size c_w1
 have C_w1 := Chg.pure (Chg.refl no w) c_w1
 have hn_b2 : w.heap.size ≤ b2 := by have := Chg.size C_w1; omega
 refine s_do rfl rfl (w_alloc (bs (List.replicate 32 0)) Tryz.zeroValue23 (by kernel_rfl)) rfl ?_
 rintro _ w4 ⟨b5, rfl, hl_b5, hu_b5, p6, c_w4⟩
 have hs_w4 : w1.heap.size ≤ w4.heap.size := Chg.size c_w4
 replace p3 := p3.k c_w4
 have C_w4 := Chg.pure C_w1 c_w4
 have hn_b5 : w.heap.size ≤ b5 := by have := Chg.size C_w4; omega
 refine s_val rfl rfl (r_assign) rfl ?_
 refine s_end ?_
 refine go_seq ?_
 refine go_region 1 rfl rfl ?_
 refine s_do rfl rfl (w_alloc (bs (List.replicate 32 0)) Tryz.zeroValue23 (by kernel_rfl)) rfl ?_
 rintro _ w7 ⟨b8, rfl, hl_b8, hu_b8, p9, c_w7⟩
 have hs_w7 : w4.heap.size ≤ w7.heap.size := Chg.size c_w7
 replace p3 := p3.k c_w7
 replace p6 := p6.k c_w7
 have C_w7 := Chg.pure C_w4 c_w7
 have hn_b8 : w.heap.size ≤ b8 := by have := Chg.size C_w7; omega
 refine s_end ?_
 refine go_seq ?_
 refine go_seq ?_
 refine go_region 2 rfl rfl ?_
 refine s_val rfl rfl (r_loadN Tryz.isAgg64 Tryz.sizeOf64 rfl p3.rd hvl) rfl ?_
 refine s_val rfl rfl (r_move) rfl ?_
 refine s_end ?_
 refine go_block ?_
 refine go_loopM (σ := Nat) [(3, 3), (5, 7), (9, 22)] (fun (k : Nat) e' w' => e' 9 = i64 (k : Nat) ∧ k ≤ 32 ∧ (∀ o, o < k → (ev (ps.getD o []) 0).val ≠ 256) ∧ Pc w' b5 0 (bs (List.replicate 32 0)) ∧ b5 < w'.heap.size ∧ Pc w' b8 0 (bs (saidTo ps k)) ∧ b8 < w'.heap.size ∧ Chg no w w') (fun (k : Nat) => 32 - k) 0 ?_ ?_
 ·exact ⟨rfl, by omega, (fun o h_ => absurd h_ (Nat.not_lt_zero o)), p6, by omega, p9, by omega, C_w7⟩
 rintro k f11 w10 ⟨e12, hk, hz, p6, hu_b5, p9, hu_b8, C_w10⟩
 have ob_14 : ∃ g_, f11 = upd g_ 9 (i64 (k : Nat)) := ⟨f11, upd_id e12⟩
 obtain ⟨f13, rfl⟩ := ob_14
 clear e12
 have hs_w10 : w.heap.size ≤ w10.heap.size := Chg.size C_w10
 have hsl_ := saidTo_length ps k
 refine go_seq ?_
 refine go_region 1 rfl rfl ?_
 refine s_val rfl rfl (r_lss rfl rfl) rfl ?_
 refine s_end ?_
 refine go_seq ?_
 refine go_ifb _ rfl (fun h1 => ?_) (fun h1 => ?_)
 ·first | replace h1 := dcT h1 | replace h1 := dcF (nt h1) | skip
  refine go_skip ?_
  refine go_seq ?_
  refine go_block ?_
  refine go_seq ?_
  refine go_region 4 rfl rfl ?_
  refine s_val rfl rfl (r_move) rfl ?_
  have hp_ := hps.2 k (by omega)
  obtain ⟨ak, nk, ck, hvk, hlk, hck, hqk, hak⟩ := hp_
  have hlk2 := hpl k
  refine s_val rfl rfl (r_indexAgg (k := k) Tryz.runUnderlying64 Tryz.isAgg63 Tryz.sizeOf63 rfl rfl (by first | rfl | omega) (by omega) hvk) rfl ?_
  refine s_val rfl rfl (r_assign) rfl ?_
  refine s_val rfl rfl (r_assign) rfl ?_
  refine s_end ?_
  refine go_seq ?_
  refine go_region 3 rfl rfl ?_
  refine s_val rfl rfl (r_move) rfl ?_
  refine s_do rfl rfl (w_call Tryz.call34 rfl (value_spec (ps.getD k []) _ _ _ (0 : F) _ (by first | omega | (simp; try omega)) (by first | omega | (simp; try omega)) (hak.k C_w10))) rfl ?_
  rintro _ w15 ⟨rfl, c_w15⟩
  have hs_w15 : w10.heap.size ≤ w15.heap.size := Chg.size c_w15
  replace p6 := p6.k c_w15
  replace p9 := p9.k c_w15
  have C_w15 := Chg.pure C_w10 c_w15
  refine s_val rfl rfl (r_assign) rfl ?_
  refine s_end ?_
  refine go_seq ?_
  refine go_seq ?_
  refine go_region 2 rfl rfl ?_
  refine s_val rfl rfl (r_move) rfl ?_
  refine s_val rfl rfl (r_eql rfl rfl) rfl ?_
  refine s_end ?_
  refine go_ifb _ rfl (fun h2 => ?_) (fun h2 => ?_)
  ·first | replace h2 := dcT h2 | replace h2 := dcF (nt h2) | skip
   refine go_seq ?_
   refine go_region 3 rfl rfl ?_
   refine s_val rfl rfl (r_buildA Tryz.zeroValue23 Tryz.runUnderlying23 Tryz.sizeOf5 (cs := bs (List.replicate 32 0)) (by kernel_rfl)) rfl ?_
   refine s_do rfl rfl (w_storeA (o := 0) Tryz.sizeOf23 rfl rfl (bs_len (by first | omega | (simp; try omega))) (flat_bs _) p6 (bs_len (by first | omega | (simp; try omega)))) rfl ?_
   rintro _ w16 ⟨q_w16, c_w16⟩
   have hs_w16 : w15.heap.size ≤ w16.heap.size := Chg.size c_w16
   replace p9 := p9.kb c_w16 (by omega)
   have C_w16 := Chg.newRng C_w15 c_w16 (by omega)
   have p6 := q_w16
   refine s_val rfl rfl (r_assign) rfl ?_
   refine s_end ?_
   refine go_ret (block_ret (loop_ret (block_ret ?_)))
   refine ⟨_, .cons ⟨_, rfl, run_load_agg Tryz.isAgg23 Tryz.sizeOf23 (bs_len (by first | omega | (simp; try omega))) p6.rd⟩ (.cons rfl (.nil)), ?_⟩
   have hm_ := saidF_none (ps := ps) (k := k) (by omega) (by omega)
   exact ⟨fun r_ h_ => (Option.some_ne_none _ (h_.symm.trans hm_)).elim, fun _ => rfl, C_w16⟩
  ·first | replace h2 := dcF h2 | replace h2 := dcT (nf h2) | skip
   refine go_skip ?_
   refine go_region 5 rfl rfl ?_
   refine s_val rfl rfl (r_move) rfl ?_
   refine s_val rfl rfl (r_move) rfl ?_
   refine s_val rfl rfl (r_conv_u8 Tryz.runUnderlying3 Tryz.runUnderlying5 rfl) rfl ?_
   refine s_val rfl rfl (r_indexArr (k := k) Tryz.runUnderlying23 Tryz.sizeOf5 rfl rfl (by first | rfl | omega) (by first | decide | omega)) rfl ?_
   refine s_do rfl rfl (w_set_b (o := 0) (k := k) Tryz.sizeOf5 rfl rfl p9 (by first | omega | (simp; try omega))) rfl ?_
   rintro _ w17 ⟨q_w17, c_w17⟩
   have hs_w17 : w15.heap.size ≤ w17.heap.size := Chg.size c_w17
   replace p6 := p6.kb c_w17 (by omega)
   have C_w17 := Chg.newRng C_w15 c_w17 (by omega)
   have p9 := q_w17
   refine s_end ?_
   refine go_nil (block_normal ?_)
   refine go_region 2 rfl rfl ?_
   refine s_val rfl rfl (r_addi rfl rfl (by omega)) rfl ?_
   refine s_val rfl rfl (r_move) rfl ?_
   refine s_end ?_
   refine go_nil (loop_normal ⟨⟨(k + 1), by first | omega | (dsimp only; omega), ⟨rfl, by omega, lt_step hz (by omega), p6, by omega, p9, by omega, C_w17⟩⟩, (by repeat (first | exact same_refl | exact same_over | refine same_upd rfl ?_ | refine same_over2 rfl ?_))⟩)
 ·first | replace h1 := dcF h1 | replace h1 := dcT (nf h1) | skip
  have ob_18 : k = 32 := by omega
  obtain rfl := ob_18
  refine go_exit (loop_exit (block_hit ?_))
  refine go_seq ?_
  refine go_region 3 rfl rfl ?_
  refine s_val rfl rfl (r_loadN Tryz.isAgg23 Tryz.sizeOf23 rfl p9.rd (bs_len (by first | omega | (simp; try omega)))) rfl ?_
  refine s_do rfl rfl (w_storeA (o := 0) Tryz.sizeOf23 rfl rfl (bs_len (by first | omega | (simp; try omega))) (flat_bs _) p6 (bs_len (by first | omega | (simp; try omega)))) rfl ?_
  rintro _ w19 ⟨q_w19, c_w19⟩
  have hs_w19 : w10.heap.size ≤ w19.heap.size := Chg.size c_w19
  replace p9 := p9.kb c_w19 (by omega)
  have C_w19 := Chg.newRng C_w10 c_w19 (by omega)
  have p6 := q_w19
  refine s_val rfl rfl (r_assign) rfl ?_
  refine s_end ?_
  refine go_ret ?_
  refine ⟨_, .cons ⟨_, rfl, run_load_agg Tryz.isAgg23 Tryz.sizeOf23 (bs_len (by first | omega | (simp; try omega))) p6.rd⟩ (.cons rfl (.nil)), ?_⟩
  have hm_ := saidF_some hz
  exact ⟨fun r_ h_ => congrArg (fun q_ => tup [Value.agg (bs q_).toArray, i64 0]) (Option.some.inj (hm_.symm.trans h_)), fun h_ => (Option.some_ne_none _ (hm_.symm.trans h_)).elim, C_w19⟩
end Go.Proofs.YtippcmedgfmgbaaGreat
end
section
open Go Go.Eng Go.Proofs
namespace Go.Proofs.YtippcmedgfmgbaaGreat
set_option maxHeartbeats 8000000 in
set_option maxRecDepth 100000 in
theorem mend_spec (S : List Shr) (a : Option Addr) (n c need : Nat) (w : World) (hn : S.length = n) (h0 : 0 < need) (hb : n ≤ 32) (hnd : need ≤ n) (hS : AllS S) (hx0 : ∀ s ∈ S, s.x ≠ 0) (hxn : (S.map (·.x)).Nodup) (hhn : (S.map (·.h)).Nodup) (hsl : SlAt w a (scells S)) :
  Rtn Tryz.prog 26 [i64 (need : Nat), Value.slice a n c].toArray w (fun v w' => (∀ r, mendP need S = some r → ∃ a' c', v = tup [.agg (bs r.1).toArray, .slice a' r.2.length c', i64 0] ∧ r.2.length ≤ c' ∧ r.1.length = 32 ∧ SlAt w' a' (bs r.2.flatten) ∧ (∀ x, a' = some x → w.heap.size ≤ x.block)) ∧ (mendP need S = none → v = tup [.agg (bs (List.replicate 32 0)).toArray, .slice none 0 0, i64 20]) ∧ Kept w w') := by
 have hpl := fun o_ => allTo_len hn hxn hnd (by omega) 32 o_ (Nat.le_refl _)
 refine fn_body (l := [i64 (need : Nat), Value.slice a n c]) 88 [.cell 4 23, .tmp 5, .tmp 6] Tryz.func26 rfl Tryz.ntmps26 (Nat.le_of_ble_eq_true rfl) (by rw [Tryz.results26]) ?_
 refine go_seq ?_
 refine go_region 3 rfl rfl ?_
 refine s_do rfl rfl (w_alloc (bs (List.replicate 32 0)) Tryz.zeroValue23 (by kernel_rfl)) rfl ?_
 rintro _ w1 ⟨b2, rfl, hl_b2, hu_b2, p3, c_w1⟩
 have hs_w1 : w.heap.size ≤ w1.heap.size := Chg.size c_w1
 have C_w1 := Chg.pure (Chg.refl no w) c_w1
 have hn_b2 : w.heap.size ≤ b2 := by have := Chg.size C_w1; omega
 refine s_val rfl rfl (r_assign) rfl ?_
 refine s_val rfl rfl (r_assign) rfl ?_
 refine s_end ?_
 refine go_seq ?_
 refine go_seq ?_
 refine go_region 4 rfl rfl ?_
 refine s_val rfl rfl (r_move) rfl ?_
 refine s_val rfl rfl (r_move) rfl ?_
 refine s_do rfl rfl (w_call Tryz.call50 rfl (checkShares_spec S _ _ _ need _ hn (by omega) (by omega) (by omega) hS hx0 hxn hhn (hsl.k C_w1))) rfl ?_
 rintro _ w4 ⟨rfl, c_w4⟩
 have hs_w4 : w1.heap.size ≤ w4.heap.size := Chg.size c_w4
 replace p3 := p3.k c_w4
 have C_w4 := Chg.pure C_w1 c_w4
 refine s_val rfl rfl (r_assign) rfl ?_
 refine s_end ?_
 refine go_seq ?_
 refine go_region 2 rfl rfl ?_
 refine s_val rfl rfl (r_move) rfl ?_
 refine s_val rfl rfl (r_neq rfl rfl) rfl ?_
 refine s_end ?_
 refine go_ifb _ rfl (fun h5 => ?_) (fun h5 => ?_)
 ·first | replace h5 := dcT h5 | replace h5 := dcF (nt h5) | skip
  exfalso
  omega
 ·first | replace h5 := dcF h5 | replace h5 := dcT (nf h5) | skip
  refine go_skip ?_
  refine go_seq ?_
  refine go_region 6 rfl rfl ?_
  refine s_val rfl rfl (r_move) rfl ?_
  refine s_val rfl rfl (r_len Tryz.runUnderlying26 rfl) rfl ?_
  refine s_val rfl rfl (r_move) rfl ?_
  refine s_val rfl rfl (r_subi rfl rfl (by omega)) rfl ?_
  refine s_val rfl rfl (r_quo2 (m := n - need) rfl rfl (by omega) (by omega)) rfl ?_
  refine s_val rfl rfl (r_assign) rfl ?_
  refine s_end ?_
  refine go_seq ?_
  refine go_region 1 rfl rfl ?_
  refine s_do rfl rfl (w_alloc (List.replicate 32 (.slice none 0 0)) Tryz.zeroValue64 (by kernel_rfl)) rfl ?_
  rintro _ w6 ⟨b7, rfl, hl_b7, hu_b7, p8, c_w6⟩
  have hs_w6 : w4.heap.size ≤ w6.heap.size := Chg.size c_w6
  replace p3 := p3.k c_w6
  have C_w6 := Chg.pure C_w4 c_w6
  have hn_b7 : w.heap.size ≤ b7 := by have := Chg.size C_w6; omega
  refine s_end ?_
  refine go_seq ?_
  refine go_seq ?_
  refine go_region 1 rfl rfl ?_
  refine s_val rfl rfl (r_move) rfl ?_
  refine s_end ?_
  refine go_block ?_
  refine go_loopM (σ := Nat × List Value) [(5, 6), (10, 14), (32, 55)] (fun (x_ : Nat × List Value) e' w' => match x_ with | (o, vs) => e' 32 = i64 (o : Nat) ∧ o ≤ 32 ∧ vs.length = 32 ∧ (∀ q, q < o → (mendF need ((n - need) / 2) (ptsOf S q)).isSome = true) ∧ Pc w' b7 0 vs ∧ PolOk (fun b_ => w6.heap.size ≤ b_) w' vs (allTo need ((n - need) / 2) S o) ∧ b7 < w6.heap.size ∧ w6.heap.size ≤ w'.heap.size ∧ b2 < w6.heap.size ∧ Pc w' b2 0 (bs (List.replicate 32 0)) ∧ b2 < w'.heap.size ∧ Chg no w w') (fun (x_ : Nat × List Value) => match x_ with | (o, vs) => 32 - o) (0, List.replicate 32 (.slice none 0 0)) ?_ ?_
  ·exact ⟨rfl, by omega, by simp, (fun q h_ => absurd h_ (Nat.not_lt_zero q)), p8, PolOk.start _ 32, by omega, by omega, by omega, p3, by omega, C_w6⟩
  rintro ⟨o, vs⟩ f10 w9 ⟨e11, ho, hvl, hall, hP9, hpol, hu9, hcw0, hu40, p3, hu_b2, C_w9⟩
  have ob_13 : ∃ g_, f10 = upd g_ 32 (i64 (o : Nat)) := ⟨f10, upd_id e11⟩
  obtain ⟨f12, rfl⟩ := ob_13
  clear e11
  have hs_w9 : w.heap.size ≤ w9.heap.size := Chg.size C_w9
  refine go_seq ?_
  refine go_region 1 rfl rfl ?_
  refine s_val rfl rfl (r_lss rfl rfl) rfl ?_
  refine s_end ?_
  refine go_seq ?_
  refine go_ifb _ rfl (fun h1 => ?_) (fun h1 => ?_)
  ·first | replace h1 := dcT h1 | replace h1 := dcF (nt h1) | skip
   refine go_skip ?_
   refine go_seq ?_
   refine go_block ?_
   refine go_seq ?_
   refine go_region 2 rfl rfl ?_
   refine s_val rfl rfl (r_move) rfl ?_
   refine s_val rfl rfl (r_assign) rfl ?_
   refine s_end ?_
   refine go_seq ?_
   refine go_region 8 rfl rfl ?_
   refine s_val rfl rfl (r_move) rfl ?_
   refine s_val rfl rfl (r_move) rfl ?_
   refine s_do rfl rfl (w_call Tryz.call51 rfl (points_spec S _ _ _ o _ hn (by omega) (by omega) hS (hsl.k C_w9))) rfl ?_
   rintro _ w14 ⟨aX, cX, aY, cY, rfl, hcX, hcY, hqX, hqY, hX, hY, c_w14⟩
   have hs_w14 : w9.heap.size ≤ w14.heap.size := Chg.size c_w14
   replace hP9 := hP9.k c_w14
   replace hpol := hpol.k c_w14
   replace p3 := p3.k c_w14
   have C_w14 := Chg.pure C_w9 c_w14
   refine s_val rfl rfl (r_move) rfl ?_
   refine s_val rfl rfl (r_extract rfl rfl) rfl ?_
   refine s_val rfl rfl (r_extract rfl rfl) rfl ?_
   refine s_val rfl rfl (r_assign) rfl ?_
   refine s_val rfl rfl (r_assign) rfl ?_
   refine s_end ?_
   refine go_seq ?_
   refine go_region 10 rfl rfl ?_
   refine s_val rfl rfl (r_move) rfl ?_
   refine s_val rfl rfl (r_move) rfl ?_
   refine s_val rfl rfl (r_move) rfl ?_
   refine s_val rfl rfl (r_move) rfl ?_
   have hmd_ : mendF need ((n - need) / 2) (pts2 (S.map (·.x)) (S.map fun s => s.y.getD o 0) n) = none ∨ ∃ p_, mendF need ((n - need) / 2) (pts2 (S.map (·.x)) (S.map fun s => s.y.getD o 0) n) = some p_ := by cases mendF need ((n - need) / 2) (pts2 (S.map (·.x)) (S.map fun s => s.y.getD o 0) n) with | none => exact .inl rfl | some p_ => exact .inr ⟨p_, rfl⟩
   have hcall_ := mended_spec (S.map (·.x)) (S.map fun s => s.y.getD o 0) aX aY n cX cY need ((n - need) / 2) w14 (by rw [List.length_map]; exact hn) (by rw [List.length_map]; exact hn) (by omega) (by omega) (by omega) (by omega) hX hY
   refine s_do rfl rfl (w_call Tryz.call52 rfl hcall_) rfl ?_
   rintro v16 w15 ⟨hpS_, hpN_, c_w15⟩
   have hs_w15 : w14.heap.size ≤ w15.heap.size := Chg.size c_w15
   replace hP9 := hP9.k c_w15
   replace hpol := hpol.k c_w15
   replace p3 := p3.k c_w15
   have C_w15 := Chg.pure C_w14 c_w15
   clear hcall_
   rcases hmd_ with hmd | ⟨pM, hmd⟩
   ·skip
    have ob_17 := hpN_ hmd
    obtain ⟨aM, mM, cM, hv_⟩ := ob_17
    subst hv_
    clear hpS_ hpN_
    rw [pts2_ptsOf hn] at hmd
    skip
    refine s_val rfl rfl (r_move) rfl ?_
    refine s_val rfl rfl (r_extract rfl rfl) rfl ?_
    refine s_val rfl rfl (r_extract rfl rfl) rfl ?_
    refine s_val rfl rfl (r_assign) rfl ?_
    refine s_val rfl rfl (r_assign) rfl ?_
    refine s_end ?_
    refine go_seq ?_
    refine go_seq ?_
    refine go_region 2 rfl rfl ?_
    refine s_val rfl rfl (r_move) rfl ?_
    refine s_val rfl rfl (r_not rfl) rfl ?_
    refine s_end ?_
    refine go_true rfl ?_
    refine go_seq ?_
    refine go_region 4 rfl rfl ?_
    refine s_val rfl rfl (r_buildA Tryz.zeroValue23 Tryz.runUnderlying23 Tryz.sizeOf5 (cs := bs (List.replicate 32 0)) (by kernel_rfl)) rfl ?_
    refine s_do rfl rfl (w_storeA (o := 0) Tryz.sizeOf23 rfl rfl (bs_len (by first | omega | (simp; try omega))) (flat_bs _) p3 (bs_len (by first | omega | (simp; try omega)))) rfl ?_
    rintro _ w18 ⟨q_w18, c_w18⟩
    have hs_w18 : w15.heap.size ≤ w18.heap.size := Chg.size c_w18
    replace hP9 := hP9.kb c_w18 (by omega)
    replace hpol := hpol.kb c_w18 (fun h_ => by first | omega | (simp only at h_; omega))
    have C_w18 := Chg.newRng C_w15 c_w18 (by omega)
    have p3 := q_w18
    refine s_val rfl rfl (r_assign) rfl ?_
    refine s_val rfl rfl (r_assign) rfl ?_
    refine s_end ?_
    refine go_ret (block_ret (loop_ret (block_ret ?_)))
    refine ⟨_, .cons ⟨_, rfl, run_load_agg Tryz.isAgg23 Tryz.sizeOf23 (bs_len (by first | omega | (simp; try omega))) p3.rd⟩ (.cons rfl (.cons rfl (.nil))), ?_⟩
    have hm_ := mendP_none1 hn (by omega) hmd
    exact ⟨fun r_ h_ => (Option.some_ne_none _ (h_.symm.trans hm_)).elim, fun _ => rfl, C_w18⟩
   ·skip
    have ob_19 := hpS_ _ hmd
    obtain ⟨aM, cM, hv_, hcM, hlM, hqM, hM⟩ := ob_19
    subst hv_
    clear hpS_ hpN_
    rw [pts2_ptsOf hn] at hmd
    have hM_lt : ∀ x_, aM = some x_ → x_.block < _ := fun x_ hx_ => SlAt.blk hM (fs_ne (by omega)) x_ hx_
    refine s_val rfl rfl (r_move) rfl ?_
    refine s_val rfl rfl (r_extract rfl rfl) rfl ?_
    refine s_val rfl rfl (r_extract rfl rfl) rfl ?_
    refine s_val rfl rfl (r_assign) rfl ?_
    refine s_val rfl rfl (r_assign) rfl ?_
    refine s_end ?_
    refine go_seq ?_
    refine go_seq ?_
    refine go_region 2 rfl rfl ?_
    refine s_val rfl rfl (r_move) rfl ?_
    refine s_val rfl rfl (r_not rfl) rfl ?_
    refine s_end ?_
    refine go_false rfl ?_
    refine go_skip ?_
    refine go_region 4 rfl rfl ?_
    refine s_val rfl rfl (r_move) rfl ?_
    refine s_val rfl rfl (r_move) rfl ?_
    refine s_val rfl rfl (r_indexArr (k := o) Tryz.runUnderlying64 Tryz.sizeOf63 rfl rfl (by first | rfl | omega) (by first | decide | omega)) rfl ?_
    refine s_do rfl rfl (w_set_one (k := o) (v := (Value.slice aM need cM)) (cs := vs) Tryz.sizeOf63 rfl rfl rfl rfl hP9 (by first | omega | (simp; omega))) rfl ?_
    rintro _ w20 ⟨q_w20, c_w20⟩
    have hs_w20 : w15.heap.size ≤ w20.heap.size := Chg.size c_w20
    replace hpol := hpol.kb c_w20 (fun h_ => by first | omega | (simp only at h_; omega))
    replace p3 := p3.kb c_w20 (by omega)
    replace hM := SlAt.kb hM c_w20 (fun b_ o_ ha_ => by have := hqM _ ha_; simp only at this; omega)
    have C_w20 := Chg.newRng C_w15 c_w20 (by omega)
    have hP9 := q_w20
    have hpol2 := hpol.set (k := o) (a := aM) (n := need) (c := cM) (p := pM) hlM hcM (fun x_ hx_ => ⟨by have h1_ := hqM x_ hx_; omega, by have h2_ := hM_lt x_ hx_; omega⟩) hM
    refine s_end ?_
    refine go_nil (block_normal ?_)
    refine go_region 2 rfl rfl ?_
    refine s_val rfl rfl (r_addi rfl rfl (by omega)) rfl ?_
    refine s_val rfl rfl (r_move) rfl ?_
    refine s_end ?_
    refine go_nil (loop_normal ⟨⟨(o + 1, vs.set o (Value.slice aM need cM)), by first | omega | (dsimp only; omega), ⟨rfl, by omega, by rw [List.length_set]; exact hvl, lt_step hall (by rw [hmd]; rfl), hP9, by rw [allTo, map_some_getD hmd]; exact hpol2, by omega, by omega, by omega, p3, by omega, C_w20⟩⟩, (by repeat (first | exact same_refl | exact same_over | refine same_upd rfl ?_ | refine same_over2 rfl ?_))⟩)
  ·first | replace h1 := dcF h1 | replace h1 := dcT (nf h1) | skip
   have ob_21 : o = 32 := by omega
   obtain rfl := ob_21
   refine go_exit (loop_exit (block_hit ?_))
   refine go_seq ?_
   refine go_region 1 rfl rfl ?_
   refine s_val rfl rfl (r_assign) rfl ?_
   refine s_end ?_
   refine go_seq ?_
   refine go_seq ?_
   refine go_region 3 rfl rfl ?_
   refine s_val rfl rfl (r_move) rfl ?_
   refine s_val rfl rfl (r_len Tryz.runUnderlying26 rfl) rfl ?_
   refine s_val rfl rfl (r_move) rfl ?_
   refine s_end ?_
   refine go_block ?_
   replace hpol := hpol.mono (Q' := fun b_ => w6.heap.size ≤ b_ ∧ b_ < w9.heap.size) (fun b_ h_ h2_ => ⟨h2_, h_⟩)
   refine go_loopM (σ := Nat × Option Addr × Nat × Nat) [(15, 15), (17, 17), (58, 71)] (fun (x_ : Nat × Option Addr × Nat × Nat) e' w' => match x_ with | (k, a5, n5, c5) => e' 58 = i64 (k : Nat) ∧ e' 15 = Value.slice a5 n5 c5 ∧ k ≤ n ∧ n5 = (faultL (allTo need ((n - need) / 2) S 32) (S.take k)).length ∧ w9.heap.size ≤ w'.heap.size ∧ Owns w' w9.heap.size 37 16 (Value.slice a5 n5 c5) n5 (bs (faultL (allTo need ((n - need) / 2) S 32) (S.take k)).flatten) ∧ n5 ≤ c5 ∧ Pc w' b7 0 vs ∧ PolOk (fun b_ => w6.heap.size ≤ b_ ∧ b_ < w9.heap.size) w' vs (allTo need ((n - need) / 2) S 32) ∧ b7 < w6.heap.size ∧ b2 < w6.heap.size ∧ w6.heap.size ≤ w9.heap.size ∧ Pc w' b2 0 (bs (List.replicate 32 0)) ∧ b2 < w'.heap.size ∧ Chg no w w') (fun (x_ : Nat × Option Addr × Nat × Nat) => match x_ with | (k, a5, n5, c5) => n - k) (0, none, 0, 0) ?_ ?_
   ·exact ⟨rfl, rfl, by omega, rfl, by omega, Owns.nil _ _ _ _, by omega, hP9, hpol, by omega, by omega, by omega, p3, by omega, C_w9⟩
   rintro ⟨k, a5, n5, c5⟩ f23 w22 ⟨e24, e25, hk, hn5, hB_ho15, ho15, hc5, hP9, hpol, hu9, hu40, hcw1, p3, hu_b2, C_w22⟩
   have ob_27 : ∃ g_, f23 = upd g_ 58 (i64 (k : Nat)) := ⟨f23, upd_id e24⟩
   obtain ⟨f26, rfl⟩ := ob_27
   have ob_29 : ∃ g_, f26 = upd g_ 15 (Value.slice a5 n5 c5) := ⟨f26, upd_id e25⟩
   obtain ⟨f28, rfl⟩ := ob_29
   clear e24 e25
   have hs_w22 : w.heap.size ≤ w22.heap.size := Chg.size C_w22
   have hfl_ := faultL_le (allTo need ((n - need) / 2) S 32) S k
   refine go_seq ?_
   refine go_region 1 rfl rfl ?_
   refine s_val rfl rfl (r_lss rfl rfl) rfl ?_
   refine s_end ?_
   refine go_seq ?_
   refine go_ifb _ rfl (fun h4 => ?_) (fun h4 => ?_)
   ·first | replace h4 := dcT h4 | replace h4 := dcF (nt h4) | skip
    refine go_skip ?_
    refine go_seq ?_
    refine go_block ?_
    refine go_seq ?_
    refine go_region 4 rfl rfl ?_
    refine s_val rfl rfl (r_indexSl (k := k) Tryz.runUnderlying26 Tryz.sizeOf40 rfl (hsl.k C_w22) (scells_ne hS (by first | omega | (simp; omega))) rfl (by first | rfl | omega) (by omega)) rfl ?_
    refine s_val rfl rfl (r_loadSlN Tryz.isAgg40 Tryz.sizeOf40 rfl (hsl.k C_w22) (scell_len (AllS.get hS k)) (scells_ne hS (by first | omega | (simp; omega))) (scells_get hS (by first | omega | (simp; omega)))) rfl ?_
    refine s_do rfl rfl (w_alloc (scell shr0) Tryz.zeroValue40 (by kernel_rfl)) rfl ?_
    rintro _ w30 ⟨b31, rfl, hl_b31, hu_b31, p32, c_w30⟩
    have ne_b31_ho15 := Owns.ne_ge ho15 hl_b31
    have hs_w30 : w22.heap.size ≤ w30.heap.size := Chg.size c_w30
    replace ho15 := ho15.k c_w30
    replace hP9 := hP9.k c_w30
    replace hpol := hpol.k c_w30
    replace p3 := p3.k c_w30
    have C_w30 := Chg.pure C_w22 c_w30
    have hn_b31 : w.heap.size ≤ b31 := by have := Chg.size C_w30; omega
    refine s_do rfl rfl (w_storeA (o := 0) (cs := scell (S.getD k shr0)) Tryz.sizeOf40 rfl rfl (scell_len (AllS.get hS k)) (flat_scell _) p32 (scell_len shr0_ok)) rfl ?_
    rintro _ w33 ⟨q_w33, c_w33⟩
    have hs_w33 : w30.heap.size ≤ w33.heap.size := Chg.size c_w33
    replace ho15 := ho15.kb c_w33 ne_b31_ho15
    replace hP9 := hP9.kb c_w33 (by omega)
    replace hpol := hpol.kb c_w33 (fun h_ => by first | omega | (simp only at h_; omega))
    replace p3 := p3.kb c_w33 (by omega)
    have C_w33 := Chg.newRng C_w30 c_w33 (by omega)
    have p34 : Pc w33 b31 0 (bs (S.getD k shr0).h) := Pc.shrH q_w33
    have hlH_p34 : ((S.getD k shr0).h).length = 16 := (AllS.get hS k).1
    have p35 : Pc w33 b31 16 [fi (S.getD k shr0).x] := Pc.shrX q_w33 (AllS.get hS k)
    have p36 : Pc w33 b31 17 (us (S.getD k shr0).y) := Pc.shrY q_w33 (AllS.get hS k)
    have hlY_p36 : ((S.getD k shr0).y).length = 32 := (AllS.get hS k).2
    clear q_w33
    refine s_end ?_
    refine go_seq ?_
    refine go_region 4 rfl rfl ?_
    refine s_val rfl rfl (r_loadN Tryz.isAgg64 Tryz.sizeOf64 rfl hP9.rd hvl) rfl ?_
    refine s_val rfl rfl (r_loadN Tryz.isAgg40 Tryz.sizeOf40 rfl (Rd.shrAll (AllS.get hS k) p34.rd p35.rd p36.rd) (scell_len (AllS.get hS k))) rfl ?_
    refine s_do rfl rfl (w_call Tryz.call53 rfl (lies_spec vs (allTo need ((n - need) / 2) S 32) _ (S.getD k shr0) _ hvl hpol hpl (AllS.get hS k))) rfl ?_
    rintro _ w37 ⟨rfl, c_w37⟩
    have hs_w37 : w33.heap.size ≤ w37.heap.size := Chg.size c_w37
    replace ho15 := ho15.k c_w37
    replace hP9 := hP9.k c_w37
    replace hpol := hpol.k c_w37
    replace p3 := p3.k c_w37
    replace p34 := p34.k c_w37
    replace p35 := p35.k c_w37
    replace p36 := p36.k c_w37
    have C_w37 := Chg.pure C_w33 c_w37
    refine s_val rfl rfl (r_not rfl) rfl ?_
    refine s_end ?_
    refine go_ifb _ rfl (fun h5 => ?_) (fun h5 => ?_)
    ·skip
     replace h5 : liesP (allTo need ((n - need) / 2) S 32) (S.getD k shr0) = false := not_t h5
     refine go_region 6 rfl rfl ?_
     refine s_val rfl rfl (r_move) rfl ?_
     refine s_val rfl rfl (r_fieldAddr Tryz.runUnderlying40 rfl Tryz.sizeOf37 rfl rfl) rfl ?_
     refine s_val rfl rfl (r_loadN Tryz.isAgg37 Tryz.sizeOf37 rfl p34.rd (bs_len (by first | omega | (simp; try omega)))) rfl ?_
     refine s_do rfl rfl (w_buildA1 (E := 37) (sz := 16) Tryz.underlying24 (i := Tryz.t37) (by kernel_rfl) rfl rfl rfl rfl rfl rfl (bs_len (by first | omega | (simp; try omega)))) rfl ?_
     rintro _ w38 ⟨b39, rfl, hl_b39, hu_b39, o41, p40, c_w38⟩
     have ne_b39_ho15 := Owns.ne_ge ho15 hl_b39
     have hs_w38 : w37.heap.size ≤ w38.heap.size := Chg.size c_w38
     replace ho15 := ho15.k c_w38
     replace hP9 := hP9.k c_w38
     replace hpol := hpol.k c_w38
     replace p3 := p3.k c_w38
     replace p34 := p34.k c_w38
     replace p35 := p35.k c_w38
     replace p36 := p36.k c_w38
     have C_w38 := Chg.pure C_w37 c_w38
     have hn_b39 : w.heap.size ≤ b39 := by have := Chg.size C_w38; omega
     refine s_do rfl rfl (w_append (E := 37) (sz := 16) Tryz.underlying24 rfl (i := Tryz.t37) (by kernel_rfl) rfl rfl rfl rfl (by rfl) ho15 rfl (SlAt.some p40.rd) (by first | (rw [bs_length]; omega) | (simp [bs_length]; done) | (simp [bs_length]; omega) | rfl) (flat_bs _) (by omega) (by show _ * 16 ≤ _; omega) (by omega)) rfl ?_
     rintro v46 w42 ⟨o43, c_w42⟩
     have hs_w42 : w38.heap.size ≤ w42.heap.size := Chg.size c_w42
     replace hP9 := hP9.kob c_w42 (Owns.ne_lt ho15 (by omega))
     replace hpol := hpol.kob c_w42 (fun b_ h_ => Owns.ne_lt ho15 (by first | omega | (simp only at h_; omega)))
     replace p3 := p3.kob c_w42 (Owns.ne_lt ho15 (by omega))
     replace p34 := p34.kob c_w42 ne_b31_ho15
     replace p35 := p35.kob c_w42 ne_b31_ho15
     replace p36 := p36.kob c_w42 ne_b31_ho15
     replace p40 := p40.kob c_w42 ne_b39_ho15
     have C_w42 := Chg.newOb C_w38 c_w42 ho15 (by omega)
     have hfo_o43 := Owns.form2 o43
     obtain ⟨A44, cap45, e_o43, hc_cap45⟩ := hfo_o43
     subst e_o43
     replace o43 := Owns.appB o43
     refine s_val rfl rfl (r_assign) rfl ?_
     refine s_end ?_
     refine go_nil (block_normal ?_)
     refine go_region 2 rfl rfl ?_
     refine s_val rfl rfl (r_addi rfl rfl (by omega)) rfl ?_
     refine s_val rfl rfl (r_move) rfl ?_
     refine s_end ?_
     refine go_nil (loop_normal ⟨⟨(k + 1, A44, n5 + 1, cap45), by first | omega | (dsimp only; omega), ⟨rfl, rfl, by omega, by rw [faultL_t (by omega) h5, List.length_append, ← hn5]; rfl, by omega, by rw [faultL_t (by omega) h5, List.flatten_append]; simpa using o43, by omega, hP9, hpol, by omega, by omega, by omega, p3, by omega, C_w42⟩⟩, (by repeat (first | exact same_refl | exact same_over | refine same_upd rfl ?_ | refine same_over2 rfl ?_))⟩)
    ·skip
     replace h5 : liesP (allTo need ((n - need) / 2) S 32) (S.getD k shr0) = true := not_f h5
     refine go_skip ?_
     refine go_nil (block_normal ?_)
     refine go_region 2 rfl rfl ?_
     refine s_val rfl rfl (r_addi rfl rfl (by omega)) rfl ?_
     refine s_val rfl rfl (r_move) rfl ?_
     refine s_end ?_
     refine go_nil (loop_normal ⟨⟨(k + 1, a5, n5, c5), by first | omega | (dsimp only; omega), ⟨rfl, rfl, by omega, by rw [faultL_f (by omega) h5]; exact hn5, by omega, by rw [faultL_f (by omega) h5]; exact ho15, by omega, hP9, hpol, by omega, by omega, by omega, p3, by omega, C_w37⟩⟩, (by repeat (first | exact same_refl | exact same_over | refine same_upd rfl ?_ | refine same_over2 rfl ?_))⟩)
   ·first | replace h4 := dcF h4 | replace h4 := dcT (nf h4) | skip
    have hkn : k = n := by omega
    rw [List.take_of_length_le (by omega)] at ho15 hn5
    refine go_exit (loop_exit (block_hit ?_))
    refine go_seq ?_
    refine go_seq ?_
    refine go_region 4 rfl rfl ?_
    refine s_val rfl rfl (r_move) rfl ?_
    refine s_val rfl rfl (r_len Tryz.runUnderlying24 rfl) rfl ?_
    refine s_val rfl rfl (r_move) rfl ?_
    refine s_val rfl rfl (r_gtr rfl rfl) rfl ?_
    refine s_end ?_
    refine go_ifb _ rfl (fun h7 => ?_) (fun h7 => ?_)
    ·first | replace h7 := dcT h7 | replace h7 := dcF (nt h7) | skip
     refine go_seq ?_
     refine go_region 4 rfl rfl ?_
     refine s_val rfl rfl (r_buildA Tryz.zeroValue23 Tryz.runUnderlying23 Tryz.sizeOf5 (cs := bs (List.replicate 32 0)) (by kernel_rfl)) rfl ?_
     refine s_do rfl rfl (w_storeA (o := 0) Tryz.sizeOf23 rfl rfl (bs_len (by first | omega | (simp; try omega))) (flat_bs _) p3 (bs_len (by first | omega | (simp; try omega)))) rfl ?_
     rintro _ w47 ⟨q_w47, c_w47⟩
     have hs_w47 : w22.heap.size ≤ w47.heap.size := Chg.size c_w47
     replace ho15 := ho15.kb c_w47 (Owns.ne_lt ho15 (by omega))
     replace hP9 := hP9.kb c_w47 (by omega)
     replace hpol := hpol.kb c_w47 (fun h_ => by first | omega | (simp only at h_; omega))
     have C_w47 := Chg.newRng C_w22 c_w47 (by omega)
     have p3 := q_w47
     refine s_val rfl rfl (r_assign) rfl ?_
     refine s_val rfl rfl (r_assign) rfl ?_
     refine s_end ?_
     refine go_ret ?_
     refine ⟨_, .cons ⟨_, rfl, run_load_agg Tryz.isAgg23 Tryz.sizeOf23 (bs_len (by first | omega | (simp; try omega))) p3.rd⟩ (.cons rfl (.cons rfl (.nil))), ?_⟩
     have hm_ := mendP_none2 hn hall (by omega)
     exact ⟨fun r_ h_ => (Option.some_ne_none _ (h_.symm.trans hm_)).elim, fun _ => rfl, C_w47⟩
    ·first | replace h7 := dcF h7 | replace h7 := dcT (nf h7) | skip
     refine go_skip ?_
     refine go_seq ?_
     refine go_region 8 rfl rfl ?_
     refine s_val rfl rfl (r_loadN Tryz.isAgg64 Tryz.sizeOf64 rfl hP9.rd hvl) rfl ?_
     have hsd_ : saidF (allTo need ((n - need) / 2) S 32) = none ∨ ∃ k_, saidF (allTo need ((n - need) / 2) S 32) = some k_ := by cases saidF (allTo need ((n - need) / 2) S 32) with | none => exact .inl rfl | some p_ => exact .inr ⟨p_, rfl⟩
     refine s_do rfl rfl (w_call Tryz.call54 rfl (said_spec vs (allTo need ((n - need) / 2) S 32) _ _ hvl hpol hpl)) rfl ?_
     rintro v49 w48 ⟨hpS_, hpN_, c_w48⟩
     have hs_w48 : w22.heap.size ≤ w48.heap.size := Chg.size c_w48
     replace ho15 := ho15.k c_w48
     replace hP9 := hP9.k c_w48
     replace hpol := hpol.k c_w48
     replace p3 := p3.k c_w48
     have C_w48 := Chg.pure C_w22 c_w48
     rcases hsd_ with hsd | ⟨kS, hsd⟩
     ·skip
      have hp_ := hpN_ hsd
      clear hpS_ hpN_
      subst hp_
      skip
      refine s_val rfl rfl (r_move) rfl ?_
      refine s_val rfl rfl (r_extract rfl rfl) rfl ?_
      refine s_val rfl rfl (r_extract rfl rfl) rfl ?_
      refine s_do rfl rfl (w_alloc (bs (List.replicate 32 0)) Tryz.zeroValue23 (by kernel_rfl)) rfl ?_
      rintro _ w50 ⟨b51, rfl, hl_b51, hu_b51, p52, c_w50⟩
      have ne_b51_ho15 := Owns.ne_ge ho15 hl_b51
      have hs_w50 : w48.heap.size ≤ w50.heap.size := Chg.size c_w50
      replace ho15 := ho15.k c_w50
      replace hP9 := hP9.k c_w50
      replace hpol := hpol.k c_w50
      replace p3 := p3.k c_w50
      have C_w50 := Chg.pure C_w48 c_w50
      have hn_b51 : w.heap.size ≤ b51 := by have := Chg.size C_w50; omega
      refine s_do rfl rfl (w_storeA (o := 0) Tryz.sizeOf23 rfl rfl (bs_len (by first | omega | (simp; try omega))) (flat_bs _) p52 (bs_len (by first | omega | (simp; try omega)))) rfl ?_
      rintro _ w53 ⟨q_w53, c_w53⟩
      have hs_w53 : w50.heap.size ≤ w53.heap.size := Chg.size c_w53
      replace ho15 := ho15.kb c_w53 ne_b51_ho15
      replace hP9 := hP9.kb c_w53 (by omega)
      replace hpol := hpol.kb c_w53 (fun h_ => by first | omega | (simp only at h_; omega))
      replace p3 := p3.kb c_w53 (by omega)
      have C_w53 := Chg.newRng C_w50 c_w53 (by omega)
      have p52 := q_w53
      refine s_val rfl rfl (r_assign) rfl ?_
      refine s_end ?_
      refine go_seq ?_
      refine go_seq ?_
      refine go_region 2 rfl rfl ?_
      refine s_val rfl rfl (r_move) rfl ?_
      refine s_val rfl rfl (r_neq rfl rfl) rfl ?_
      refine s_end ?_
      refine go_ifb _ rfl (fun h54 => ?_) (fun h54 => ?_)
      ·first | replace h54 := dcT h54 | replace h54 := dcF (nt h54) | skip
       refine go_seq ?_
       refine go_region 5 rfl rfl ?_
       refine s_val rfl rfl (r_buildA Tryz.zeroValue23 Tryz.runUnderlying23 Tryz.sizeOf5 (cs := bs (List.replicate 32 0)) (by kernel_rfl)) rfl ?_
       refine s_val rfl rfl (r_move) rfl ?_
       refine s_do rfl rfl (w_storeA (o := 0) Tryz.sizeOf23 rfl rfl (bs_len (by first | omega | (simp; try omega))) (flat_bs _) p3 (bs_len (by first | omega | (simp; try omega)))) rfl ?_
       rintro _ w55 ⟨q_w55, c_w55⟩
       have hs_w55 : w53.heap.size ≤ w55.heap.size := Chg.size c_w55
       replace ho15 := ho15.kb c_w55 (Owns.ne_lt ho15 (by omega))
       replace hP9 := hP9.kb c_w55 (by omega)
       replace hpol := hpol.kb c_w55 (fun h_ => by first | omega | (simp only at h_; omega))
       replace p52 := p52.kb c_w55 (by omega)
       have C_w55 := Chg.newRng C_w53 c_w55 (by omega)
       have p3 := q_w55
       refine s_val rfl rfl (r_assign) rfl ?_
       refine s_val rfl rfl (r_assign) rfl ?_
       refine s_end ?_
       refine go_ret ?_
       refine ⟨_, .cons ⟨_, rfl, run_load_agg Tryz.isAgg23 Tryz.sizeOf23 (bs_len (by first | omega | (simp; try omega))) p3.rd⟩ (.cons rfl (.cons rfl (.nil))), ?_⟩
       have hm_ := mendP_none3 hn hall (by omega) hsd
       exact ⟨fun r_ h_ => (Option.some_ne_none _ (h_.symm.trans hm_)).elim, fun _ => rfl, C_w55⟩
      ·first | replace h54 := dcF h54 | replace h54 := dcT (nf h54) | skip
       exfalso
       omega
     ·skip
      have hp_ := hpS_ _ hsd
      clear hpS_ hpN_
      subst hp_
      have hkS : kS.length = 32 := saidF_len hsd
      skip
      refine s_val rfl rfl (r_move) rfl ?_
      refine s_val rfl rfl (r_extract rfl rfl) rfl ?_
      refine s_val rfl rfl (r_extract rfl rfl) rfl ?_
      refine s_do rfl rfl (w_alloc (bs (List.replicate 32 0)) Tryz.zeroValue23 (by kernel_rfl)) rfl ?_
      rintro _ w56 ⟨b57, rfl, hl_b57, hu_b57, p58, c_w56⟩
      have ne_b57_ho15 := Owns.ne_ge ho15 hl_b57
      have hs_w56 : w48.heap.size ≤ w56.heap.size := Chg.size c_w56
      replace ho15 := ho15.k c_w56
      replace hP9 := hP9.k c_w56
      replace hpol := hpol.k c_w56
      replace p3 := p3.k c_w56
      have C_w56 := Chg.pure C_w48 c_w56
      have hn_b57 : w.heap.size ≤ b57 := by have := Chg.size C_w56; omega
      refine s_do rfl rfl (w_storeA (o := 0) Tryz.sizeOf23 rfl rfl (bs_len (by first | omega | (simp; try omega))) (flat_bs _) p58 (bs_len (by first | omega | (simp; try omega)))) rfl ?_
      rintro _ w59 ⟨q_w59, c_w59⟩
      have hs_w59 : w56.heap.size ≤ w59.heap.size := Chg.size c_w59
      replace ho15 := ho15.kb c_w59 ne_b57_ho15
      replace hP9 := hP9.kb c_w59 (by omega)
      replace hpol := hpol.kb c_w59 (fun h_ => by first | omega | (simp only at h_; omega))
      replace p3 := p3.kb c_w59 (by omega)
      have C_w59 := Chg.newRng C_w56 c_w59 (by omega)
      have p58 := q_w59
      refine s_val rfl rfl (r_assign) rfl ?_
      refine s_end ?_
      refine go_seq ?_
      refine go_seq ?_
      refine go_region 2 rfl rfl ?_
      refine s_val rfl rfl (r_move) rfl ?_
      refine s_val rfl rfl (r_neq rfl rfl) rfl ?_
      refine s_end ?_
      refine go_ifb _ rfl (fun h60 => ?_) (fun h60 => ?_)
      ·first | replace h60 := dcT h60 | replace h60 := dcF (nt h60) | skip
       exfalso
       omega
      ·first | replace h60 := dcF h60 | replace h60 := dcT (nf h60) | skip
       refine go_skip ?_
       refine go_seq ?_
       refine go_region 5 rfl rfl ?_
       refine s_val rfl rfl (r_loadN Tryz.isAgg23 Tryz.sizeOf23 rfl p58.rd (bs_len (by first | omega | (simp; try omega)))) rfl ?_
       refine s_val rfl rfl (r_move) rfl ?_
       refine s_do rfl rfl (w_storeA (o := 0) Tryz.sizeOf23 rfl rfl (bs_len (by first | omega | (simp; try omega))) (flat_bs _) p3 (bs_len (by first | omega | (simp; try omega)))) rfl ?_
       rintro _ w61 ⟨q_w61, c_w61⟩
       have hs_w61 : w59.heap.size ≤ w61.heap.size := Chg.size c_w61
       replace ho15 := ho15.kb c_w61 (Owns.ne_lt ho15 (by omega))
       replace hP9 := hP9.kb c_w61 (by omega)
       replace hpol := hpol.kb c_w61 (fun h_ => by first | omega | (simp only at h_; omega))
       replace p58 := p58.kb c_w61 (by omega)
       have C_w61 := Chg.newRng C_w59 c_w61 (by omega)
       have p3 := q_w61
       refine s_val rfl rfl (r_assign) rfl ?_
       refine s_val rfl rfl (r_assign) rfl ?_
       refine s_end ?_
       refine go_ret ?_
       refine ⟨_, .cons ⟨_, rfl, run_load_agg Tryz.isAgg23 Tryz.sizeOf23 (bs_len (by first | omega | (simp; try omega))) p3.rd⟩ (.cons rfl (.cons rfl (.nil))), ?_⟩
       have hm_ := mendP_some hn hall (by omega) hsd
       refine ⟨fun r_ h_ => ?_, fun h_ => (Option.some_ne_none _ (hm_.symm.trans h_)).elim, C_w61⟩
       have e_ : r_ = (kS, faultL (allTo need ((n - need) / 2) S 32) S) := Option.some.inj (h_.symm.trans hm_)
       subst e_
       exact ⟨a5, c5, congrArg (fun m_ => tup [Value.agg (bs kS).toArray, Value.slice a5 m_ c5, i64 0]) hn5, by show (faultL _ S).length ≤ _; omega, hkS, Owns.sl ho15, fun x_ hx_ => by have h_ := Owns.lo ho15 x_ hx_; omega⟩
end Go.Proofs.YtippcmedgfmgbaaGreat
end
section
open Go Go.Proofs Go.Eng
namespace Go.Eng
open Go.Proofs.YtippcmedgfmgbaaGreat
theorem eqItems_same {P : Program} {w : World} {d : Nat} {e : TypeId} {k : IntKind} {xs : Array Value} (he : P.underlying e = some (.int k)) (hc : P.cellsOf e = 1) :
    ∀ is : List Nat, (∀ i ∈ is, ∃ z, xs[i]? = some (.int k z)) → (Op.eqItems (d + 1) e (P.cellsOf e) xs xs is).run P w = .ok true w
  | [], _ => by simp [Op.eqItems]
  | i :: is, h => by
    obtain ⟨z, hz⟩ := h i (by simp)
    have ih := eqItems_same (d := d) (w := w) (xs := xs) he hc is (fun j hj => h j (by simp [hj]))
    have px : (part e xs (i * P.cellsOf e)).run P w = .ok (.int k z) w := by
      rw [hc, Nat.mul_one]
      simp [part, isAgg, run_underlying he, hz]
    have pe : (Op.equalIn (d + 1) e (.int k z) (.int k z)).run P w = .ok true w := by
      rw [run_equalIn_int w d e k k z z he]; simp
    simp only [Op.eqItems, Sem.run_bind, px, pe, Result.andThen_ok]
    simpa using ih
def fHolder : Field := Field.mk "Holder" 37 0 false "" "" 0
def fX : Field := Field.mk "X" 3 16 false "" "" 16
def fY : Field := Field.mk "Y" 38 17 false "" "" 24
theorem fields40 : Tryz.prog.fieldsOf 40 = #[fHolder, fX, fY] := by kernel_rfl
theorem under40 : Tryz.prog.underlying 40 = some (.struct (Tryz.prog.fieldsOf 40)) := by kernel_rfl
theorem held40 : Tryz.prog.stoodInHeld 40 = false := by kernel_rfl
theorem shq_0 {w : World} {s : Shr} (hs : SOk s) : (part 37 (scell s).toArray 0).run Tryz.prog w = .ok (.agg (bs s.h).toArray) w := by
  have hl1 : (bs s.h).length = 16 := by rw [bs_length, hs.1]
  simp only [part, Sem.run_bind, Tryz.isAgg37, Tryz.sizeOf37, Result.andThen_ok, if_true, Sem.run_pure]
  rw [scell, List.extract_toArray, List.extract_eq_take_drop, List.drop_zero, List.take_append_of_le_length (by rw [hl1]; decide), List.take_of_length_le (by rw [hl1]; decide)]
theorem shq_1 {w : World} {s : Shr} (hs : SOk s) : (part 3 (scell s).toArray 16).run Tryz.prog w = .ok (fi s.x) w := by
  have hl1 : (bs s.h).length = 16 := by rw [bs_length, hs.1]
  have : (scell s).toArray[16]? = some (fi s.x) := by
    rw [scell, List.getElem?_toArray, List.getElem?_append_right (by rw [hl1]; decide), hl1]; rfl
  simp only [part, Sem.run_bind, Tryz.isAgg3, Result.andThen_ok, this]
  rfl
theorem shq_2 {w : World} {s : Shr} (hs : SOk s) : (part 38 (scell s).toArray 17).run Tryz.prog w = .ok (.agg (us s.y).toArray) w := by
  have hl1 : (bs s.h ++ [fi s.x]).length = 17 := by rw [List.length_append, bs_length, hs.1]; rfl
  have hl2 : (us s.y).length = 32 := by rw [us_length, hs.2]
  have e : scell s = (bs s.h ++ [fi s.x]) ++ us s.y := by rw [scell, List.append_assoc]; rfl
  simp only [part, Sem.run_bind, Tryz.isAgg38, Tryz.sizeOf38, Result.andThen_ok, if_true, Sem.run_pure]
  rw [e, List.extract_toArray, List.extract_eq_take_drop, List.drop_left' hl1, List.take_of_length_le (by rw [hl2]; decide)]
theorem shq_e0 {w : World} {s : Shr} (hs : SOk s) (d : Nat) : (Op.equalIn (d + 2) 37 (.agg (bs s.h).toArray) (.agg (bs s.h).toArray)).run Tryz.prog w = .ok true w := by
  have := run_equalIn_bytes (P := Tryz.prog) w d 37 5 16 Tryz.underlying37 Tryz.underlying5 Tryz.sizeOf5 s.h s.h hs.1 hs.1
  rw [beq_self_eq_true] at this
  exact this
theorem shq_e1 {w : World} {s : Shr} (d : Nat) : (Op.equalIn (d + 2) 3 (fi s.x) (fi s.x)).run Tryz.prog w = .ok true w := by
  have := run_equalIn_int (P := Tryz.prog) w (d + 1) 3 .i64 .i64 ((s.x.val : Nat) : Int) ((s.x.val : Nat) : Int) Tryz.underlying3
  rw [beq_self_eq_true] at this
  exact this
theorem shq_e2 {w : World} {s : Shr} (hs : SOk s) (d : Nat) : (Op.equalIn (d + 2) 38 (.agg (us s.y).toArray) (.agg (us s.y).toArray)).run Tryz.prog w = .ok true w := by
  rw [run_equalIn_array w (d + 1) _ _ Tryz.underlying38 (i := Tryz.t25) (by kernel_rfl)]
  refine eqItems_same (k := .u16) Tryz.underlying25 (by kernel_rfl) _ fun i hi => ?_
  have hi' : i < s.y.length := by rw [hs.2]; exact List.mem_range.1 hi
  refine ⟨((s.y.getD i 0).val : Int), ?_⟩
  rw [List.getElem?_toArray, us_get hi']
theorem run_eqShr {w : World} {s : Shr} (hs : SOk s) (d : Nat) : (Op.equalIn (d + 3) 40 (.agg (scell s).toArray) (.agg (scell s).toArray)).run Tryz.prog w = .ok true w := by
  rw [run_equalIn_struct w (d + 2) 40 _ _ under40 held40, fields40]
  have n0 : fHolder.name ≠ "_" := by decide
  have n1 : fX.name ≠ "_" := by decide
  have n2 : fY.name ≠ "_" := by decide
  simp only [Op.eqFields, if_pos n0, if_pos n1, if_pos n2, Sem.run_bind]
  rw [show fHolder.type = 37 from rfl, show fHolder.offset = 0 from rfl, show fX.type = 3 from rfl, show fX.offset = 16 from rfl, show fY.type = 38 from rfl, show fY.offset = 17 from rfl]
  simp [shq_0 hs, shq_1 hs, shq_2 hs, shq_e0 hs, shq_e1, shq_e2 hs]
section
variable {w : World} {e : Env} {d : Option Nat} {ty : TypeId} {pos : String} {aft : Array Edge} {g : Option (Nat × Bool)}
/-- a share and itself -/
theorem r_neqShr {t' : TypeId} {x y : Operand} {s : Shr} (hs : SOk s) (hx : ev e x = .agg (scell s).toArray) (hy : ev e y = .agg (scell s).toArray) :
    (execOp (ev e) ⟨d, .binOp .neq 40 x y t', ty, pos, aft, g⟩).run Tryz.prog w = .ok (.value (.bool false)) w := by
  have h := run_eqShr (w := w) hs 9997
  simp only [execOp, hx, hy, Sem.run_bind, run_eqGuard_agg w _ 40 _ _ _ _ (show Tryz.prog.eqGuardType Tryz.prog.depth 40 = false by kernel_rfl), Result.andThen_ok]
  rw [run_neq_struct, h]
  simp only [Result.andThen_ok, Sem.run_pure]
  rfl
/-- sixteen octets and themselves -/
theorem r_neqId {t' : TypeId} {x y : Operand} {l : List UInt8} (hl : l.length = 16) (hx : ev e x = .agg (bs l).toArray) (hy : ev e y = .agg (bs l).toArray) :
    (execOp (ev e) ⟨d, .binOp .neq 37 x y t', ty, pos, aft, g⟩).run Tryz.prog w = .ok (.value (.bool false)) w := by
  rw [r_neqArr Tryz.underlying37 Tryz.underlying5 Tryz.sizeOf5 hx hy hl hl (by kernel_rfl), decide_eq_false (fun h => h rfl)]
end
end Go.Eng
end
section
open Go Go.Eng
namespace Go.Proofs.YtippcmedgfmgbaaGreat
def mendR (need : Nat) (S : List Shr) : Option (List UInt8 × List (List UInt8)) :=
  match chooseF need ((S.length - need) / 2) S [] S with
  | none => none
  | some X => match secretF X with
    | none => none
    | some k => some (k, (S.filter fun s => !liesR X s).map (·.h))
theorem mendR_none1 {need n : Nat} {S : List Shr} (hn : S.length = n) (h : chooseF need ((n - need) / 2) S [] S = none) : mendR need S = none := by
  subst hn; rw [mendR, h]
theorem mendR_none2 {need n : Nat} {S X : List Shr} (hn : S.length = n) (h : chooseF need ((n - need) / 2) S [] S = some X) (h2 : secretF X = none) : mendR need S = none := by
  subst hn; rw [mendR, h]; simp only [h2]
def faultR (X S : List Shr) : List (List UInt8) := (S.filter fun s => !liesR X s).map (·.h)
theorem mendR_some {need n : Nat} {S X : List Shr} {k : List UInt8} (hn : S.length = n) (h : chooseF need ((n - need) / 2) S [] S = some X) (h2 : secretF X = some k) : mendR need S = some (k, faultR X S) := by
  subst hn; rw [mendR, h]; simp only [h2]; rfl
theorem faultR_t {X S : List Shr} {k : Nat} (hk : k < S.length) (h : liesR X (S.getD k shr0) = false) : faultR X (S.take (k + 1)) = faultR X (S.take k) ++ [(S.getD k shr0).h] := by
  have e : ([S.getD k shr0].filter fun s => !liesR X s) = [S.getD k shr0] := by rw [List.filter_cons, if_pos (by rw [h]; rfl)]; rfl
  rw [take_snoc hk, faultR, List.filter_append, List.map_append, e]; rfl
theorem faultR_f {X S : List Shr} {k : Nat} (hk : k < S.length) (h : liesR X (S.getD k shr0) = true) : faultR X (S.take (k + 1)) = faultR X (S.take k) := by
  have e : ([S.getD k shr0].filter fun s => !liesR X s) = [] := by rw [List.filter_cons, if_neg (by rw [h]; decide)]; rfl
  rw [take_snoc hk, faultR, List.filter_append, List.map_append, e]; exact List.append_nil _
theorem faultR_le (X S : List Shr) (k : Nat) : (faultR X (S.take k)).length ≤ k := by
  rw [faultR, List.length_map]
  exact Nat.le_trans (List.length_filter_le _ _) (by rw [List.length_take]; omega)
theorem secretF_len {X : List Shr} {k : List UInt8} (h : secretF X = some k) : k.length = 32 := by
  unfold secretF at h
  split at h
  · exact (Option.some_ne_none _ h.symm).elim
  · rw [← Option.some.inj h]; exact secTo_length _ _
theorem sec_said {X : List Shr} {ps : List (List F)} (h : ∀ o, o < 32 → lagOf X o 0 = ev (ps.getD o []) 0) : ∀ k, k ≤ 32 → secTo X k = saidTo ps k
  | 0, _ => rfl
  | k + 1, hk => by rw [secTo, saidTo, sec_said h k (by omega), h k (by omega)]
theorem secret_said {X : List Shr} {ps : List (List F)} (h : ∀ o, o < 32 → lagOf X o 0 = ev (ps.getD o []) 0) : secretF X = saidF ps := by
  by_cases hb : ∃ k, k < 32 ∧ 255 < (lagOf X k 0).val
  · obtain ⟨k, hk, h2⟩ := hb
    rw [secretF_none hk h2]
    rw [h k hk] at h2
    have := (ev (ps.getD k []) 0).isLt
    rw [saidF_none hk (by omega)]
  · have h1 : ∀ k, k < 32 → ¬ 255 < (lagOf X k 0).val := fun k hk h2 => hb ⟨k, hk, h2⟩
    rw [secretF_some h1, saidF_some fun k hk e => h1 k hk (by rw [h k hk, e]; decide), sec_said h 32 (Nat.le_refl _)]
/-- the program's way and the reference's -/
theorem mend_eq {need : Nat} {S : List Shr} (hn : (S.map (·.x)).Nodup) (hnd : need ≤ S.length) : mendP need S = mendR need S := by
  have hm2 : need + 2 * ((S.length - need) / 2) ≤ S.length := by omega
  cases hc : chooseF need ((S.length - need) / 2) S [] S with
  | none =>
    rw [mendR_none1 rfl hc, mendP]
    split
    · rename_i ha
      split
      · rfl
      · rename_i hf
        refine (good_choose hn hnd ⟨allTo_length need ((S.length - need) / 2) S 32, fun o ho => ?_, ?_⟩ hc).elim
        · rw [allTo_get _ _ _ 32 o (Nat.le_refl _), if_pos ho]
          rw [List.all_eq_true] at ha
          have h1 := ha o (List.mem_range.2 ho)
          cases h : mendF need ((S.length - need) / 2) (ptsOf S o) with
          | none => rw [h] at h1; cases h1
          | some p => exact ((mend_iff (pts_nodup hn o) (by simp [ptsOf]; exact hm2) p).1 h).1
        · rw [faultL, List.length_map] at hf
          omega
    · rfl
  | some X =>
    obtain ⟨ps, hg, hl, hlag⟩ := choose_good hn hc
    have hall : ∀ o, o < 32 → mendF need ((S.length - need) / 2) (ptsOf S o) = some (ps.getD o []) := fun o ho => good_mend hn hm2 hg ho
    have hps : allTo need ((S.length - need) / 2) S 32 = ps := by
      apply List.ext_getElem (by rw [allTo_length, hg.n])
      intro o h1 h2
      rw [allTo_length] at h1
      have g := allTo_get need ((S.length - need) / 2) S 32 o (Nat.le_refl _)
      rw [if_pos h1, hall o h1] at g
      have q : ∀ (l : List (List F)) (h : o < l.length), l.getD o [] = l[o] := fun l h => by rw [List.getD_eq_getElem?_getD, List.getElem?_eq_getElem h]; rfl
      rw [q _ (by simpa using h1)] at g
      rw [g]
      exact q _ h2
    have hf : faultL ps S = faultR X S := by
      unfold faultL faultR
      rw [show (fun s => !liesP ps s) = fun s => !liesR X s from funext fun s => by rw [hl s]]
    have hle : ¬ (S.length - need) / 2 < (faultL (allTo need ((S.length - need) / 2) S 32) S).length := by
      rw [hps, faultL, List.length_map]
      have := hg.bad
      omega
    have hsome : ∀ o, o < 32 → (mendF need ((S.length - need) / 2) (ptsOf S o)).isSome = true := fun o ho => by rw [hall o ho]; rfl
    have hsec := secret_said (X := X) (ps := ps) fun o ho => hlag o ho 0
    cases hs : secretF X with
    | none => rw [mendR_none2 rfl hc hs, mendP_none3 rfl hsome hle (by rw [hps, ← hsec]; exact hs)]
    | some k => rw [mendR_some rfl hc hs, mendP_some rfl hsome hle (by rw [hps, ← hsec]; exact hs), hps, hf]
end Go.Proofs.YtippcmedgfmgbaaGreat
end
section
open Go Go.Proofs Go.Eng
namespace Go.Eng
open Go.Proofs.YtippcmedgfmgbaaGreat
/- ### holders in order differ -/
theorem cmp_self : ∀ a : List UInt8, Go.Lib.compareBytes a a = 0
  | [] => rfl
  | a :: l => by
    simp only [Go.Lib.compareBytes, UInt8.lt_iff_toNat_lt, Nat.lt_irrefl, if_false]
    exact cmp_self l
theorem cmp_trans : ∀ a b c : List UInt8, Go.Lib.compareBytes a b < 0 → Go.Lib.compareBytes b c < 0 → Go.Lib.compareBytes a c < 0
  | [], [], c, h, _ => by simp [Go.Lib.compareBytes] at h
  | [], _ :: _, [], _, h => by simp [Go.Lib.compareBytes] at h
  | [], _ :: _, _ :: _, _, _ => by simp [Go.Lib.compareBytes]
  | _ :: _, [], _, h, _ => by simp [Go.Lib.compareBytes] at h
  | _ :: _, _ :: _, [], _, h => by simp [Go.Lib.compareBytes] at h
  | a :: l, b :: m, c :: q, h1, h2 => by
    simp only [Go.Lib.compareBytes, UInt8.lt_iff_toNat_lt] at h1 h2 ⊢
    have ih := cmp_trans l m q
    split at h1
    · split at h2
      · rw [if_pos (by omega)]; omega
      · split at h2
        · omega
        · rw [if_pos (by omega)]; omega
    · split at h1
      · omega
      · split at h2
        · rw [if_pos (by omega)]; omega
        · split at h2
          · omega
          · rw [if_neg (by omega), if_neg (by omega)]; exact ih h1 h2
theorem ord_lt {H : List (List UInt8)} {n : Nat} (h : ordTo H n = false) (i : Nat) : ∀ j, i < j → j < n → Go.Lib.compareBytes (H.getD i []) (H.getD j []) < 0
  | 0, h1, _ => absurd h1 (by omega)
  | j + 1, h1, h2 => by
    have hs := ordTo_ok h (j + 1) (by omega) h2
    rw [Nat.add_sub_cancel] at hs
    by_cases e : i = j
    · subst e; exact hs
    · exact cmp_trans _ _ _ (ord_lt h i j (by omega) (by omega)) hs
theorem ord_nodup {H : List (List UInt8)} (h : ordTo H H.length = false) : H.Nodup := by
  unfold List.Nodup
  rw [List.pairwise_iff_getElem]
  intro i j hi hj hij he
  have := ord_lt h i j hij hj
  rw [List.getD_eq_getElem?_getD, List.getD_eq_getElem?_getD, List.getElem?_eq_getElem hi, List.getElem?_eq_getElem hj, Option.getD_some, Option.getD_some, he, cmp_self] at this
  omega
/- ### the shares that are handed out -/
def polS (secret seed : List UInt8) (need : Nat) : Nat → List F := fun o_ => polyL (fI (((secret.getD o_ 0).toNat : Nat) : Int)) seed o_ need
def valS (secret seed : List UInt8) (need n : Nat) (H : List (List UInt8)) : List Shr := valTo (fun o_ => polyL (fI (((secret.getD o_ 0).toNat : Nat) : Int)) seed o_ need) (initTo H n n) 32
theorem valS_eq (secret seed : List UInt8) (need n : Nat) (H : List (List UInt8)) : valS secret seed need n H = (List.range n).map (shareOf (polS secret seed need) H) := valTo_eq _ H n
theorem share_x (P : Nat → List F) (H : List (List UInt8)) (i : Nat) : (shareOf P H i).x = fI ((i + 1 : Nat) : Int) := by rw [shareOf, putsTo_ys]
theorem share_h (P : Nat → List F) (H : List (List UInt8)) (i : Nat) : (shareOf P H i).h = H.getD i [] := by rw [shareOf, putsTo_ys]
variable {secret seed : List UInt8} {need n : Nat} {H : List (List UInt8)}
@[simp] theorem valS_len : (valS secret seed need n H).length = n := by rw [valS_eq]; simp
theorem valS_ok (h16 : All16 H) (hH : H.length = n) : AllS (valS secret seed need n H) := valTo_ok (initTo_ok h16 hH n (by omega)) 32
theorem valS_x : (valS secret seed need n H).map (·.x) = (List.range n).map fun i => fI ((i + 1 : Nat) : Int) := by
  rw [valS_eq, List.map_map]
  exact List.map_congr_left fun i _ => share_x _ _ _
theorem valS_h (hH : H.length = n) : (valS secret seed need n H).map (·.h) = H := by
  rw [valS_eq, List.map_map]
  apply List.ext_getElem
  · simp [hH]
  · intro i h1 h2
    rw [List.getElem_map, List.getElem_range]
    show (shareOf (polS secret seed need) H i).h = _
    rw [share_h, List.getD_eq_getElem?_getD, List.getElem?_eq_getElem h2]; rfl
theorem valS_xn (hb : n ≤ 32) : ((valS secret seed need n H).map (·.x)).Nodup := by
  rw [valS_x]
  unfold List.Nodup
  rw [List.pairwise_iff_getElem]
  intro i j hi hj hij he
  simp only [List.getElem_map, List.getElem_range] at he
  have hi' : i < n := by simpa using hi
  have hj' : j < n := by simpa using hj
  have := fI_inj (m := i + 1) (n := j + 1) (by omega) (by omega) he
  omega
theorem valS_x0 (hb : n ≤ 32) : ∀ z ∈ (valS secret seed need n H).map (·.x), z ≠ 0 := by
  intro z hz e
  rw [valS_x] at hz
  obtain ⟨i, hi, rfl⟩ := List.mem_map.1 hz
  have hi' := List.mem_range.1 hi
  have h1 := fI_small (n := i + 1) (by omega)
  rw [e] at h1
  have : ((0 : F).val) = 0 := rfl
  omega
/- ### one value of one share is changed -/
def putO (S : List Shr) (i o : Nat) (z : F) : List Shr := S.set i ((S.getD i shr0).put o z)
@[simp] theorem putO_len (S : List Shr) (i o : Nat) (z : F) : (putO S i o z).length = S.length := by simp [putO]
theorem putO_ok {S : List Shr} (h : AllS S) (i o : Nat) (z : F) : AllS (putO S i o z) := h.set i (Shr.put_ok (h.get i) o z)
theorem putO_map {α : Type} (f : Shr → α) {S : List Shr} {i o : Nat} {z : F} (hi : i < S.length) (hf : f ((S.getD i shr0).put o z) = f (S.getD i shr0)) : (putO S i o z).map f = S.map f := by
  apply List.ext_getElem
  · simp
  · intro j h1 h2
    rw [List.getElem_map, List.getElem_map]
    unfold putO
    rw [List.getElem_set]
    split
    · rename_i e
      subst e
      rw [hf, List.getD_eq_getElem?_getD, List.getElem?_eq_getElem hi]; rfl
    · rfl
theorem putO_x {S : List Shr} {i o : Nat} {z : F} (hi : i < S.length) : (putO S i o z).map (·.x) = S.map (·.x) := putO_map _ hi rfl
theorem putO_h {S : List Shr} {i o : Nat} {z : F} (hi : i < S.length) : (putO S i o z).map (·.h) = S.map (·.h) := putO_map _ hi rfl
theorem mem_x0 {S : List Shr} (h : ∀ z ∈ S.map (·.x), z ≠ 0) : ∀ s ∈ S, s.x ≠ 0 := fun s hs => h _ (List.mem_map.2 ⟨s, hs, rfl⟩)
section
variable {P : Program} {w : World} {e : Env} {d : Option Nat} {ty : TypeId} {pos : String} {aft : Array Edge} {g : Option (Nat × Bool)} {t t' : TypeId} {x y : Operand}
/-- numbers in sixteen bits -/
theorem r_remU {a : Int} {z : F} (hx : ev e x = .int .u16 a) (hy : ev e y = .int .u16 257) (ha : 0 ≤ a) (hz : fI a = z) : (execOp (ev e) ⟨d, .binOp .rem t x y t', ty, pos, aft, g⟩).run P w = .ok (.value (uf z)) w := by
  subst hz
  rw [r_rem hx hy (by decide), Int.tmod_eq_emod_of_nonneg ha, ← fI_val a]
theorem r_addU {a b : F} (hx : ev e x = uf a) (hy : ev e y = uf b) : (execOp (ev e) ⟨d, .binOp .add t x y t', ty, pos, aft, g⟩).run P w = .ok (.value (.int .u16 (((a.val + b.val : Nat)) : Int))) w := by
  have ha := a.isLt
  have hb := b.isLt
  have hw : ∀ n : Fin 600, IntKind.u16.wrap ((n.val : Nat) : Int) = ((n.val : Nat) : Int) := by decide +kernel
  have h2 := hw ⟨a.val + b.val, by omega⟩
  rw [r_add hx hy]
  have e1 : (((a.val : Nat) : Int) + ((b.val : Nat) : Int)) = ((a.val + b.val : Nat) : Int) := by omega
  rw [e1]
  exact congrArg (fun q_ => Result.ok (Next.value (Value.int .u16 q_)) w) h2
end
end Go.Eng
namespace Go.Proofs.YtippcmedgfmgbaaGreat
/-- Split's errors -/
theorem splitE_spec (secret seed : List UInt8) (need : Int) (H : List (List UInt8)) (aH : Option Addr) (n cH : Nat) (w : World) (hk : secret.length = 32) (hs : seed.length = 32) (hH : H.length = n) (h16 : All16 H) (hbad : hErrTo need n H n ≠ 0) (hslH : SlAt w aH (bs H.flatten)) :
    Rtn Tryz.prog 13 [.agg (bs secret).toArray, i64 need, Value.slice aH n cH, .agg (bs seed).toArray].toArray w (fun v w' => v = tup [.slice none 0 0, i64 (hErrTo need n H n)] ∧ Kept w w') := by
  by_cases hB : hErrB need n = 0
  · have hr : 1 ≤ need ∧ need ≤ (n : Int) ∧ n ≤ 32 := by
      unfold hErrB at hB
      split at hB
      · omega
      · split at hB
        · omega
        · split at hB
          · omega
          · omega
    have ho : ordTo H n = true := by
      unfold hErrTo at hbad
      rw [if_pos hB] at hbad
      cases e : ordTo H n
      · rw [e] at hbad; exact absurd rfl hbad
      · rfl
    obtain ⟨m, rfl⟩ : ∃ m : Nat, need = (m : Int) := ⟨need.toNat, by omega⟩
    rw [hErr_nine hB ho]
    exact splitB_spec secret seed m H aH n cH w hk hs (by omega) (by omega) (by omega) hH h16 ho hslH
  · rw [hErr_base hB]
    exact splitA_spec secret seed need aH n cH w hk hs hB
/-- HoldersError -/
theorem holdE_spec (need : Int) (H : List (List UInt8)) (aH : Option Addr) (n cH : Nat) (w : World) (hnb : n ≤ 9223372036854775807) (hH : H.length = n) (h16 : All16 H) (hslH : SlAt w aH (bs H.flatten)) :
    Rtn Tryz.prog 5 [i64 need, Value.slice aH n cH].toArray w (fun v w' => v = i64 (hErrTo need n H n) ∧ Kept w w') := by
  by_cases h0 : n = 0
  · subst h0
    rw [hErr_start]
    exact holdG0_spec need aH cH w
  · exact holdG_spec need H aH n cH w (by omega) hnb hH h16 hslH
end Go.Proofs.YtippcmedgfmgbaaGreat
end
