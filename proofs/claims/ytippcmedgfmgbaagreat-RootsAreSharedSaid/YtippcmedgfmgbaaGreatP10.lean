/- YtippcmedgfmgbaaGreatP10: a calculus of walks, plain facts of the numbers that are shared, and contracts of functions of the program: called in any world that meets a contract's premises, a function returns what the contract says and changes no more than it says. -/
import Derived.Test.YtippcmedgfmgbaaGreatP02
import Derived.Test.YtippcmedgfmgbaaGreatP07
import Derived.Test.YtippcmedgfmgbaaGreatP08
import Derived.Test.YtippcmedgfmgbaaGreatP09
import Derived.Test.YtippcmedgfmgbaaGreatChecked
section
open Go Go.Eng Go.Proofs
namespace Go.Proofs.YtippcmedgfmgbaaGreat
set_option maxHeartbeats 4000000 in
set_option maxRecDepth 100000 in
theorem splitA_spec (secret seed : List UInt8) (need : Int) (aH : Option Addr) (n cH : Nat) (w : World) (hk : secret.length = 32) (hs : seed.length = 32) (hbad : hErrB need n ≠ 0) :
  Rtn Tryz.prog 13 [.agg (bs secret).toArray, i64 need, Value.slice aH n cH, .agg (bs seed).toArray].toArray w (fun v w' => v = tup [.slice none 0 0, i64 (hErrB need n)] ∧ Kept w w') := by
 refine fn_body (l := [.agg (bs secret).toArray, i64 need, Value.slice aH n cH, .agg (bs seed).toArray]) 97 [.tmp 8, .tmp 9] Tryz.func13 rfl Tryz.ntmps13 (Nat.le_of_ble_eq_true rfl) (by rw [Tryz.results13]) ?_
 refine go_seq ?_
 refine go_region 4 rfl rfl ?_
 refine s_do rfl rfl (w_boxA rfl) rfl ?_
 rintro _ w1 ⟨b2, rfl, hl_b2, hu_b2, p3, c_w1⟩
 have hs_w1 : w.heap.size ≤ w1.heap.size := Chg.size c_w1
 have C_w1 := Chg.pure (Chg.refl no w) c_w1
 have hn_b2 : w.heap.size ≤ b2 := by have := Chg.size C_w1; omega
 refine s_do rfl rfl (w_boxA rfl) rfl ?_
 rintro _ w4 ⟨b5, rfl, hl_b5, hu_b5, p6, c_w4⟩
 have hs_w4 : w1.heap.size ≤ w4.heap.size := Chg.size c_w4
 replace p3 := p3.k c_w4
 have C_w4 := Chg.pure C_w1 c_w4
 have hn_b5 : w.heap.size ≤ b5 := by have := Chg.size C_w4; omega
 refine s_val rfl rfl (r_assign) rfl ?_
 refine s_val rfl rfl (r_assign) rfl ?_
 refine s_end ?_
 refine go_seq ?_
 refine go_block ?_
 refine go_seq ?_
 refine go_region 3 rfl rfl ?_
 refine s_val rfl rfl (r_move) rfl ?_
 refine s_do rfl rfl (w_call Tryz.call31 rfl (outside_spec _ _ _ _)) rfl ?_
 rintro _ w7 ⟨rfl, c_w7⟩
 have hs_w7 : w4.heap.size ≤ w7.heap.size := Chg.size c_w7
 replace p3 := p3.k c_w7
 replace p6 := p6.k c_w7
 have C_w7 := Chg.pure C_w4 c_w7
 refine s_val rfl rfl (r_assign) rfl ?_
 refine s_end ?_
 refine go_ifb _ rfl (fun h1 => ?_) (fun h1 => ?_)
 ·first | replace h1 := dcT h1 | replace h1 := dcF (nt h1) | skip
  refine go_seq ?_
  refine go_region 2 rfl rfl ?_
  refine s_val rfl rfl (r_assign) rfl ?_
  refine s_val rfl rfl (r_assign) rfl ?_
  refine s_end ?_
  refine go_ret (block_ret ?_)
  refine ⟨_, .cons rfl (.cons rfl (.nil)), ?_⟩
  exact ⟨congrArg (fun e_ => tup [.slice none 0 0, i64 e_]) (hErrB_1 (by omega)).symm, C_w7⟩
 ·first | replace h1 := dcF h1 | replace h1 := dcT (nf h1) | skip
  refine go_seq ?_
  refine go_region 4 rfl rfl ?_
  refine s_val rfl rfl (r_move) rfl ?_
  refine s_val rfl rfl (r_len Tryz.runUnderlying24 rfl) rfl ?_
  refine s_val rfl rfl (r_gtr rfl rfl) rfl ?_
  refine s_val rfl rfl (r_assign) rfl ?_
  refine s_end ?_
  refine go_ifb _ rfl (fun h2 => ?_) (fun h2 => ?_)
  ·first | replace h2 := dcT h2 | replace h2 := dcF (nt h2) | skip
   refine go_seq ?_
   refine go_region 2 rfl rfl ?_
   refine s_val rfl rfl (r_assign) rfl ?_
   refine s_val rfl rfl (r_assign) rfl ?_
   refine s_end ?_
   refine go_ret (block_ret ?_)
   refine ⟨_, .cons rfl (.cons rfl (.nil)), ?_⟩
   exact ⟨congrArg (fun e_ => tup [.slice none 0 0, i64 e_]) (hErrB_2 (by omega) (by omega)).symm, C_w7⟩
  ·first | replace h2 := dcF h2 | replace h2 := dcT (nf h2) | skip
   refine go_seq ?_
   refine go_region 5 rfl rfl ?_
   refine s_val rfl rfl (r_move) rfl ?_
   refine s_val rfl rfl (r_len Tryz.runUnderlying24 rfl) rfl ?_
   refine s_val rfl rfl (r_move) rfl ?_
   refine s_val rfl rfl (r_lss rfl rfl) rfl ?_
   refine s_val rfl rfl (r_assign) rfl ?_
   refine s_end ?_
   refine go_ifb _ rfl (fun h8 => ?_) (fun h8 => ?_)
   ·first | replace h8 := dcT h8 | replace h8 := dcF (nt h8) | skip
    refine go_seq ?_
    refine go_region 2 rfl rfl ?_
    refine s_val rfl rfl (r_assign) rfl ?_
    refine s_val rfl rfl (r_assign) rfl ?_
    refine s_end ?_
    refine go_ret (block_ret ?_)
    refine ⟨_, .cons rfl (.cons rfl (.nil)), ?_⟩
    exact ⟨congrArg (fun e_ => tup [.slice none 0 0, i64 e_]) (hErrB_3 (by omega) (by omega) (by omega)).symm, C_w7⟩
   ·first | replace h8 := dcF h8 | replace h8 := dcT (nf h8) | skip
    exfalso
    exact hbad (hErrB_0 (by omega) (by omega) (by omega))
set_option maxHeartbeats 4000000 in
set_option maxRecDepth 100000 in
theorem splitB_spec (secret seed : List UInt8) (need : Nat) (H : List (List UInt8)) (aH : Option Addr) (n cH : Nat) (w : World) (hk : secret.length = 32) (hs : seed.length = 32) (h0 : 0 < need) (hnn : need ≤ n) (hb : n ≤ 32) (hH : H.length = n) (h16 : All16 H) (hbad : ordTo H n = true) (hslH : SlAt w aH (bs H.flatten)) :
  Rtn Tryz.prog 13 [.agg (bs secret).toArray, i64 (need : Nat), Value.slice aH n cH, .agg (bs seed).toArray].toArray w (fun v w' => v = tup [.slice none 0 0, i64 9] ∧ Kept w w') := by
 obtain ⟨bH, oH, rfl, hrdH⟩ := SlAt.pos hslH (bs_ne (by rw [h16.len]; omega))
 refine fn_body (l := [.agg (bs secret).toArray, i64 (need : Nat), Value.slice (some ⟨bH, oH, none⟩) n cH, .agg (bs seed).toArray]) 97 [.tmp 8, .tmp 9] Tryz.func13 rfl Tryz.ntmps13 (Nat.le_of_ble_eq_true rfl) (by rw [Tryz.results13]) ?_
 refine go_seq ?_
 refine go_region 4 rfl rfl ?_
 refine s_do rfl rfl (w_boxA rfl) rfl ?_
 rintro _ w1 ⟨b2, rfl, hl_b2, hu_b2, p3, c_w1⟩
 have hs_w1 : w.heap.size ≤ w1.heap.size := Chg.size c_w1
 have C_w1 := Chg.pure (Chg.refl no w) c_w1
 have hn_b2 : w.heap.size ≤ b2 := by have := Chg.size C_w1; omega
 refine s_do rfl rfl (w_boxA rfl) rfl ?_
 rintro _ w4 ⟨b5, rfl, hl_b5, hu_b5, p6, c_w4⟩
 have hs_w4 : w1.heap.size ≤ w4.heap.size := Chg.size c_w4
 replace p3 := p3.k c_w4
 have C_w4 := Chg.pure C_w1 c_w4
 have hn_b5 : w.heap.size ≤ b5 := by have := Chg.size C_w4; omega
 refine s_val rfl rfl (r_assign) rfl ?_
 refine s_val rfl rfl (r_assign) rfl ?_
 refine s_end ?_
 refine go_seq ?_
 refine go_block ?_
 refine go_seq ?_
 refine go_region 3 rfl rfl ?_
 refine s_val rfl rfl (r_move) rfl ?_
 refine s_do rfl rfl (w_call Tryz.call31 rfl (inside_spec ((need : Nat) : Int) _ _ _ (by omega) (by omega))) rfl ?_
 rintro _ w7 ⟨rfl, c_w7⟩
 have hs_w7 : w4.heap.size ≤ w7.heap.size := Chg.size c_w7
 replace p3 := p3.k c_w7
 replace p6 := p6.k c_w7
 have C_w7 := Chg.pure C_w4 c_w7
 refine s_val rfl rfl (r_assign) rfl ?_
 refine s_end ?_
 refine go_false rfl ?_
 refine go_seq ?_
 refine go_region 4 rfl rfl ?_
 refine s_val rfl rfl (r_move) rfl ?_
 refine s_val rfl rfl (r_len Tryz.runUnderlying24 rfl) rfl ?_
 refine s_val rfl rfl (r_gtr rfl rfl) rfl ?_
 refine s_val rfl rfl (r_assign) rfl ?_
 refine s_end ?_
 refine go_ifb _ rfl (fun h8 => ?_) (fun h8 => ?_)
 ·first | replace h8 := dcT h8 | replace h8 := dcF (nt h8) | skip
  exfalso
  omega
 ·first | replace h8 := dcF h8 | replace h8 := dcT (nf h8) | skip
  refine go_seq ?_
  refine go_region 5 rfl rfl ?_
  refine s_val rfl rfl (r_move) rfl ?_
  refine s_val rfl rfl (r_len Tryz.runUnderlying24 rfl) rfl ?_
  refine s_val rfl rfl (r_move) rfl ?_
  refine s_val rfl rfl (r_lss rfl rfl) rfl ?_
  refine s_val rfl rfl (r_assign) rfl ?_
  refine s_end ?_
  refine go_ifb _ rfl (fun h9 => ?_) (fun h9 => ?_)
  ·first | replace h9 := dcT h9 | replace h9 := dcF (nt h9) | skip
   exfalso
   omega
  ·first | replace h9 := dcF h9 | replace h9 := dcT (nf h9) | skip
   refine go_skip ?_
   refine go_nil (block_normal ?_)
   refine go_seq ?_
   refine go_seq ?_
   refine go_region 1 rfl rfl ?_
   refine s_val rfl rfl (r_assign) rfl ?_
   refine s_end ?_
   refine go_block ?_
   refine go_loopM (σ := Nat) [(8, 10), (29, 45)] (fun (i : Nat) e' w' => e' 10 = i64 (i : Nat) ∧ 1 ≤ i ∧ i ≤ n ∧ ordTo H i = false ∧ Pc w' b2 0 (bs secret) ∧ b2 < w'.heap.size ∧ Pc w' b5 0 (bs seed) ∧ b5 < w'.heap.size ∧ Chg no w w') (fun (i : Nat) => n - i) 1 ?_ ?_
   ·exact ⟨rfl, by omega, by omega, ordTo_one H, p3, by omega, p6, by omega, C_w7⟩
   rintro i f11 w10 ⟨e12, hi1, hi2, hof, p3, hu_b2, p6, hu_b5, C_w10⟩
   have ob_14 : ∃ g_, f11 = upd g_ 10 (i64 (i : Nat)) := ⟨f11, upd_id e12⟩
   obtain ⟨f13, rfl⟩ := ob_14
   clear e12
   have hs_w10 : w.heap.size ≤ w10.heap.size := Chg.size C_w10
   refine go_seq ?_
   refine go_seq ?_
   refine go_region 4 rfl rfl ?_
   refine s_val rfl rfl (r_move) rfl ?_
   refine s_val rfl rfl (r_move) rfl ?_
   refine s_val rfl rfl (r_len Tryz.runUnderlying24 rfl) rfl ?_
   refine s_val rfl rfl (r_lss rfl rfl) rfl ?_
   refine s_end ?_
   refine go_ifb _ rfl (fun h15 => ?_) (fun h15 => ?_)
   ·first | replace h15 := dcT h15 | replace h15 := dcF (nt h15) | skip
    refine go_skip ?_
    refine go_seq ?_
    refine go_block ?_
    refine go_seq ?_
    refine go_drawsE 9 (.take 0 (.take 1 (.take 2 (.take 3 (.take 4 (.take 5 (.take 6 (.take 7 (.take 8 (.eff 9 (.eff 10 .done))))))))))) (by kernel_rfl) (by kernel_rfl) fun w16 c_w16 => ?_
    have hs_w16 : w10.heap.size ≤ w16.heap.size := Chg.size c_w16
    replace p3 := p3.k c_w16
    replace p6 := p6.k c_w16
    have C_w16 := Chg.pure C_w10 c_w16
    refine s_takeE rfl rfl (r_move) ?_
    refine s_takeE rfl rfl (r_move) ?_
    refine s_takeE rfl rfl (r_indexSlQ (k := i) Tryz.runUnderlying24 Tryz.sizeOf37 rfl rfl (by first | rfl | omega) (by omega)) ?_
    refine s_takeE rfl rfl (r_sliceA (l := 0) (h := 16) (m := 16) Tryz.runUnderlying37 Tryz.sizeOf5 rfl rfl rfl rfl (by first | decide | (intro h_; cases h_)) (by decide) (by first | decide | (intro _; decide)) (by decide) (by decide)) ?_
    refine s_takeE rfl rfl (r_move) ?_
    refine s_takeE rfl rfl (r_move) ?_
    refine s_takeE rfl rfl (r_subN (m := i - 1) rfl rfl (by omega) (by omega)) ?_
    refine s_takeE rfl rfl (r_indexSlQ (k := (i - 1)) Tryz.runUnderlying24 Tryz.sizeOf37 rfl rfl (by first | rfl | omega) (by omega)) ?_
    refine s_takeE rfl rfl (r_sliceA (l := 0) (h := 16) (m := 16) Tryz.runUnderlying37 Tryz.sizeOf5 rfl rfl rfl rfl (by first | decide | (intro h_; cases h_)) (by decide) (by first | decide | (intro _; decide)) (by decide) (by decide)) ?_
    have hrA_ : Rd w16 bH (oH + i * 16 + 0 * 1) (bs (H.getD i [])) := by rw [Nat.zero_mul, Nat.add_zero]; exact Rd.hold (hrdH.k C_w16) h16 (by omega)
    have hrB_ : Rd w16 bH (oH + (i - 1) * 16 + 0 * 1) (bs (H.getD (i - 1) [])) := by rw [Nat.zero_mul, Nat.add_zero]; exact Rd.hold (hrdH.k C_w16) h16 (by omega)
    have hcall_ := cmp_spec (H.getD i []) (H.getD (i - 1) []) bH _ (16 - 0) (16 - 0) bH _ (16 - 0) (16 - 0) w16 (h16.get (by omega)) (h16.get (by omega)) hrA_ hrB_
    clear hrA_ hrB_
    refine s_do rfl rfl (w_call Tryz.call32 rfl hcall_) rfl ?_
    rintro _ w17 ⟨rfl, c_w17⟩
    clear hcall_
    have hs_w17 : w16.heap.size ≤ w17.heap.size := Chg.size c_w17
    replace p3 := p3.k c_w17
    replace p6 := p6.k c_w17
    have C_w17 := Chg.pure C_w16 c_w17
    refine s_val rfl rfl (r_leq rfl rfl) rfl ?_
    refine s_end ?_
    refine go_ifb _ rfl (fun h2 => ?_) (fun h2 => ?_)
    ·first | replace h2 := dcT h2 | replace h2 := dcF (nt h2) | skip
     refine go_seq ?_
     refine go_region 2 rfl rfl ?_
     refine s_val rfl rfl (r_assign) rfl ?_
     refine s_val rfl rfl (r_assign) rfl ?_
     refine s_end ?_
     refine go_ret (block_ret (loop_ret (block_ret ?_)))
     refine ⟨_, .cons rfl (.cons rfl (.nil)), ?_⟩
     exact ⟨rfl, C_w17⟩
    ·first | replace h2 := dcF h2 | replace h2 := dcT (nf h2) | skip
     refine go_skip ?_
     refine go_nil (block_normal ?_)
     refine go_region 3 rfl rfl ?_
     refine s_val rfl rfl (r_move) rfl ?_
     refine s_val rfl rfl (r_addi rfl rfl (by omega)) rfl ?_
     refine s_val rfl rfl (r_assign) rfl ?_
     refine s_end ?_
     refine go_nil (loop_normal ⟨⟨(i + 1), by first | omega | (dsimp only; omega), ⟨rfl, by omega, by omega, ordTo_go hof (by omega), p3, by omega, p6, by omega, C_w17⟩⟩, (by repeat (first | exact same_refl | exact same_over | refine same_upd rfl ?_ | refine same_over2 rfl ?_))⟩)
   ·first | replace h15 := dcF h15 | replace h15 := dcT (nf h15) | skip
    exfalso
    exact ordTo_end hbad hof (by omega) (by omega)
end Go.Proofs.YtippcmedgfmgbaaGreat
end
section
open Go Go.Eng Go.Proofs
namespace Go.Proofs.YtippcmedgfmgbaaGreat
set_option maxHeartbeats 800000 in
theorem concatE_spec (ls : List (List UInt8)) (vs : List Value) (a : Option Addr) (n c : Nat) (w : World) (hn : vs.length = n) (hc : n ≤ c) (hbig : n < 4611686018427387904) (hn0 : 0 < ls.flatten.length) (hb : ls.flatten.length ≤ 1048576) (hsl : SlAt w a vs) (hls : SlsE w vs ls) :
  Rtn Tryz.prog 64 [Value.slice a n c].toArray w (fun v w' => ∃ a c, v = .slice a ls.flatten.length c ∧ ls.flatten.length ≤ c ∧ Owns w' w.heap.size 5 1 (.slice a ls.flatten.length c) ls.flatten.length (bs ls.flatten) ∧ Kept w w') := by
 have hlv := hls.1
 refine fn_body (l := [Value.slice a n c]) 36 [.tmp 2] Tryz.func64 rfl Tryz.ntmps64 (Nat.le_of_ble_eq_true rfl) (by rw [Tryz.results64]) ?_
 refine go_seq ?_
 refine go_region 1 rfl rfl ?_
 refine s_val rfl rfl (r_assign) rfl ?_
 refine s_end ?_
 refine go_seq ?_
 refine go_region 1 rfl rfl ?_
 refine s_val rfl rfl (r_assign) rfl ?_
 refine s_end ?_
 refine go_seq ?_
 refine go_seq ?_
 refine go_region 3 rfl rfl ?_
 refine s_val rfl rfl (r_move) rfl ?_
 refine s_val rfl rfl (r_len Tryz.runUnderlying62 rfl) rfl ?_
 refine s_val rfl rfl (r_move) rfl ?_
 refine s_end ?_
 refine go_block ?_
 refine go_loopM (σ := Nat × Nat) [(3, 3), (5, 5), (11, 22)] (fun (x_ : Nat × Nat) e' w' => match x_ with | (k, tk) => e' 11 = i64 (k : Nat) ∧ e' 3 = i64 (tk : Nat) ∧ k ≤ n ∧ tk = (ls.take k).flatten.length ∧ Chg no w w') (fun (x_ : Nat × Nat) => match x_ with | (k, tk) => n - k) (0, 0) ?_ ?_
 ·exact ⟨rfl, rfl, by omega, rfl, (Chg.refl no w)⟩
 rintro ⟨k, tk⟩ f2 w1 ⟨e3, e4, hk, htk, C_w1⟩
 have ob_6 : ∃ g_, f2 = upd g_ 11 (i64 (k : Nat)) := ⟨f2, upd_id e3⟩
 obtain ⟨f5, rfl⟩ := ob_6
 have ob_8 : ∃ g_, f5 = upd g_ 3 (i64 (tk : Nat)) := ⟨f5, upd_id e4⟩
 obtain ⟨f7, rfl⟩ := ob_8
 clear e3 e4
 have hs_w1 : w.heap.size ≤ w1.heap.size := Chg.size C_w1
 refine go_seq ?_
 refine go_region 1 rfl rfl ?_
 refine s_val rfl rfl (r_lss rfl rfl) rfl ?_
 refine s_end ?_
 refine go_seq ?_
 refine go_ifb _ rfl (fun h2 => ?_) (fun h2 => ?_)
 ·first | replace h2 := dcT h2 | replace h2 := dcF (nt h2) | skip
  have ob_9 := hls.2 k (by omega)
  obtain ⟨ak, nk, ck, hvk, hlk, hck, hak⟩ := ob_9
  have hfl := flat_succ ls k (by omega)
  have hfl2 : (ls.take (k + 1)).flatten.length = (ls.take k).flatten.length + nk := by rw [hfl, List.length_append, hlk]
  have hfl3 := flat_le ls (k + 1)
  refine go_skip ?_
  refine go_seq ?_
  refine go_block ?_
  refine go_seq ?_
  refine go_region 3 rfl rfl ?_
  refine s_val rfl rfl (r_indexSl (k := k) Tryz.runUnderlying62 Tryz.sizeOf55 rfl (hsl.k C_w1) (by intro h_; rw [h_] at hn; simp at hn; omega) rfl (by first | rfl | omega) (by omega)) rfl ?_
  refine s_val rfl rfl (r_loadSl1 Tryz.isAgg55 rfl (hsl.k C_w1) hvk) rfl ?_
  refine s_val rfl rfl (r_assign) rfl ?_
  refine s_end ?_
  refine go_seq ?_
  refine go_region 5 rfl rfl ?_
  refine s_val rfl rfl (r_move) rfl ?_
  refine s_val rfl rfl (r_move) rfl ?_
  refine s_val rfl rfl (r_len Tryz.runUnderlying55 rfl) rfl ?_
  refine s_val rfl rfl (r_addi rfl rfl (by omega)) rfl ?_
  refine s_val rfl rfl (r_assign) rfl ?_
  refine s_end ?_
  refine go_seq ?_
  refine go_region 2 rfl rfl ?_
  refine s_val rfl rfl (r_move) rfl ?_
  refine s_val rfl rfl (r_lss rfl rfl) rfl ?_
  refine s_end ?_
  refine go_ifb _ rfl (fun h10 => ?_) (fun h10 => ?_)
  ·first | replace h10 := dcT h10 | replace h10 := dcF (nt h10) | skip
   exfalso
   omega
  ·first | replace h10 := dcF h10 | replace h10 := dcT (nf h10) | skip
   refine go_skip ?_
   refine go_nil (block_normal ?_)
   refine go_region 2 rfl rfl ?_
   refine s_val rfl rfl (r_addi rfl rfl (by omega)) rfl ?_
   refine s_val rfl rfl (r_move) rfl ?_
   refine s_end ?_
   refine go_nil (loop_normal ⟨⟨(k + 1, tk + nk), by first | omega | (dsimp only; omega), ⟨rfl, rfl, by omega, by omega, C_w1⟩⟩, (by repeat (first | exact same_refl | exact same_over | refine same_upd rfl ?_ | refine same_over2 rfl ?_))⟩)
 ·first | replace h2 := dcF h2 | replace h2 := dcT (nf h2) | skip
  have hkn : k = n := by omega
  have htl : ls.take k = ls := List.take_of_length_le (by omega)
  rw [htl] at htk
  subst htk
  refine go_exit (loop_exit (block_hit ?_))
  refine go_seq ?_
  refine go_region 3 rfl rfl ?_
  refine s_val rfl rfl (r_move) rfl ?_
  refine s_do rfl rfl (w_call Tryz.call86 rfl (grow_spec _ _ (by omega) (by omega))) rfl ?_
  rintro _ w11 ⟨A13, cap14, rfl, o12, c_w11⟩
  have hs_w11 : w1.heap.size ≤ w11.heap.size := Chg.size c_w11
  have C_w11 := Chg.pure C_w1 c_w11
  refine s_val rfl rfl (r_assign) rfl ?_
  refine s_end ?_
  refine go_seq ?_
  refine go_seq ?_
  refine go_region 3 rfl rfl ?_
  refine s_val rfl rfl (r_move) rfl ?_
  refine s_val rfl rfl (r_len Tryz.runUnderlying62 rfl) rfl ?_
  refine s_val rfl rfl (r_move) rfl ?_
  refine s_end ?_
  refine go_block ?_
  refine go_loopM (σ := Nat × Option Addr × Nat × Nat) [(6, 6), (8, 8), (27, 34)] (fun (x_ : Nat × Option Addr × Nat × Nat) e' w' => match x_ with | (k, a1, n1, c1) => e' 27 = i64 (k : Nat) ∧ e' 6 = Value.slice a1 n1 c1 ∧ k ≤ n ∧ n1 = (ls.take k).flatten.length ∧ w1.heap.size ≤ w'.heap.size ∧ Owns w' (w1.heap.size) 5 1 (Value.slice a1 n1 c1) n1 (bs (ls.take k).flatten) ∧ n1 ≤ c1 ∧ Chg no w w') (fun (x_ : Nat × Option Addr × Nat × Nat) => match x_ with | (k, a1, n1, c1) => n - k) (0, A13, 0, cap14) ?_ ?_
  ·exact ⟨rfl, rfl, by omega, rfl, by omega, o12, by omega, C_w11⟩
  rintro ⟨k, a1, n1, c1⟩ f16 w15 ⟨e17, e18, hk, hn1, hB_ho1, ho1, hc1, C_w15⟩
  have ob_20 : ∃ g_, f16 = upd g_ 27 (i64 (k : Nat)) := ⟨f16, upd_id e17⟩
  obtain ⟨f19, rfl⟩ := ob_20
  have ob_22 : ∃ g_, f19 = upd g_ 6 (Value.slice a1 n1 c1) := ⟨f19, upd_id e18⟩
  obtain ⟨f21, rfl⟩ := ob_22
  clear e17 e18
  have hs_w15 : w.heap.size ≤ w15.heap.size := Chg.size C_w15
  refine go_seq ?_
  refine go_region 1 rfl rfl ?_
  refine s_val rfl rfl (r_lss rfl rfl) rfl ?_
  refine s_end ?_
  refine go_seq ?_
  refine go_ifb _ rfl (fun h3 => ?_) (fun h3 => ?_)
  ·first | replace h3 := dcT h3 | replace h3 := dcF (nt h3) | skip
   have ob_23 := hls.2 k (by omega)
   obtain ⟨ak, nk, ck, hvk, hlk, hck, hak⟩ := ob_23
   have hfl := flat_succ ls k (by omega)
   have hfl2 : (ls.take (k + 1)).flatten.length = (ls.take k).flatten.length + nk := by rw [hfl, List.length_append, hlk]
   have hfl3 := flat_le ls (k + 1)
   refine go_skip ?_
   refine go_seq ?_
   refine go_block ?_
   refine go_seq ?_
   refine go_region 3 rfl rfl ?_
   refine s_val rfl rfl (r_indexSl (k := k) Tryz.runUnderlying62 Tryz.sizeOf55 rfl (hsl.k C_w15) (by intro h_; rw [h_] at hn; simp at hn; omega) rfl (by first | rfl | omega) (by omega)) rfl ?_
   refine s_val rfl rfl (r_loadSl1 Tryz.isAgg55 rfl (hsl.k C_w15) hvk) rfl ?_
   refine s_val rfl rfl (r_assign) rfl ?_
   refine s_end ?_
   refine go_region 4 rfl rfl ?_
   refine s_val rfl rfl (r_move) rfl ?_
   refine s_val rfl rfl (r_move) rfl ?_
   refine s_do rfl rfl (w_append (E := 5) (sz := 1) Tryz.underlying55 rfl (i := Tryz.t5) (by kernel_rfl) rfl rfl rfl rfl (by rfl) ho1 rfl (hak.k C_w15) (by first | (rw [bs_length]; omega) | (simp [bs_length]; done) | (simp [bs_length]; omega) | rfl) (flat_bs _) (by omega) (by show _ * 1 ≤ _; omega) (by omega)) rfl ?_
   rintro v28 w24 ⟨o25, c_w24⟩
   have hs_w24 : w15.heap.size ≤ w24.heap.size := Chg.size c_w24
   have C_w24 := Chg.newOb C_w15 c_w24 ho1 (by omega)
   have hfo_o25 := Owns.form2 o25
   obtain ⟨A26, cap27, e_o25, hc_cap27⟩ := hfo_o25
   subst e_o25
   replace o25 := Owns.appB o25
   refine s_val rfl rfl (r_assign) rfl ?_
   refine s_end ?_
   refine go_nil (block_normal ?_)
   refine go_region 2 rfl rfl ?_
   refine s_val rfl rfl (r_addi rfl rfl (by omega)) rfl ?_
   refine s_val rfl rfl (r_move) rfl ?_
   refine s_end ?_
   refine go_nil (loop_normal ⟨⟨(k + 1, _, n1 + nk, _), by first | omega | (dsimp only; omega), ⟨rfl, rfl, by omega, by omega, by omega, by rw [hfl]; exact o25, by omega, C_w24⟩⟩, (by repeat (first | exact same_refl | exact same_over | refine same_upd rfl ?_ | refine same_over2 rfl ?_))⟩)
  ·first | replace h3 := dcF h3 | replace h3 := dcT (nf h3) | skip
   have hkn : k = n := by omega
   have htl : ls.take k = ls := List.take_of_length_le (by omega)
   rw [htl] at hn1 ho1
   subst hn1
   refine go_exit (loop_exit (block_hit ?_))
   refine go_seq ?_
   refine go_region 2 rfl rfl ?_
   refine s_val rfl rfl (r_move) rfl ?_
   refine s_val rfl rfl (r_assign) rfl ?_
   refine s_end ?_
   refine go_ret ?_
   refine ⟨_, .cons rfl (.nil), ?_⟩
   exact ⟨_, _, rfl, hc1, Owns.mono ho1 (by omega), C_w15⟩
end Go.Proofs.YtippcmedgfmgbaaGreat
end
section
open Go Go.Eng Go.Proofs
namespace Go.Proofs.YtippcmedgfmgbaaGreat
set_option maxHeartbeats 2000000 in
theorem putLong_spec (w : World) :
  Rtn Tryz.prog 38 [.slice none 0 0, i64 0].toArray w (fun v w' => ∃ a c, v = .slice a 8 c ∧ 8 ≤ c ∧ Owns w' w.heap.size 5 1 (.slice a 8 c) 8 (bs (oct8 0)) ∧ Kept w w') := by
 refine fn_body (l := [.slice none 0 0, i64 0]) 19 [.tmp 4] Tryz.func38 rfl Tryz.ntmps38 (Nat.le_of_ble_eq_true rfl) (by rw [Tryz.results38]) ?_
 refine go_seq ?_
 refine go_region 1 rfl rfl ?_
 refine s_val rfl rfl (r_assign) rfl ?_
 refine s_end ?_
 refine go_seq ?_
 refine go_seq ?_
 refine go_region 6 rfl rfl ?_
 refine s_val rfl rfl (r_move) rfl ?_
 refine s_val rfl rfl (r_lss rfl rfl) rfl ?_
 refine s_valB rfl rfl (r_move) rfl (fun h1 => ?_) (fun h1 => ?_)
 ·first | replace h1 := dcT h1 | replace h1 := dcF (nt h1) | skip
  refine s_val_not rfl rfl ?_
  refine s_val_not rfl rfl ?_
  refine s_val rfl rfl (r_pick true rfl) rfl ?_
  refine s_end ?_
  refine go_true rfl ?_
  refine go_region 1 rfl rfl ?_
  refine s_val rfl rfl (r_assign) rfl ?_
  refine s_end ?_
  refine go_seq ?_
  refine go_region 5 rfl rfl ?_
  refine s_val rfl rfl (r_move) rfl ?_
  refine s_val rfl rfl (r_conv_u64 Tryz.runUnderlying3 Tryz.runUnderlying111 rfl) rfl ?_
  refine s_do rfl rfl (w_call Tryz.call63 rfl (oct8_spec 0 _)) rfl ?_
  rintro _ w2 ⟨rfl, c_w2⟩
  have hs_w2 : w.heap.size ≤ w2.heap.size := Chg.size c_w2
  have C_w2 := Chg.pure (Chg.refl no w) c_w2
  refine s_do rfl rfl (w_alloc (bs (List.replicate 8 0)) Tryz.zeroValue109 (by kernel_rfl)) rfl ?_
  rintro _ w3 ⟨b4, rfl, hl_b4, hu_b4, p5, c_w3⟩
  have hs_w3 : w2.heap.size ≤ w3.heap.size := Chg.size c_w3
  have C_w3 := Chg.pure C_w2 c_w3
  have hn_b4 : w.heap.size ≤ b4 := by have := Chg.size C_w3; omega
  refine s_do rfl rfl (w_storeA (o := 0) Tryz.sizeOf109 rfl rfl (bs_len (by first | omega | (simp; try omega))) (flat_bs _) p5 (bs_len (by first | omega | (simp; try omega)))) rfl ?_
  rintro _ w6 ⟨q_w6, c_w6⟩
  have hs_w6 : w3.heap.size ≤ w6.heap.size := Chg.size c_w6
  have C_w6 := Chg.newRng C_w3 c_w6 (by omega)
  have p5 := q_w6
  refine s_end ?_
  refine go_seq ?_
  refine go_region 5 rfl rfl ?_
  refine s_val rfl rfl (r_move) rfl ?_
  refine s_val rfl rfl (r_sliceA (l := 0) (h := 8) (m := 8) Tryz.runUnderlying109 Tryz.sizeOf5 rfl rfl rfl rfl (by first | decide | (intro h_; cases h_)) (by first | decide | omega) (by first | decide | omega | (intro _; omega)) (by first | decide | omega) (by first | decide | omega)) rfl ?_
  refine s_do rfl rfl (w_build2 (E := 55) Tryz.underlying62 (i := Tryz.t55) (by kernel_rfl) rfl rfl rfl rfl rfl rfl rfl) rfl ?_
  rintro _ w7 ⟨b8, rfl, hl_b8, hu_b8, o10, p9, c_w7⟩
  have hs_w7 : w6.heap.size ≤ w7.heap.size := Chg.size c_w7
  replace p5 := p5.k c_w7
  have C_w7 := Chg.pure C_w6 c_w7
  have hn_b8 : w.heap.size ≤ b8 := by have := Chg.size C_w7; omega
  clear o10
  have hcall_ := concatE_spec [[], (oct8 0)] [.slice none 0 0, .slice (some ⟨b4, 0, none⟩) 8 8] (some ⟨b8, 0, none⟩) 2 2 w7 rfl (by decide) (by decide) (by rw [show [[], (oct8 0)].flatten = (oct8 0) by simp, oct8_length]; decide) (by rw [show [[], (oct8 0)].flatten = (oct8 0) by simp, oct8_length]; decide) (SlAt.some p9.rd) (SlsE.two rfl (by decide) SlAt.nil (oct8_length _) (by decide) (SlAt.some p5.rd))
  rw [show [[], (oct8 0)].flatten = (oct8 0) by simp, oct8_length] at hcall_
  refine s_do rfl rfl (w_call Tryz.call64 rfl hcall_) rfl ?_
  rintro _ w11 ⟨aC, cC, rfl, hcC, o12, c_w11⟩
  clear hcall_
  have hs_w11 : w7.heap.size ≤ w11.heap.size := Chg.size c_w11
  replace p5 := p5.k c_w11
  replace p9 := p9.k c_w11
  have C_w11 := Chg.pure C_w7 c_w11
  refine s_val rfl rfl (r_assign) rfl ?_
  refine s_end ?_
  refine go_ret ?_
  refine ⟨_, .cons rfl (.nil), ?_⟩
  exact ⟨_, _, rfl, by omega, Owns.mono o12 (by omega), C_w11⟩
 ·first | replace h1 := dcF h1 | replace h1 := dcT (nf h1) | skip
  refine s_val_g rfl rfl (r_move) rfl ?_
  refine s_val_g rfl rfl (r_gtr rfl rfl) rfl ?_
  refine s_val rfl rfl (r_pick false rfl) rfl ?_
  refine s_end ?_
  refine go_ifb _ rfl (fun h13 => ?_) (fun h13 => ?_)
  ·first | replace h13 := dcT h13 | replace h13 := dcF (nt h13) | skip
   refine go_region 1 rfl rfl ?_
   refine s_val rfl rfl (r_assign) rfl ?_
   refine s_end ?_
   refine go_seq ?_
   refine go_region 5 rfl rfl ?_
   refine s_val rfl rfl (r_move) rfl ?_
   refine s_val rfl rfl (r_conv_u64 Tryz.runUnderlying3 Tryz.runUnderlying111 rfl) rfl ?_
   refine s_do rfl rfl (w_call Tryz.call63 rfl (oct8_spec 0 _)) rfl ?_
   rintro _ w14 ⟨rfl, c_w14⟩
   have hs_w14 : w.heap.size ≤ w14.heap.size := Chg.size c_w14
   have C_w14 := Chg.pure (Chg.refl no w) c_w14
   refine s_do rfl rfl (w_alloc (bs (List.replicate 8 0)) Tryz.zeroValue109 (by kernel_rfl)) rfl ?_
   rintro _ w15 ⟨b16, rfl, hl_b16, hu_b16, p17, c_w15⟩
   have hs_w15 : w14.heap.size ≤ w15.heap.size := Chg.size c_w15
   have C_w15 := Chg.pure C_w14 c_w15
   have hn_b16 : w.heap.size ≤ b16 := by have := Chg.size C_w15; omega
   refine s_do rfl rfl (w_storeA (o := 0) Tryz.sizeOf109 rfl rfl (bs_len (by first | omega | (simp; try omega))) (flat_bs _) p17 (bs_len (by first | omega | (simp; try omega)))) rfl ?_
   rintro _ w18 ⟨q_w18, c_w18⟩
   have hs_w18 : w15.heap.size ≤ w18.heap.size := Chg.size c_w18
   have C_w18 := Chg.newRng C_w15 c_w18 (by omega)
   have p17 := q_w18
   refine s_end ?_
   refine go_seq ?_
   refine go_region 5 rfl rfl ?_
   refine s_val rfl rfl (r_move) rfl ?_
   refine s_val rfl rfl (r_sliceA (l := 0) (h := 8) (m := 8) Tryz.runUnderlying109 Tryz.sizeOf5 rfl rfl rfl rfl (by first | decide | (intro h_; cases h_)) (by first | decide | omega) (by first | decide | omega | (intro _; omega)) (by first | decide | omega) (by first | decide | omega)) rfl ?_
   refine s_do rfl rfl (w_build2 (E := 55) Tryz.underlying62 (i := Tryz.t55) (by kernel_rfl) rfl rfl rfl rfl rfl rfl rfl) rfl ?_
   rintro _ w19 ⟨b20, rfl, hl_b20, hu_b20, o22, p21, c_w19⟩
   have hs_w19 : w18.heap.size ≤ w19.heap.size := Chg.size c_w19
   replace p17 := p17.k c_w19
   have C_w19 := Chg.pure C_w18 c_w19
   have hn_b20 : w.heap.size ≤ b20 := by have := Chg.size C_w19; omega
   clear o22
   have hcall_ := concatE_spec [[], (oct8 0)] [.slice none 0 0, .slice (some ⟨b16, 0, none⟩) 8 8] (some ⟨b20, 0, none⟩) 2 2 w19 rfl (by decide) (by decide) (by rw [show [[], (oct8 0)].flatten = (oct8 0) by simp, oct8_length]; decide) (by rw [show [[], (oct8 0)].flatten = (oct8 0) by simp, oct8_length]; decide) (SlAt.some p21.rd) (SlsE.two rfl (by decide) SlAt.nil (oct8_length _) (by decide) (SlAt.some p17.rd))
   rw [show [[], (oct8 0)].flatten = (oct8 0) by simp, oct8_length] at hcall_
   refine s_do rfl rfl (w_call Tryz.call64 rfl hcall_) rfl ?_
   rintro _ w23 ⟨aC, cC, rfl, hcC, o24, c_w23⟩
   clear hcall_
   have hs_w23 : w19.heap.size ≤ w23.heap.size := Chg.size c_w23
   replace p17 := p17.k c_w23
   replace p21 := p21.k c_w23
   have C_w23 := Chg.pure C_w19 c_w23
   refine s_val rfl rfl (r_assign) rfl ?_
   refine s_end ?_
   refine go_ret ?_
   refine ⟨_, .cons rfl (.nil), ?_⟩
   exact ⟨_, _, rfl, by omega, Owns.mono o24 (by omega), C_w23⟩
  ·first | replace h13 := dcF h13 | replace h13 := dcT (nf h13) | skip
   refine go_skip ?_
   refine go_seq ?_
   refine go_region 5 rfl rfl ?_
   refine s_val rfl rfl (r_move) rfl ?_
   refine s_val rfl rfl (r_conv_u64 Tryz.runUnderlying3 Tryz.runUnderlying111 rfl) rfl ?_
   refine s_do rfl rfl (w_call Tryz.call63 rfl (oct8_spec 0 _)) rfl ?_
   rintro _ w25 ⟨rfl, c_w25⟩
   have hs_w25 : w.heap.size ≤ w25.heap.size := Chg.size c_w25
   have C_w25 := Chg.pure (Chg.refl no w) c_w25
   refine s_do rfl rfl (w_alloc (bs (List.replicate 8 0)) Tryz.zeroValue109 (by kernel_rfl)) rfl ?_
   rintro _ w26 ⟨b27, rfl, hl_b27, hu_b27, p28, c_w26⟩
   have hs_w26 : w25.heap.size ≤ w26.heap.size := Chg.size c_w26
   have C_w26 := Chg.pure C_w25 c_w26
   have hn_b27 : w.heap.size ≤ b27 := by have := Chg.size C_w26; omega
   refine s_do rfl rfl (w_storeA (o := 0) Tryz.sizeOf109 rfl rfl (bs_len (by first | omega | (simp; try omega))) (flat_bs _) p28 (bs_len (by first | omega | (simp; try omega)))) rfl ?_
   rintro _ w29 ⟨q_w29, c_w29⟩
   have hs_w29 : w26.heap.size ≤ w29.heap.size := Chg.size c_w29
   have C_w29 := Chg.newRng C_w26 c_w29 (by omega)
   have p28 := q_w29
   refine s_end ?_
   refine go_seq ?_
   refine go_region 5 rfl rfl ?_
   refine s_val rfl rfl (r_move) rfl ?_
   refine s_val rfl rfl (r_sliceA (l := 0) (h := 8) (m := 8) Tryz.runUnderlying109 Tryz.sizeOf5 rfl rfl rfl rfl (by first | decide | (intro h_; cases h_)) (by first | decide | omega) (by first | decide | omega | (intro _; omega)) (by first | decide | omega) (by first | decide | omega)) rfl ?_
   refine s_do rfl rfl (w_build2 (E := 55) Tryz.underlying62 (i := Tryz.t55) (by kernel_rfl) rfl rfl rfl rfl rfl rfl rfl) rfl ?_
   rintro _ w30 ⟨b31, rfl, hl_b31, hu_b31, o33, p32, c_w30⟩
   have hs_w30 : w29.heap.size ≤ w30.heap.size := Chg.size c_w30
   replace p28 := p28.k c_w30
   have C_w30 := Chg.pure C_w29 c_w30
   have hn_b31 : w.heap.size ≤ b31 := by have := Chg.size C_w30; omega
   clear o33
   have hcall_ := concatE_spec [[], (oct8 0)] [.slice none 0 0, .slice (some ⟨b27, 0, none⟩) 8 8] (some ⟨b31, 0, none⟩) 2 2 w30 rfl (by decide) (by decide) (by rw [show [[], (oct8 0)].flatten = (oct8 0) by simp, oct8_length]; decide) (by rw [show [[], (oct8 0)].flatten = (oct8 0) by simp, oct8_length]; decide) (SlAt.some p32.rd) (SlsE.two rfl (by decide) SlAt.nil (oct8_length _) (by decide) (SlAt.some p28.rd))
   rw [show [[], (oct8 0)].flatten = (oct8 0) by simp, oct8_length] at hcall_
   refine s_do rfl rfl (w_call Tryz.call64 rfl hcall_) rfl ?_
   rintro _ w34 ⟨aC, cC, rfl, hcC, o35, c_w34⟩
   clear hcall_
   have hs_w34 : w30.heap.size ≤ w34.heap.size := Chg.size c_w34
   replace p28 := p28.k c_w34
   replace p32 := p32.k c_w34
   have C_w34 := Chg.pure C_w30 c_w34
   refine s_val rfl rfl (r_assign) rfl ?_
   refine s_end ?_
   refine go_ret ?_
   refine ⟨_, .cons rfl (.nil), ?_⟩
   exact ⟨_, _, rfl, by omega, Owns.mono o35 (by omega), C_w34⟩
end Go.Proofs.YtippcmedgfmgbaaGreat
end
section
open Go Go.Eng Go.Proofs
namespace Go.Proofs.YtippcmedgfmgbaaGreat
set_option maxHeartbeats 2000000 in
theorem sums_spec (d : Int) (ls : List (List UInt8)) (vs : List Value) (a : Option Addr) (n c : Nat) (w : World) (h0 : 0 ≤ d) (h1 : d ≤ 255) (hn : vs.length = n) (hc : n ≤ c) (hbig : n < 4611686018427387904) (hb : (ls.map frameL).flatten.length ≤ 1048576) (hsl : SlAt w a vs) (hls : SlsOk w vs ls) :
  Rtn Tryz.prog 37 [i64 d, Value.slice a n c].toArray w (fun v w' => v = tup [.agg (bs (hashB d (ls.map frameL).flatten)).toArray, i64 0] ∧ Kept w w') := by
 have hlv := hls.1
 refine fn_body (l := [i64 d, Value.slice a n c]) 44 [.cell 4 27, .tmp 5] Tryz.func37 rfl Tryz.ntmps37 (Nat.le_of_ble_eq_true rfl) (by rw [Tryz.results37]) ?_
 refine go_seq ?_
 refine go_region 2 rfl rfl ?_
 refine s_do rfl rfl (w_alloc (bs (List.replicate 32 0)) Tryz.zeroValue27 (by kernel_rfl)) rfl ?_
 rintro _ w1 ⟨b2, rfl, hl_b2, hu_b2, p3, c_w1⟩
 have hs_w1 : w.heap.size ≤ w1.heap.size := Chg.size c_w1
 have C_w1 := Chg.pure (Chg.refl no w) c_w1
 have hn_b2 : w.heap.size ≤ b2 := by have := Chg.size C_w1; omega
 refine s_val rfl rfl (r_assign) rfl ?_
 refine s_end ?_
 refine go_seq ?_
 refine go_region 7 rfl rfl ?_
 refine s_val rfl rfl (r_move) rfl ?_
 refine s_do rfl rfl (w_call Tryz.call59 rfl (newSum_spec _ _ (by omega) (by omega))) rfl ?_
 rintro _ w4 ⟨b5, rfl, hl_b5, hu_b5, sm6, p7, c_w4⟩
 have hs_w4 : w1.heap.size ≤ w4.heap.size := Chg.size c_w4
 replace p3 := p3.k c_w4
 have C_w4 := Chg.pure C_w1 c_w4
 have hn_b5 : w.heap.size ≤ b5 := by have := Chg.size C_w4; omega
 refine s_val rfl rfl (r_move) rfl ?_
 refine s_val rfl rfl (r_extract rfl rfl) rfl ?_
 refine s_val rfl rfl (r_extract rfl rfl) rfl ?_
 refine s_val rfl rfl (r_assign) rfl ?_
 refine s_val rfl rfl (r_assign) rfl ?_
 refine s_end ?_
 refine go_seq ?_
 refine go_seq ?_
 refine go_region 2 rfl rfl ?_
 refine s_val rfl rfl (r_move) rfl ?_
 refine s_val rfl rfl (r_neq rfl rfl) rfl ?_
 refine s_end ?_
 refine go_ifb _ rfl (fun h8 => ?_) (fun h8 => ?_)
 ·first | replace h8 := dcT h8 | replace h8 := dcF (nt h8) | skip
  exfalso
  omega
 ·first | replace h8 := dcF h8 | replace h8 := dcT (nf h8) | skip
  refine go_skip ?_
  refine go_seq ?_
  refine go_seq ?_
  refine go_region 3 rfl rfl ?_
  refine s_val rfl rfl (r_move) rfl ?_
  refine s_val rfl rfl (r_len Tryz.runUnderlying62 rfl) rfl ?_
  refine s_val rfl rfl (r_move) rfl ?_
  refine s_end ?_
  refine go_block ?_
  refine go_loopM (σ := Nat × Nat) [(5, 5), (9, 10), (22, 41)] (fun (x_ : Nat × Nat) e' w' => match x_ with | (k, tk) => e' 22 = i64 (k : Nat) ∧ k ≤ n ∧ tk = ((ls.map frameL).take k).flatten.length ∧ Smr w' b5 (initS d) ((ls.map frameL).take k).flatten ∧ Pc w' b5 97 [i64 (tk : Nat)] ∧ b5 < w'.heap.size ∧ Pc w' b2 0 (bs (List.replicate 32 0)) ∧ b2 < w'.heap.size ∧ Chg no w w') (fun (x_ : Nat × Nat) => match x_ with | (k, tk) => n - k) (0, 0) ?_ ?_
  ·exact ⟨rfl, by omega, rfl, sm6, p7, by omega, p3, by omega, C_w4⟩
  rintro ⟨k, tk⟩ f10 w9 ⟨e11, hk, htk, hsm, htot, hub, p3, hu_b2, C_w9⟩
  have ob_13 : ∃ g_, f10 = upd g_ 22 (i64 (k : Nat)) := ⟨f10, upd_id e11⟩
  obtain ⟨f12, rfl⟩ := ob_13
  clear e11
  have hs_w9 : w.heap.size ≤ w9.heap.size := Chg.size C_w9
  refine go_seq ?_
  refine go_region 1 rfl rfl ?_
  refine s_val rfl rfl (r_lss rfl rfl) rfl ?_
  refine s_end ?_
  refine go_seq ?_
  refine go_ifb _ rfl (fun h2 => ?_) (fun h2 => ?_)
  ·first | replace h2 := dcT h2 | replace h2 := dcF (nt h2) | skip
   have ob_14 := hls.2 k (by omega)
   obtain ⟨ak, nk, ck, hvk, hlk, h0k, hck, hak⟩ := ob_14
   have hak_lt := SlAt.blk hak (bs_ne (by omega))
   have hfl := frm_succ (nk := nk) (show k < ls.length by omega) hlk
   have hfl2 : ((ls.map frameL).take (k + 1)).flatten.length = ((ls.map frameL).take k).flatten.length + 4 + nk := by rw [hfl, List.length_append, List.length_append, oct4_length, hlk]
   have hfl3 := flat_le (ls.map frameL) (k + 1)
   refine go_skip ?_
   refine go_seq ?_
   refine go_block ?_
   refine go_seq ?_
   refine go_region 3 rfl rfl ?_
   refine s_val rfl rfl (r_indexSl (k := k) Tryz.runUnderlying62 Tryz.sizeOf55 rfl (hsl.k C_w9) (by intro h_; rw [h_] at hn; simp at hn; omega) rfl (by first | rfl | omega) (by omega)) rfl ?_
   refine s_val rfl rfl (r_loadSl1 Tryz.isAgg55 rfl (hsl.k C_w9) hvk) rfl ?_
   refine s_val rfl rfl (r_assign) rfl ?_
   refine s_end ?_
   refine go_seq ?_
   refine go_region 6 rfl rfl ?_
   refine s_val rfl rfl (r_move) rfl ?_
   refine s_val rfl rfl (r_len Tryz.runUnderlying55 rfl) rfl ?_
   refine s_val rfl rfl (r_conv_u32 Tryz.runUnderlying3 Tryz.runUnderlying106 rfl) rfl ?_
   refine s_do rfl rfl (w_call Tryz.call60 rfl (oct4_spec (w32 ((nk : Nat) : Int)) _)) rfl ?_
   rintro _ w15 ⟨rfl, c_w15⟩
   have hs_w15 : w9.heap.size ≤ w15.heap.size := Chg.size c_w15
   replace hsm := hsm.k c_w15
   replace htot := htot.k c_w15
   replace p3 := p3.k c_w15
   have C_w15 := Chg.pure C_w9 c_w15
   refine s_do rfl rfl (w_alloc (bs (List.replicate 4 0)) Tryz.zeroValue104 (by kernel_rfl)) rfl ?_
   rintro _ w16 ⟨b17, rfl, hl_b17, hu_b17, p18, c_w16⟩
   have hs_w16 : w15.heap.size ≤ w16.heap.size := Chg.size c_w16
   replace hsm := hsm.k c_w16
   replace htot := htot.k c_w16
   replace p3 := p3.k c_w16
   have C_w16 := Chg.pure C_w15 c_w16
   have hn_b17 : w.heap.size ≤ b17 := by have := Chg.size C_w16; omega
   refine s_do rfl rfl (w_storeA (o := 0) Tryz.sizeOf104 rfl rfl (bs_len (by first | omega | (simp; try omega))) (flat_bs _) p18 (bs_len (by first | omega | (simp; try omega)))) rfl ?_
   rintro _ w19 ⟨q_w19, c_w19⟩
   have hs_w19 : w16.heap.size ≤ w19.heap.size := Chg.size c_w19
   replace hsm := hsm.kb c_w19 (by omega)
   replace htot := htot.kb c_w19 (by omega)
   replace p3 := p3.kb c_w19 (by omega)
   have C_w19 := Chg.newRng C_w16 c_w19 (by omega)
   have p18 := q_w19
   refine s_end ?_
   refine go_seq ?_
   refine go_region 10 rfl rfl ?_
   refine s_val rfl rfl (r_move) rfl ?_
   refine s_val rfl rfl (r_sliceA (l := 0) (h := 4) (m := 4) Tryz.runUnderlying104 Tryz.sizeOf5 rfl rfl rfl rfl (by first | decide | (intro h_; cases h_)) (by first | decide | omega) (by first | decide | omega | (intro _; omega)) (by first | decide | omega) (by first | decide | omega)) rfl ?_
   refine s_do rfl rfl (w_call Tryz.call61 rfl (write_spec _ _ _ b5 _ _ _ _ _ (by first | omega | (simp; try omega)) (by first | omega | (simp; try omega)) (by omega) hsm htot (SlAt.some p18.rd) (by intro x_ hx_; cases hx_; show b17 ≠ b5; omega))) rfl ?_
   rintro _ w20 ⟨rfl, q_w20, t_w20, c_w20⟩
   have hs_w20 : w19.heap.size ≤ w20.heap.size := Chg.size c_w20
   replace p3 := p3.kb c_w20 (by omega)
   replace p18 := p18.kb c_w20 (by omega)
   have C_w20 := Chg.newRng C_w19 c_w20 (by omega)
   have hsm := q_w20
   have htot := t_w20
   refine s_val rfl rfl (r_neq rfl rfl) rfl ?_
   refine s_valB rfl rfl (r_move) rfl (fun h21 => ?_) (fun h21 => ?_)
   ·first | replace h21 := dcT h21 | replace h21 := dcF (nt h21) | skip
    exfalso
    omega
   ·first | replace h21 := dcF h21 | replace h21 := dcT (nf h21) | skip
    refine s_val_g rfl rfl (r_move) rfl ?_
    refine s_val_g rfl rfl (r_move) rfl ?_
    refine s_do_g rfl rfl (w_call Tryz.call61 rfl (write_spec _ _ _ b5 _ _ _ _ _ (by first | omega | (simp; try omega)) (by first | omega | (simp; try omega)) (by omega) hsm htot (hak.k C_w20) (fun x_ hx_ => by have := hak_lt x_ hx_; omega))) rfl ?_
    rintro _ w22 ⟨rfl, q_w22, t_w22, c_w22⟩
    have hs_w22 : w20.heap.size ≤ w22.heap.size := Chg.size c_w22
    replace p3 := p3.kb c_w22 (by omega)
    replace p18 := p18.kb c_w22 (by omega)
    have C_w22 := Chg.newRng C_w20 c_w22 (by omega)
    have hsm := q_w22
    have htot := t_w22
    refine s_val_g rfl rfl (r_neq rfl rfl) rfl ?_
    refine s_val rfl rfl (r_pick false rfl) rfl ?_
    refine s_end ?_
    refine go_ifb _ rfl (fun h23 => ?_) (fun h23 => ?_)
    ·first | replace h23 := dcT h23 | replace h23 := dcF (nt h23) | skip
     exfalso
     omega
    ·first | replace h23 := dcF h23 | replace h23 := dcT (nf h23) | skip
     refine go_skip ?_
     refine go_nil (block_normal ?_)
     refine go_region 2 rfl rfl ?_
     refine s_val rfl rfl (r_addi rfl rfl (by omega)) rfl ?_
     refine s_val rfl rfl (r_move) rfl ?_
     refine s_end ?_
     refine go_nil (loop_normal ⟨⟨(k + 1, tk + 4 + nk), by first | omega | (dsimp only; omega), ⟨rfl, by omega, by omega, by rw [hfl]; exact hsm, htot, by omega, p3, by omega, C_w22⟩⟩, (by repeat (first | exact same_refl | exact same_over | refine same_upd rfl ?_ | refine same_over2 rfl ?_))⟩)
  ·first | replace h2 := dcF h2 | replace h2 := dcT (nf h2) | skip
   have hkn : k = n := by omega
   have htl : (ls.map frameL).take k = (ls.map frameL) := List.take_of_length_le (by rw [List.length_map]; omega)
   have htk2 := flat_le (ls.map frameL) k
   refine go_exit (loop_exit (block_hit ?_))
   refine go_seq ?_
   refine go_region 4 rfl rfl ?_
   refine s_val rfl rfl (r_move) rfl ?_
   refine s_do rfl rfl (w_call Tryz.call62 rfl (sum_spec _ _ _ _ _ (by omega) hsm htot.rd)) rfl ?_
   rintro _ w24 ⟨rfl, c_w24⟩
   have hs_w24 : w9.heap.size ≤ w24.heap.size := Chg.size c_w24
   replace hsm := hsm.k c_w24
   replace htot := htot.k c_w24
   replace p3 := p3.k c_w24
   have C_w24 := Chg.pure C_w9 c_w24
   refine s_do rfl rfl (w_storeA (o := 0) Tryz.sizeOf27 rfl rfl (bs_len (by first | omega | (simp; try omega))) (flat_bs _) p3 (bs_len (by first | omega | (simp; try omega)))) rfl ?_
   rintro _ w25 ⟨q_w25, c_w25⟩
   have hs_w25 : w24.heap.size ≤ w25.heap.size := Chg.size c_w25
   replace hsm := hsm.kb c_w25 (by omega)
   replace htot := htot.kb c_w25 (by omega)
   have C_w25 := Chg.newRng C_w24 c_w25 (by omega)
   have p3 := q_w25
   refine s_val rfl rfl (r_assign) rfl ?_
   refine s_end ?_
   refine go_ret ?_
   refine ⟨_, .cons ⟨_, rfl, run_load_agg Tryz.isAgg27 Tryz.sizeOf27 (bs_len (by first | omega | (simp; try omega))) p3.rd⟩ (.cons rfl (.nil)), ?_⟩
   have e2 : (endF (initS d) ((ls.map frameL).take k).flatten tk).take 32 = hashB d (ls.map frameL).flatten := by rw [htl, htk, htl]; rfl
   exact ⟨congrArg (fun x => tup [Value.agg (bs x).toArray, i64 0]) e2, C_w25⟩
end Go.Proofs.YtippcmedgfmgbaaGreat
end
section
open Go Go.Eng Go.Proofs
namespace Go.Proofs.YtippcmedgfmgbaaGreat
theorem badEpoch0 (w : World) : Rtn Tryz.prog 36 [i64 0].toArray w (fun v w' => v = .bool false ∧ Kept w w') :=
  (badEpoch_spec 0 w).mono fun v w' ⟨e, k⟩ => ⟨e.trans (congrArg Value.bool (decide_eq_false (by omega))), k⟩
set_option maxHeartbeats 4000000 in
theorem commit_spec (secret : List UInt8) (w : World) (hk : secret.length = 32) :
  Rtn Tryz.prog 14 [.agg (bs secret).toArray, .string rootS, i64 0].toArray w (fun v w' => v = tup [.agg (bs (hashB 7 (comB secret))).toArray, i64 0] ∧ Kept w w') := by
 refine fn_body (l := [.agg (bs secret).toArray, .string rootS, i64 0]) 24 [.cell 6 27, .tmp 7] Tryz.func14 rfl Tryz.ntmps14 (Nat.le_of_ble_eq_true rfl) (by rw [Tryz.results14]) ?_
 refine go_seq ?_
 refine go_region 3 rfl rfl ?_
 refine s_do rfl rfl (w_boxA rfl) rfl ?_
 rintro _ w1 ⟨b2, rfl, hl_b2, hu_b2, p3, c_w1⟩
 have hs_w1 : w.heap.size ≤ w1.heap.size := Chg.size c_w1
 have C_w1 := Chg.pure (Chg.refl no w) c_w1
 have hn_b2 : w.heap.size ≤ b2 := by have := Chg.size C_w1; omega
 refine s_do rfl rfl (w_alloc (bs (List.replicate 32 0)) Tryz.zeroValue27 (by kernel_rfl)) rfl ?_
 rintro _ w4 ⟨b5, rfl, hl_b5, hu_b5, p6, c_w4⟩
 have hs_w4 : w1.heap.size ≤ w4.heap.size := Chg.size c_w4
 replace p3 := p3.k c_w4
 have C_w4 := Chg.pure C_w1 c_w4
 have hn_b5 : w.heap.size ≤ b5 := by have := Chg.size C_w4; omega
 refine s_val rfl rfl (r_assign) rfl ?_
 refine s_end ?_
 refine go_seq ?_
 refine go_seq ?_
 refine go_region 3 rfl rfl ?_
 refine s_val rfl rfl (r_move) rfl ?_
 refine s_do rfl rfl (w_call Tryz.call35 rfl (isNameB_spec _)) rfl ?_
 rintro _ w7 ⟨rfl, c_w7⟩
 have hs_w7 : w4.heap.size ≤ w7.heap.size := Chg.size c_w7
 replace p3 := p3.k c_w7
 replace p6 := p6.k c_w7
 have C_w7 := Chg.pure C_w4 c_w7
 refine s_val rfl rfl (r_not rfl) rfl ?_
 refine s_end ?_
 refine go_false rfl ?_
 refine go_skip ?_
 refine go_seq ?_
 refine go_seq ?_
 refine go_region 2 rfl rfl ?_
 refine s_val rfl rfl (r_move) rfl ?_
 refine s_do rfl rfl (w_call Tryz.call36 rfl (badEpoch0 _)) rfl ?_
 rintro _ w8 ⟨rfl, c_w8⟩
 have hs_w8 : w7.heap.size ≤ w8.heap.size := Chg.size c_w8
 replace p3 := p3.k c_w8
 replace p6 := p6.k c_w8
 have C_w8 := Chg.pure C_w7 c_w8
 refine s_end ?_
 refine go_false rfl ?_
 refine go_skip ?_
 refine go_seq ?_
 refine go_drawsM (M := no) 9 (.take 0 (.take 1 (.take 3 (.alts (.eff 2 (.eff 4 (.eff 5 (.eff 6 (.take 7 (.take 8 (.eff 9 (.eff 10 .done)))))))) (.eff 4 (.eff 2 (.eff 5 (.eff 6 (.take 7 (.take 8 (.eff 9 (.eff 10 .done)))))))))))) (by kernel_rfl) (by kernel_rfl) fun w9 c_w9 => ?_
 have hs_w9 : w8.heap.size ≤ w9.heap.size := Chg.size c_w9
 replace p3 := p3.k c_w9
 replace p6 := p6.k c_w9
 have C_w9 := Chg.pure C_w8 c_w9
 have p3_0 := p3
 have p6_0 := p6
 refine s_takeM (M := no) rfl rfl (w0 := w9) (fun x_ c_ => r_sliceA (l := 0) (h := 32) (m := 32) Tryz.runUnderlying23 Tryz.sizeOf5 rfl rfl rfl rfl (by first | decide | (intro h_; cases h_)) (by first | decide | omega) (by first | decide | omega | (intro _; omega)) (by first | decide | omega) (by first | decide | omega)) ?_
 refine s_takeM (M := no) rfl rfl (w0 := w9) (fun x_ c_ => r_move) ?_
 refine s_takeM (M := no) rfl rfl (w0 := w9) (fun x_ c_ => r_move) ?_
 refine s_alts ?_ ?_
 ·
  refine s_fxM rfl rfl (w_convB (l := rootL) Tryz.underlying9 Tryz.underlying55 Tryz.underlying5 rfl) ?_
  rintro _ w10 ⟨bV, cV, rfl, hcV, hl_bV, hu_bV, hV, c_w10⟩
  replace hcV : 4 ≤ cV := hcV
  have hs_w10 : w9.heap.size ≤ w10.heap.size := Chg.size c_w10
  replace p3 := p3.k c_w10
  replace p6 := p6.k c_w10
  have C_w10 := Chg.pure C_w9 c_w10
  have hVs : SlAt w10 (some ⟨bV, 0, none⟩) (bs rootL) := SlAt.some hV
  clear hV
  have K_w10 := Chg.pure (Chg.refl no w9) c_w10
  refine ⟨K_w10, ?_⟩
  refine s_fxM rfl rfl (w_call Tryz.call38 rfl (putLong_spec _)) ?_
  rintro _ w11 ⟨aZ, cZ, rfl, hcZ, oZ, c_w11⟩
  have hs_w11 : w10.heap.size ≤ w11.heap.size := Chg.size c_w11
  replace p3 := p3.k c_w11
  replace p6 := p6.k c_w11
  replace hVs := hVs.k c_w11
  have C_w11 := Chg.pure C_w10 c_w11
  have hZ := Owns.sl oZ
  clear oZ
  have K_w11 := Chg.pure K_w10 c_w11
  refine ⟨K_w11, ?_⟩
  refine s_fxM rfl rfl (w_build3 (E := 55) Tryz.underlying62 (i := Tryz.t55) (by kernel_rfl) rfl rfl rfl rfl rfl rfl rfl rfl rfl) ?_
  rintro _ w12 ⟨b13, rfl, hl_b13, hu_b13, o15, p14, c_w12⟩
  have hs_w12 : w11.heap.size ≤ w12.heap.size := Chg.size c_w12
  replace p3 := p3.k c_w12
  replace p6 := p6.k c_w12
  replace hVs := hVs.k c_w12
  replace hZ := hZ.k c_w12
  have C_w12 := Chg.pure C_w11 c_w12
  have hn_b13 : w.heap.size ≤ b13 := by have := Chg.size C_w12; omega
  clear o15
  replace p14 : Pc w12 b13 0 [(Value.slice (some ⟨b2, 0, none⟩) 32 (32 - 0)), (Value.slice (some ⟨bV, 0, none⟩) 4 cV), (Value.slice aZ 8 cZ)] := p14
  have K_w12 := Chg.pure K_w11 c_w12
  refine ⟨K_w12, ?_⟩
  have hcall_ := sums_spec 7 [secret, rootL, oct8 0] [(Value.slice (some ⟨b2, 0, none⟩) 32 (32 - 0)), (Value.slice (some ⟨bV, 0, none⟩) 4 cV), (Value.slice aZ 8 cZ)] (some ⟨b13, 0, none⟩) 3 3 w12 (by decide) (by decide) rfl (by decide) (by decide) (by rw [show ([secret, rootL, oct8 0].map frameL).flatten = comB secret from rfl, comB_length hk]; decide) (SlAt.some p14.rd) (SlsOk.three hk (by decide) (by omega) (SlAt.some p3.rd) rfl (by decide) (by omega) hVs rfl (by decide) (by omega) hZ)
  replace hcall_ : Rtn Tryz.prog 37 _ w12 (fun v w' => v = tup [.agg (bs (hashB 7 (comB secret))).toArray, i64 0] ∧ Kept w12 w') := hcall_
  have hhl_ := hashB_length 7 (comB secret)
  refine s_fxM rfl rfl (w_call Tryz.call37 rfl hcall_) ?_
  rintro _ w16 ⟨rfl, c_w16⟩
  clear hcall_
  have hs_w16 : w12.heap.size ≤ w16.heap.size := Chg.size c_w16
  replace p3 := p3.k c_w16
  replace p6 := p6.k c_w16
  replace p14 := p14.k c_w16
  have C_w16 := Chg.pure C_w12 c_w16
  have K_w16 := Chg.pure K_w12 c_w16
  refine ⟨K_w16, ?_⟩
  refine s_takeM (M := no) rfl rfl (w0 := w9) (fun x_ c_ => r_extract rfl rfl) ?_
  refine s_takeM (M := no) rfl rfl (w0 := w9) (fun x_ c_ => r_extract rfl rfl) ?_
  refine s_do rfl rfl (w_storeA (o := 0) Tryz.sizeOf27 rfl rfl (bs_len (by first | omega | (simp; try omega))) (flat_bs _) p6 (bs_len (by first | omega | (simp; try omega)))) rfl ?_
  rintro _ w17 ⟨q_w17, c_w17⟩
  have hs_w17 : w16.heap.size ≤ w17.heap.size := Chg.size c_w17
  replace p3 := p3.kb c_w17 (by omega)
  replace p14 := p14.kb c_w17 (by omega)
  have C_w17 := Chg.newRng C_w16 c_w17 (by omega)
  have p6 := q_w17
  refine s_val rfl rfl (r_assign) rfl ?_
  refine s_end ?_
  refine go_ret ?_
  refine ⟨_, .cons ⟨_, rfl, run_load_agg Tryz.isAgg27 Tryz.sizeOf27 (bs_len (by first | omega | (simp; try omega))) p6.rd⟩ (.cons rfl (.nil)), ?_⟩
  exact ⟨rfl, C_w17⟩
 ·
  refine s_fxM rfl rfl (w_call Tryz.call38 rfl (putLong_spec _)) ?_
  rintro _ w18 ⟨aZ, cZ, rfl, hcZ, oZ, c_w18⟩
  have hs_w18 : w9.heap.size ≤ w18.heap.size := Chg.size c_w18
  replace p3 := p3.k c_w18
  replace p6 := p6.k c_w18
  have C_w18 := Chg.pure C_w9 c_w18
  have hZ := Owns.sl oZ
  clear oZ
  have K_w18 := Chg.pure (Chg.refl no w9) c_w18
  refine ⟨K_w18, ?_⟩
  refine s_fxM rfl rfl (w_convB (l := rootL) Tryz.underlying9 Tryz.underlying55 Tryz.underlying5 rfl) ?_
  rintro _ w19 ⟨bV, cV, rfl, hcV, hl_bV, hu_bV, hV, c_w19⟩
  replace hcV : 4 ≤ cV := hcV
  have hs_w19 : w18.heap.size ≤ w19.heap.size := Chg.size c_w19
  replace p3 := p3.k c_w19
  replace p6 := p6.k c_w19
  replace hZ := hZ.k c_w19
  have C_w19 := Chg.pure C_w18 c_w19
  have hVs : SlAt w19 (some ⟨bV, 0, none⟩) (bs rootL) := SlAt.some hV
  clear hV
  have K_w19 := Chg.pure K_w18 c_w19
  refine ⟨K_w19, ?_⟩
  refine s_fxM rfl rfl (w_build3 (E := 55) Tryz.underlying62 (i := Tryz.t55) (by kernel_rfl) rfl rfl rfl rfl rfl rfl rfl rfl rfl) ?_
  rintro _ w20 ⟨b21, rfl, hl_b21, hu_b21, o23, p22, c_w20⟩
  have hs_w20 : w19.heap.size ≤ w20.heap.size := Chg.size c_w20
  replace p3 := p3.k c_w20
  replace p6 := p6.k c_w20
  replace hZ := hZ.k c_w20
  replace hVs := hVs.k c_w20
  have C_w20 := Chg.pure C_w19 c_w20
  have hn_b21 : w.heap.size ≤ b21 := by have := Chg.size C_w20; omega
  clear o23
  replace p22 : Pc w20 b21 0 [(Value.slice (some ⟨b2, 0, none⟩) 32 (32 - 0)), (Value.slice (some ⟨bV, 0, none⟩) 4 cV), (Value.slice aZ 8 cZ)] := p22
  have K_w20 := Chg.pure K_w19 c_w20
  refine ⟨K_w20, ?_⟩
  have hcall_ := sums_spec 7 [secret, rootL, oct8 0] [(Value.slice (some ⟨b2, 0, none⟩) 32 (32 - 0)), (Value.slice (some ⟨bV, 0, none⟩) 4 cV), (Value.slice aZ 8 cZ)] (some ⟨b21, 0, none⟩) 3 3 w20 (by decide) (by decide) rfl (by decide) (by decide) (by rw [show ([secret, rootL, oct8 0].map frameL).flatten = comB secret from rfl, comB_length hk]; decide) (SlAt.some p22.rd) (SlsOk.three hk (by decide) (by omega) (SlAt.some p3.rd) rfl (by decide) (by omega) hVs rfl (by decide) (by omega) hZ)
  replace hcall_ : Rtn Tryz.prog 37 _ w20 (fun v w' => v = tup [.agg (bs (hashB 7 (comB secret))).toArray, i64 0] ∧ Kept w20 w') := hcall_
  have hhl_ := hashB_length 7 (comB secret)
  refine s_fxM rfl rfl (w_call Tryz.call37 rfl hcall_) ?_
  rintro _ w24 ⟨rfl, c_w24⟩
  clear hcall_
  have hs_w24 : w20.heap.size ≤ w24.heap.size := Chg.size c_w24
  replace p3 := p3.k c_w24
  replace p6 := p6.k c_w24
  replace p22 := p22.k c_w24
  have C_w24 := Chg.pure C_w20 c_w24
  have K_w24 := Chg.pure K_w20 c_w24
  refine ⟨K_w24, ?_⟩
  refine s_takeM (M := no) rfl rfl (w0 := w9) (fun x_ c_ => r_extract rfl rfl) ?_
  refine s_takeM (M := no) rfl rfl (w0 := w9) (fun x_ c_ => r_extract rfl rfl) ?_
  refine s_do rfl rfl (w_storeA (o := 0) Tryz.sizeOf27 rfl rfl (bs_len (by first | omega | (simp; try omega))) (flat_bs _) p6 (bs_len (by first | omega | (simp; try omega)))) rfl ?_
  rintro _ w25 ⟨q_w25, c_w25⟩
  have hs_w25 : w24.heap.size ≤ w25.heap.size := Chg.size c_w25
  replace p3 := p3.kb c_w25 (by omega)
  replace p22 := p22.kb c_w25 (by omega)
  have C_w25 := Chg.newRng C_w24 c_w25 (by omega)
  have p6 := q_w25
  refine s_val rfl rfl (r_assign) rfl ?_
  refine s_end ?_
  refine go_ret ?_
  refine ⟨_, .cons ⟨_, rfl, run_load_agg Tryz.isAgg27 Tryz.sizeOf27 (bs_len (by first | omega | (simp; try omega))) p6.rd⟩ (.cons rfl (.nil)), ?_⟩
  exact ⟨rfl, C_w25⟩
end Go.Proofs.YtippcmedgfmgbaaGreat
end
section
open Go Go.Eng Go.Proofs
namespace Go.Proofs.YtippcmedgfmgbaaGreat
set_option maxHeartbeats 1000000 in
theorem short_spec (n : Nat) (w : World) (hn : n < 4294967296) :
  Rtn Tryz.prog 47 [i64 (n : Nat)].toArray w (fun v w' => ∃ a c, v = .slice a 4 c ∧ 4 ≤ c ∧ SlAt w' a (bs (oct4 (w32 ((n : Nat) : Int)))) ∧ (∀ x, a = some x → w.heap.size ≤ x.block) ∧ Kept w w') := by
 refine fn_body (l := [i64 (n : Nat)]) 6 [.tmp 2] Tryz.func47 rfl Tryz.ntmps47 (Nat.le_of_ble_eq_true rfl) (by rw [Tryz.results47]) ?_
 refine go_seq ?_
 refine go_region 1 rfl rfl ?_
 refine s_val rfl rfl (r_assign) rfl ?_
 refine s_end ?_
 refine go_seq ?_
 refine go_region 4 rfl rfl ?_
 refine s_val rfl rfl (r_move) rfl ?_
 refine s_do rfl rfl (w_call Tryz.call74 rfl (long_spec _ _ (by omega))) rfl ?_
 rintro _ w1 ⟨b2, rfl, hl_b2, hu_b2, p3, c_w1⟩
 have hs_w1 : w.heap.size ≤ w1.heap.size := Chg.size c_w1
 have C_w1 := Chg.pure (Chg.refl no w) c_w1
 have hn_b2 : w.heap.size ≤ b2 := by have := Chg.size C_w1; omega
 have hcut_ := SlAt.cutB_mid (SlAt.some p3.rd) 4 8 8 (by rw [longTo_length]; decide)
 rw [short_eq2 hn] at hcut_
 refine s_val rfl rfl (r_sliceSl (l := 4) (h := 8) (m := 8) Tryz.runUnderlying55 Tryz.sizeOf5 rfl ⟨_, _, rfl, by first | rfl | omega⟩ rfl rfl (by first | decide | (intro h_; cases h_)) (by decide) (by first | decide | (intro _; decide)) (by decide)) rfl ?_
 refine s_val rfl rfl (r_assign) rfl ?_
 refine s_end ?_
 refine go_ret ?_
 refine ⟨_, .cons rfl (.nil), ?_⟩
 exact ⟨_, _, rfl, by decide, hcut_, cutA_ge (fun x_ hx_ => by obtain rfl := Option.some.inj hx_; show _ ≤ b2; omega), C_w1⟩
set_option maxHeartbeats 2000000 in
theorem octets0_spec (w : World) :
  Rtn Tryz.prog 23 [i64 0, i64 8].toArray w (fun v w' => ∃ b, v = .slice (some ⟨b, 0, none⟩) 8 8 ∧ w.heap.size ≤ b ∧ b < w'.heap.size ∧ Pc w' b 0 (bs (oct8 0)) ∧ Kept w w') := by
 refine fn_body (l := [i64 0, i64 8]) 23 [.tmp 4] Tryz.func23 rfl Tryz.ntmps23 (Nat.le_of_ble_eq_true rfl) (by rw [Tryz.results23]) ?_
 refine go_seq ?_
 refine go_region 1 rfl rfl ?_
 refine s_val rfl rfl (r_assign) rfl ?_
 refine s_end ?_
 refine go_seq ?_
 refine go_region 3 rfl rfl ?_
 refine s_val rfl rfl (r_move) rfl ?_
 refine s_do rfl rfl (w_make (n := 8) (c := 8) (E := 5) Tryz.underlying55 (i := Tryz.t5) (by kernel_rfl) rfl rfl rfl rfl rfl (by first | rfl | omega) (by first | rfl | omega) (by omega) (by first | decide | (show _ * 1 ≤ _; omega) | (show _ * 8 ≤ _; omega)) (by omega)) rfl ?_
 rintro _ w1 ⟨b2, rfl, hl_b2, hu_b2, o4, p3, c_w1⟩
 have hs_w1 : w.heap.size ≤ w1.heap.size := Chg.size c_w1
 have C_w1 := Chg.pure (Chg.refl no w) c_w1
 have hn_b2 : w.heap.size ≤ b2 := by have := Chg.size C_w1; omega
 replace p3 : Pc w1 b2 0 (bs (List.replicate 8 0)) := by rw [bs_rep]; exact p3
 refine s_val rfl rfl (r_assign) rfl ?_
 refine s_end ?_
 refine go_seq ?_
 refine go_seq ?_
 refine go_region 3 rfl rfl ?_
 refine s_val rfl rfl (r_move) rfl ?_
 refine s_val rfl rfl (r_subi rfl rfl (by omega)) rfl ?_
 refine s_val rfl rfl (r_assign) rfl ?_
 refine s_end ?_
 refine go_block ?_
 refine go_loopM (σ := Nat) [(0, 0), (6, 6), (11, 21)] (fun (j : Nat) e' w' => e' 6 = i64 ((j : Int) - 1) ∧ e' 0 = i64 0 ∧ j ≤ 8 ∧ Pc w' b2 0 (bs (List.replicate 8 0)) ∧ b2 < w'.heap.size ∧ Chg no w w') (fun (j : Nat) => j) 8 ?_ ?_
 ·exact ⟨rfl, rfl, by omega, p3, by omega, C_w1⟩
 rintro j f6 w5 ⟨e7, e8, hj, p3, hu_b2, C_w5⟩
 have ob_10 : ∃ g_, f6 = upd g_ 6 (i64 ((j : Int) - 1)) := ⟨f6, upd_id e7⟩
 obtain ⟨f9, rfl⟩ := ob_10
 have ob_12 : ∃ g_, f9 = upd g_ 0 (i64 0) := ⟨f9, upd_id e8⟩
 obtain ⟨f11, rfl⟩ := ob_12
 clear e7 e8
 have hs_w5 : w.heap.size ≤ w5.heap.size := Chg.size C_w5
 refine go_seq ?_
 refine go_seq ?_
 refine go_region 2 rfl rfl ?_
 refine s_val rfl rfl (r_move) rfl ?_
 refine s_val rfl rfl (r_geq rfl rfl) rfl ?_
 refine s_end ?_
 refine go_ifb _ rfl (fun h1 => ?_) (fun h1 => ?_)
 ·first | replace h1 := dcT h1 | replace h1 := dcF (nt h1) | skip
  refine go_skip ?_
  refine go_seq ?_
  refine go_block ?_
  refine go_seq ?_
  refine go_region 6 rfl rfl ?_
  refine s_val rfl rfl (r_move) rfl ?_
  refine s_val rfl rfl (r_move) rfl ?_
  refine s_val rfl rfl (r_move) rfl ?_
  refine s_val rfl rfl (r_conv_u8 Tryz.runUnderlying3 Tryz.runUnderlying5 rfl) rfl ?_
  refine s_val rfl rfl (r_indexSlQ (k := (j - 1)) Tryz.runUnderlying55 Tryz.sizeOf5 rfl rfl (by first | rfl | omega) (by omega)) rfl ?_
  refine s_do rfl rfl (w_set_b (o := 0) (k := (j - 1)) Tryz.sizeOf5 rfl rfl p3 (by first | omega | (simp; try omega))) rfl ?_
  rintro _ w13 ⟨q_w13, c_w13⟩
  have hs_w13 : w5.heap.size ≤ w13.heap.size := Chg.size c_w13
  have C_w13 := Chg.newRng C_w5 c_w13 (by omega)
  have p3 := q_w13
  refine s_end ?_
  refine go_region 3 rfl rfl ?_
  refine s_val rfl rfl (r_move) rfl ?_
  refine s_val rfl rfl (r_shri rfl rfl (by omega) (by omega)) rfl ?_
  refine s_val rfl rfl (r_assign) rfl ?_
  refine s_end ?_
  refine go_nil (block_normal ?_)
  refine go_region 3 rfl rfl ?_
  refine s_val rfl rfl (r_move) rfl ?_
  refine s_val rfl rfl (r_subi rfl rfl (by omega)) rfl ?_
  refine s_val rfl rfl (r_assign) rfl ?_
  refine s_end ?_
  refine go_nil (loop_normal ⟨⟨(j - 1), by first | omega | (dsimp only; omega), ⟨congrArg i64 (by omega), congrArg i64 (by decide), by omega, (by have h_ := p3; rwa [set_rep0] at h_), by omega, C_w13⟩⟩, (by repeat (first | exact same_refl | exact same_over | refine same_upd rfl ?_ | refine same_over2 rfl ?_))⟩)
 ·first | replace h1 := dcF h1 | replace h1 := dcT (nf h1) | skip
  refine go_exit (loop_exit (block_hit ?_))
  refine go_seq ?_
  refine go_region 2 rfl rfl ?_
  refine s_val rfl rfl (r_move) rfl ?_
  refine s_val rfl rfl (r_assign) rfl ?_
  refine s_end ?_
  refine go_ret ?_
  refine ⟨_, .cons rfl (.nil), ?_⟩
  rw [← oct8_0] at p3
  exact ⟨_, rfl, hn_b2, by omega, p3, C_w5⟩
end Go.Proofs.YtippcmedgfmgbaaGreat
end
section
open Go Go.Eng Go.Proofs
namespace Go.Proofs.YtippcmedgfmgbaaGreat
set_option maxHeartbeats 2000000 in
theorem framed_spec (ls : List (List UInt8)) (vs : List Value) (a : Option Addr) (n c : Nat) (w : World) (hn : vs.length = n) (hbig : n < 4611686018427387904) (hb : (ls.map frameL).flatten.length ≤ 1048576) (hsl : SlAt w a vs) (hls : SlsOk w vs ls) :
  Rtn Tryz.prog 22 [Value.slice a n c].toArray w (fun v w' => ∃ a c, v = .slice a (ls.map frameL).flatten.length c ∧ (ls.map frameL).flatten.length ≤ c ∧ SlAt w' a (bs (ls.map frameL).flatten) ∧ Kept w w') := by
 have hlv := hls.1
 refine fn_body (l := [Value.slice a n c]) 21 [.tmp 2] Tryz.func22 rfl Tryz.ntmps22 (Nat.le_of_ble_eq_true rfl) (by rw [Tryz.results22]) ?_
 refine go_seq ?_
 refine go_region 1 rfl rfl ?_
 refine s_val rfl rfl (r_assign) rfl ?_
 refine s_end ?_
 refine go_seq ?_
 refine go_region 1 rfl rfl ?_
 refine s_val rfl rfl (r_assign) rfl ?_
 refine s_end ?_
 refine go_seq ?_
 refine go_seq ?_
 refine go_region 3 rfl rfl ?_
 refine s_val rfl rfl (r_move) rfl ?_
 refine s_val rfl rfl (r_len Tryz.runUnderlying62 rfl) rfl ?_
 refine s_val rfl rfl (r_move) rfl ?_
 refine s_end ?_
 refine go_block ?_
 refine go_loopM (σ := Nat × Option Addr × Nat × Nat) [(3, 3), (5, 5), (8, 19)] (fun (x_ : Nat × Option Addr × Nat × Nat) e' w' => match x_ with | (k, a1, n1, c1) => e' 8 = i64 (k : Nat) ∧ e' 3 = Value.slice a1 n1 c1 ∧ k ≤ n ∧ n1 = ((ls.map frameL).take k).flatten.length ∧ w.heap.size ≤ w'.heap.size ∧ Owns w' w.heap.size 5 1 (Value.slice a1 n1 c1) n1 (bs ((ls.map frameL).take k).flatten) ∧ n1 ≤ c1 ∧ Chg no w w') (fun (x_ : Nat × Option Addr × Nat × Nat) => match x_ with | (k, a1, n1, c1) => n - k) (0, none, 0, 0) ?_ ?_
 ·exact ⟨rfl, rfl, by omega, rfl, by omega, Owns.nil _ _ _ _, by omega, (Chg.refl no w)⟩
 rintro ⟨k, a1, n1, c1⟩ f2 w1 ⟨e3, e4, hk, hn1, hB_ho1, ho1, hc1, C_w1⟩
 have ob_6 : ∃ g_, f2 = upd g_ 8 (i64 (k : Nat)) := ⟨f2, upd_id e3⟩
 obtain ⟨f5, rfl⟩ := ob_6
 have ob_8 : ∃ g_, f5 = upd g_ 3 (Value.slice a1 n1 c1) := ⟨f5, upd_id e4⟩
 obtain ⟨f7, rfl⟩ := ob_8
 clear e3 e4
 have hs_w1 : w.heap.size ≤ w1.heap.size := Chg.size C_w1
 refine go_seq ?_
 refine go_region 1 rfl rfl ?_
 refine s_val rfl rfl (r_lss rfl rfl) rfl ?_
 refine s_end ?_
 refine go_seq ?_
 refine go_ifb _ rfl (fun h2 => ?_) (fun h2 => ?_)
 ·first | replace h2 := dcT h2 | replace h2 := dcF (nt h2) | skip
  have ob_9 := hls.2 k (by omega)
  obtain ⟨ak, nk, ck, hvk, hlk, h0k, hck, hak⟩ := ob_9
  have hak_lt := SlAt.blk hak (bs_ne (by omega))
  have hfl := frm_succ (nk := nk) (show k < ls.length by omega) hlk
  have hfl2 : ((ls.map frameL).take (k + 1)).flatten.length = ((ls.map frameL).take k).flatten.length + 4 + nk := by rw [hfl, List.length_append, List.length_append, oct4_length, hlk]
  have hfl3 := flat_le (ls.map frameL) (k + 1)
  refine go_skip ?_
  refine go_seq ?_
  refine go_block ?_
  refine go_seq ?_
  refine go_region 3 rfl rfl ?_
  refine s_val rfl rfl (r_indexSl (k := k) Tryz.runUnderlying62 Tryz.sizeOf55 rfl (hsl.k C_w1) (by intro h_; rw [h_] at hn; simp at hn; omega) rfl (by first | rfl | omega) (by omega)) rfl ?_
  refine s_val rfl rfl (r_loadSl1 Tryz.isAgg55 rfl (hsl.k C_w1) hvk) rfl ?_
  refine s_val rfl rfl (r_assign) rfl ?_
  refine s_end ?_
  refine go_region 8 rfl rfl ?_
  refine s_val rfl rfl (r_move) rfl ?_
  refine s_val rfl rfl (r_move) rfl ?_
  refine s_val rfl rfl (r_len Tryz.runUnderlying55 rfl) rfl ?_
  refine s_do rfl rfl (w_call Tryz.call47 rfl (short_spec nk _ (by omega))) rfl ?_
  rintro _ w10 ⟨aS, cS, rfl, hcS, hS, hloS, c_w10⟩
  have hs_w10 : w1.heap.size ≤ w10.heap.size := Chg.size c_w10
  replace ho1 := ho1.k c_w10
  have C_w10 := Chg.pure C_w1 c_w10
  refine s_do rfl rfl (w_append (E := 5) (sz := 1) Tryz.underlying55 rfl (i := Tryz.t5) (by kernel_rfl) rfl rfl rfl rfl (by rfl) ho1 rfl hS (by first | (rw [bs_length]; omega) | (simp [bs_length]; done) | (simp [bs_length]; omega) | rfl) (flat_bs _) (by omega) (by show _ * 1 ≤ _; omega) (by omega)) rfl ?_
  rintro v15 w11 ⟨o12, c_w11⟩
  have hs_w11 : w10.heap.size ≤ w11.heap.size := Chg.size c_w11
  have C_w11 := Chg.newOb C_w10 c_w11 ho1 (by omega)
  have hfo_o12 := Owns.form2 o12
  obtain ⟨A13, cap14, e_o12, hc_cap14⟩ := hfo_o12
  subst e_o12
  replace o12 := Owns.appB o12
  refine s_val rfl rfl (r_move) rfl ?_
  refine s_do rfl rfl (w_append (E := 5) (sz := 1) Tryz.underlying55 rfl (i := Tryz.t5) (by kernel_rfl) rfl rfl rfl rfl (by rfl) o12 rfl (hak.k C_w11) (by first | (rw [bs_length]; omega) | (simp [bs_length]; done) | (simp [bs_length]; omega) | rfl) (flat_bs _) (by omega) (by show _ * 1 ≤ _; omega) (by omega)) rfl ?_
  rintro v20 w16 ⟨o17, c_w16⟩
  have hs_w16 : w11.heap.size ≤ w16.heap.size := Chg.size c_w16
  have C_w16 := Chg.newOb C_w11 c_w16 o12 (by omega)
  have hfo_o17 := Owns.form2 o17
  obtain ⟨A18, cap19, e_o17, hc_cap19⟩ := hfo_o17
  subst e_o17
  replace o17 := Owns.appB o17
  refine s_val rfl rfl (r_assign) rfl ?_
  refine s_end ?_
  refine go_nil (block_normal ?_)
  refine go_region 2 rfl rfl ?_
  refine s_val rfl rfl (r_addi rfl rfl (by omega)) rfl ?_
  refine s_val rfl rfl (r_move) rfl ?_
  refine s_end ?_
  refine go_nil (loop_normal ⟨⟨(k + 1, A18, n1 + 4 + nk, cap19), by first | omega | (dsimp only; omega), ⟨rfl, rfl, by omega, by omega, by omega, by rw [hfl]; exact o17, by omega, C_w16⟩⟩, (by repeat (first | exact same_refl | exact same_over | refine same_upd rfl ?_ | refine same_over2 rfl ?_))⟩)
 ·first | replace h2 := dcF h2 | replace h2 := dcT (nf h2) | skip
  have hkn : k = n := by omega
  have htl : (ls.map frameL).take k = (ls.map frameL) := List.take_of_length_le (by rw [List.length_map]; omega)
  rw [htl] at hn1 ho1
  subst hn1
  refine go_exit (loop_exit (block_hit ?_))
  refine go_seq ?_
  refine go_region 2 rfl rfl ?_
  refine s_val rfl rfl (r_move) rfl ?_
  refine s_val rfl rfl (r_assign) rfl ?_
  refine s_end ?_
  refine go_ret ?_
  refine ⟨_, .cons rfl (.nil), ?_⟩
  exact ⟨_, _, rfl, hc1, Owns.sl ho1, C_w1⟩
end Go.Proofs.YtippcmedgfmgbaaGreat
end
section
open Go Go.Eng Go.Proofs
namespace Go.Proofs.YtippcmedgfmgbaaGreat
theorem comR_eq (secret : List UInt8) : (stateR 7 (comB secret) (comB secret).length).take 32 = hashB 7 (comB secret) := by
  rw [hash_fn]; rfl
set_option maxHeartbeats 4000000 in
theorem commitR_spec (secret : List UInt8) (w : World) (hk : secret.length = 32) :
  Rtn Tryz.prog 7 [.agg (bs secret).toArray, .string rootS, i64 0].toArray w (fun v w' => v = tup [.agg (bs (hashB 7 (comB secret))).toArray, i64 0] ∧ Kept w w') := by
 refine fn_body (l := [.agg (bs secret).toArray, .string rootS, i64 0]) 24 [.cell 6 27, .tmp 7] Tryz.func7 rfl Tryz.ntmps7 (Nat.le_of_ble_eq_true rfl) (by rw [Tryz.results7]) ?_
 refine go_seq ?_
 refine go_region 3 rfl rfl ?_
 refine s_do rfl rfl (w_boxA rfl) rfl ?_
 rintro _ w1 ⟨b2, rfl, hl_b2, hu_b2, p3, c_w1⟩
 have hs_w1 : w.heap.size ≤ w1.heap.size := Chg.size c_w1
 have C_w1 := Chg.pure (Chg.refl no w) c_w1
 have hn_b2 : w.heap.size ≤ b2 := by have := Chg.size C_w1; omega
 refine s_do rfl rfl (w_alloc (bs (List.replicate 32 0)) Tryz.zeroValue27 (by kernel_rfl)) rfl ?_
 rintro _ w4 ⟨b5, rfl, hl_b5, hu_b5, p6, c_w4⟩
 have hs_w4 : w1.heap.size ≤ w4.heap.size := Chg.size c_w4
 replace p3 := p3.k c_w4
 have C_w4 := Chg.pure C_w1 c_w4
 have hn_b5 : w.heap.size ≤ b5 := by have := Chg.size C_w4; omega
 refine s_val rfl rfl (r_assign) rfl ?_
 refine s_end ?_
 refine go_seq ?_
 refine go_seq ?_
 refine go_region 3 rfl rfl ?_
 refine s_val rfl rfl (r_move) rfl ?_
 refine s_do rfl rfl (w_call Tryz.call20 rfl (isNameR_spec _)) rfl ?_
 rintro _ w7 ⟨rfl, c_w7⟩
 have hs_w7 : w4.heap.size ≤ w7.heap.size := Chg.size c_w7
 replace p3 := p3.k c_w7
 replace p6 := p6.k c_w7
 have C_w7 := Chg.pure C_w4 c_w7
 refine s_val rfl rfl (r_not rfl) rfl ?_
 refine s_end ?_
 refine go_false rfl ?_
 refine go_skip ?_
 refine go_seq ?_
 refine go_seq ?_
 refine go_region 3 rfl rfl ?_
 refine s_val rfl rfl (r_move) rfl ?_
 refine s_do rfl rfl (w_call Tryz.call17 rfl (inR_spec 0 0 4294967295 _ (by decide) (by decide))) rfl ?_
 rintro _ w8 ⟨rfl, c_w8⟩
 have hs_w8 : w7.heap.size ≤ w8.heap.size := Chg.size c_w8
 replace p3 := p3.k c_w8
 replace p6 := p6.k c_w8
 have C_w8 := Chg.pure C_w7 c_w8
 refine s_val rfl rfl (r_not rfl) rfl ?_
 refine s_end ?_
 refine go_false rfl ?_
 refine go_skip ?_
 refine go_seq ?_
 refine go_drawsM (M := no) 5 (.take 0 (.take 1 (.take 3 (.alts (.eff 2 (.eff 4 (.eff 5 (.eff 6 (.eff 7 (.eff 8 (.eff 9 .done))))))) (.eff 4 (.eff 2 (.eff 5 (.eff 6 (.eff 7 (.eff 8 (.eff 9 .done))))))))))) (by kernel_rfl) (by kernel_rfl) fun w9 c_w9 => ?_
 have hs_w9 : w8.heap.size ≤ w9.heap.size := Chg.size c_w9
 replace p3 := p3.k c_w9
 replace p6 := p6.k c_w9
 have C_w9 := Chg.pure C_w8 c_w9
 have p3_0 := p3
 have p6_0 := p6
 refine s_takeM (M := no) rfl rfl (w0 := w9) (fun x_ c_ => r_sliceA (l := 0) (h := 32) (m := 32) Tryz.runUnderlying23 Tryz.sizeOf5 rfl rfl rfl rfl (by first | decide | (intro h_; cases h_)) (by first | decide | omega) (by first | decide | omega | (intro _; omega)) (by first | decide | omega) (by first | decide | omega)) ?_
 refine s_takeM (M := no) rfl rfl (w0 := w9) (fun x_ c_ => r_move) ?_
 refine s_takeM (M := no) rfl rfl (w0 := w9) (fun x_ c_ => r_move) ?_
 refine s_alts ?_ ?_
 ·
  refine s_fxM rfl rfl (w_convB (l := rootL) Tryz.underlying9 Tryz.underlying55 Tryz.underlying5 rfl) ?_
  rintro _ w10 ⟨bV, cV, rfl, hcV, hl_bV, hu_bV, hV, c_w10⟩
  replace hcV : 4 ≤ cV := hcV
  have hs_w10 : w9.heap.size ≤ w10.heap.size := Chg.size c_w10
  replace p3 := p3.k c_w10
  replace p6 := p6.k c_w10
  have C_w10 := Chg.pure C_w9 c_w10
  have hVs : SlAt w10 (some ⟨bV, 0, none⟩) (bs rootL) := SlAt.some hV
  clear hV
  have K_w10 := Chg.pure (Chg.refl no w9) c_w10
  refine ⟨K_w10, ?_⟩
  refine s_fxM rfl rfl (w_call Tryz.call23 rfl (octets0_spec _)) ?_
  rintro _ w11 ⟨bZ, rfl, hl_bZ, hu_bZ, hZ0, c_w11⟩
  have hs_w11 : w10.heap.size ≤ w11.heap.size := Chg.size c_w11
  replace p3 := p3.k c_w11
  replace p6 := p6.k c_w11
  replace hVs := hVs.k c_w11
  have C_w11 := Chg.pure C_w10 c_w11
  have hZ : SlAt w11 (some ⟨bZ, 0, none⟩) (bs (oct8 0)) := SlAt.some hZ0.rd
  clear hZ0
  have K_w11 := Chg.pure K_w10 c_w11
  refine ⟨K_w11, ?_⟩
  refine s_do rfl rfl (w_build3 (E := 55) Tryz.underlying62 (i := Tryz.t55) (by kernel_rfl) rfl rfl rfl rfl rfl rfl rfl rfl rfl) rfl ?_
  rintro _ w12 ⟨b13, rfl, hl_b13, hu_b13, o15, p14, c_w12⟩
  have hs_w12 : w11.heap.size ≤ w12.heap.size := Chg.size c_w12
  replace p3 := p3.k c_w12
  replace p6 := p6.k c_w12
  replace hVs := hVs.k c_w12
  replace hZ := hZ.k c_w12
  have C_w12 := Chg.pure C_w11 c_w12
  have hn_b13 : w.heap.size ≤ b13 := by have := Chg.size C_w12; omega
  clear o15
  replace p14 : Pc w12 b13 0 [(Value.slice (some ⟨b2, 0, none⟩) 32 (32 - 0)), (Value.slice (some ⟨bV, 0, none⟩) 4 cV), (Value.slice (some ⟨bZ, 0, none⟩) 8 8)] := p14
  have hcall_ := framed_spec [secret, rootL, oct8 0] [(Value.slice (some ⟨b2, 0, none⟩) 32 (32 - 0)), (Value.slice (some ⟨bV, 0, none⟩) 4 cV), (Value.slice (some ⟨bZ, 0, none⟩) 8 8)] (some ⟨b13, 0, none⟩) 3 3 w12 rfl (by decide) (by rw [show ([secret, rootL, oct8 0].map frameL).flatten = comB secret from rfl, comB_length hk]; decide) (SlAt.some p14.rd) (SlsOk.three hk (by decide) (by omega) (SlAt.some p3.rd) rfl (by decide) (by omega) hVs rfl (by decide) (by omega) hZ)
  replace hcall_ : Rtn Tryz.prog 22 _ w12 (fun v w' => ∃ a c, v = .slice a (comB secret).length c ∧ (comB secret).length ≤ c ∧ SlAt w' a (bs (comB secret)) ∧ Kept w12 w') := hcall_
  have hcl_ := comB_length hk
  rw [hcl_] at hcall_
  refine s_do rfl rfl (w_call Tryz.call22 rfl hcall_) rfl ?_
  rintro _ w16 ⟨aF, cF, rfl, hcF, hF, c_w16⟩
  clear hcall_
  have hs_w16 : w12.heap.size ≤ w16.heap.size := Chg.size c_w16
  replace p3 := p3.k c_w16
  replace p6 := p6.k c_w16
  replace p14 := p14.k c_w16
  have C_w16 := Chg.pure C_w12 c_w16
  have hcall_ := sumR_spec 7 (comB secret) aF 56 cF w16 hcl_ (by decide) (by decide) hF
  rw [← hcl_, comR_eq, hcl_] at hcall_
  have hhl_ := hashB_length 7 (comB secret)
  refine s_do rfl rfl (w_call Tryz.call21 rfl hcall_) rfl ?_
  rintro _ w17 ⟨rfl, c_w17⟩
  clear hcall_
  have hs_w17 : w16.heap.size ≤ w17.heap.size := Chg.size c_w17
  replace p3 := p3.k c_w17
  replace p6 := p6.k c_w17
  replace p14 := p14.k c_w17
  have C_w17 := Chg.pure C_w16 c_w17
  refine s_do rfl rfl (w_storeA (o := 0) Tryz.sizeOf27 rfl rfl (bs_len (by first | omega | (simp; try omega))) (flat_bs _) p6 (bs_len (by first | omega | (simp; try omega)))) rfl ?_
  rintro _ w18 ⟨q_w18, c_w18⟩
  have hs_w18 : w17.heap.size ≤ w18.heap.size := Chg.size c_w18
  replace p3 := p3.kb c_w18 (by omega)
  replace p14 := p14.kb c_w18 (by omega)
  have C_w18 := Chg.newRng C_w17 c_w18 (by omega)
  have p6 := q_w18
  refine s_val rfl rfl (r_assign) rfl ?_
  refine s_end ?_
  refine go_ret ?_
  refine ⟨_, .cons ⟨_, rfl, run_load_agg Tryz.isAgg27 Tryz.sizeOf27 (bs_len (by first | omega | (simp; try omega))) p6.rd⟩ (.cons rfl (.nil)), ?_⟩
  exact ⟨rfl, C_w18⟩
 ·
  refine s_fxM rfl rfl (w_call Tryz.call23 rfl (octets0_spec _)) ?_
  rintro _ w19 ⟨bZ, rfl, hl_bZ, hu_bZ, hZ0, c_w19⟩
  have hs_w19 : w9.heap.size ≤ w19.heap.size := Chg.size c_w19
  replace p3 := p3.k c_w19
  replace p6 := p6.k c_w19
  have C_w19 := Chg.pure C_w9 c_w19
  have hZ : SlAt w19 (some ⟨bZ, 0, none⟩) (bs (oct8 0)) := SlAt.some hZ0.rd
  clear hZ0
  have K_w19 := Chg.pure (Chg.refl no w9) c_w19
  refine ⟨K_w19, ?_⟩
  refine s_fxM rfl rfl (w_convB (l := rootL) Tryz.underlying9 Tryz.underlying55 Tryz.underlying5 rfl) ?_
  rintro _ w20 ⟨bV, cV, rfl, hcV, hl_bV, hu_bV, hV, c_w20⟩
  replace hcV : 4 ≤ cV := hcV
  have hs_w20 : w19.heap.size ≤ w20.heap.size := Chg.size c_w20
  replace p3 := p3.k c_w20
  replace p6 := p6.k c_w20
  replace hZ := hZ.k c_w20
  have C_w20 := Chg.pure C_w19 c_w20
  have hVs : SlAt w20 (some ⟨bV, 0, none⟩) (bs rootL) := SlAt.some hV
  clear hV
  have K_w20 := Chg.pure K_w19 c_w20
  refine ⟨K_w20, ?_⟩
  refine s_do rfl rfl (w_build3 (E := 55) Tryz.underlying62 (i := Tryz.t55) (by kernel_rfl) rfl rfl rfl rfl rfl rfl rfl rfl rfl) rfl ?_
  rintro _ w21 ⟨b22, rfl, hl_b22, hu_b22, o24, p23, c_w21⟩
  have hs_w21 : w20.heap.size ≤ w21.heap.size := Chg.size c_w21
  replace p3 := p3.k c_w21
  replace p6 := p6.k c_w21
  replace hZ := hZ.k c_w21
  replace hVs := hVs.k c_w21
  have C_w21 := Chg.pure C_w20 c_w21
  have hn_b22 : w.heap.size ≤ b22 := by have := Chg.size C_w21; omega
  clear o24
  replace p23 : Pc w21 b22 0 [(Value.slice (some ⟨b2, 0, none⟩) 32 (32 - 0)), (Value.slice (some ⟨bV, 0, none⟩) 4 cV), (Value.slice (some ⟨bZ, 0, none⟩) 8 8)] := p23
  have hcall_ := framed_spec [secret, rootL, oct8 0] [(Value.slice (some ⟨b2, 0, none⟩) 32 (32 - 0)), (Value.slice (some ⟨bV, 0, none⟩) 4 cV), (Value.slice (some ⟨bZ, 0, none⟩) 8 8)] (some ⟨b22, 0, none⟩) 3 3 w21 rfl (by decide) (by rw [show ([secret, rootL, oct8 0].map frameL).flatten = comB secret from rfl, comB_length hk]; decide) (SlAt.some p23.rd) (SlsOk.three hk (by decide) (by omega) (SlAt.some p3.rd) rfl (by decide) (by omega) hVs rfl (by decide) (by omega) hZ)
  replace hcall_ : Rtn Tryz.prog 22 _ w21 (fun v w' => ∃ a c, v = .slice a (comB secret).length c ∧ (comB secret).length ≤ c ∧ SlAt w' a (bs (comB secret)) ∧ Kept w21 w') := hcall_
  have hcl_ := comB_length hk
  rw [hcl_] at hcall_
  refine s_do rfl rfl (w_call Tryz.call22 rfl hcall_) rfl ?_
  rintro _ w25 ⟨aF, cF, rfl, hcF, hF, c_w25⟩
  clear hcall_
  have hs_w25 : w21.heap.size ≤ w25.heap.size := Chg.size c_w25
  replace p3 := p3.k c_w25
  replace p6 := p6.k c_w25
  replace p23 := p23.k c_w25
  have C_w25 := Chg.pure C_w21 c_w25
  have hcall_ := sumR_spec 7 (comB secret) aF 56 cF w25 hcl_ (by decide) (by decide) hF
  rw [← hcl_, comR_eq, hcl_] at hcall_
  have hhl_ := hashB_length 7 (comB secret)
  refine s_do rfl rfl (w_call Tryz.call21 rfl hcall_) rfl ?_
  rintro _ w26 ⟨rfl, c_w26⟩
  clear hcall_
  have hs_w26 : w25.heap.size ≤ w26.heap.size := Chg.size c_w26
  replace p3 := p3.k c_w26
  replace p6 := p6.k c_w26
  replace p23 := p23.k c_w26
  have C_w26 := Chg.pure C_w25 c_w26
  refine s_do rfl rfl (w_storeA (o := 0) Tryz.sizeOf27 rfl rfl (bs_len (by first | omega | (simp; try omega))) (flat_bs _) p6 (bs_len (by first | omega | (simp; try omega)))) rfl ?_
  rintro _ w27 ⟨q_w27, c_w27⟩
  have hs_w27 : w26.heap.size ≤ w27.heap.size := Chg.size c_w27
  replace p3 := p3.kb c_w27 (by omega)
  replace p23 := p23.kb c_w27 (by omega)
  have C_w27 := Chg.newRng C_w26 c_w27 (by omega)
  have p6 := q_w27
  refine s_val rfl rfl (r_assign) rfl ?_
  refine s_end ?_
  refine go_ret ?_
  refine ⟨_, .cons ⟨_, rfl, run_load_agg Tryz.isAgg27 Tryz.sizeOf27 (bs_len (by first | omega | (simp; try omega))) p6.rd⟩ (.cons rfl (.nil)), ?_⟩
  exact ⟨rfl, C_w27⟩
end Go.Proofs.YtippcmedgfmgbaaGreat
end
