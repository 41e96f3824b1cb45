/- YtippcmedgfmgbaaGreatP13: a calculus of walks, plain facts of the numbers that are shared, and contracts of functions of the program: called in any world that meets a contract's premises, a function returns what the contract says and changes no more than it says. -/
import Derived.Test.YtippcmedgfmgbaaGreatP02
import Derived.Test.YtippcmedgfmgbaaGreatP09
import Derived.Test.YtippcmedgfmgbaaGreatP10
import Derived.Test.YtippcmedgfmgbaaGreatP12
import Derived.Test.YtippcmedgfmgbaaGreatChecked
section
open Go Go.Eng Go.Proofs
namespace Go.Proofs.YtippcmedgfmgbaaGreat
set_option maxHeartbeats 2000000 in
theorem eqSh_spec (S : List Shr) (a b : Option Addr) (n c c2 : Nat) (w : World) (hn : S.length = n) (hb : n ≤ 64) (hS : AllS S) (hsl : SlAt w a (scells S)) (hsm : SlAt w b (scells S)) :
  Rtn Tryz.prog 8 [Value.slice a n c, Value.slice b n c2].toArray w (fun v w' => v = .bool true ∧ Kept w w') := by
 refine fn_body (l := [Value.slice a n c, Value.slice b n c2]) 26 [.tmp 4] Tryz.func8 rfl Tryz.ntmps8 (Nat.le_of_ble_eq_true rfl) (by rw [Tryz.results8]) ?_
 refine go_seq ?_
 refine go_region 1 rfl rfl ?_
 refine s_val rfl rfl (r_assign) rfl ?_
 refine s_end ?_
 refine go_seq ?_
 refine go_seq ?_
 refine go_region 5 rfl rfl ?_
 refine s_val rfl rfl (r_move) rfl ?_
 refine s_val rfl rfl (r_len Tryz.runUnderlying26 rfl) rfl ?_
 refine s_val rfl rfl (r_move) rfl ?_
 refine s_val rfl rfl (r_len Tryz.runUnderlying26 rfl) rfl ?_
 refine s_val rfl rfl (r_neq rfl rfl) rfl ?_
 refine s_end ?_
 refine go_ifb _ rfl (fun h1 => ?_) (fun h1 => ?_)
 ·first | replace h1 := dcT h1 | replace h1 := dcF (nt h1) | skip
  exfalso
  omega
 ·first | replace h1 := dcF h1 | replace h1 := dcT (nf h1) | skip
  refine go_skip ?_
  refine go_seq ?_
  refine go_seq ?_
  refine go_region 3 rfl rfl ?_
  refine s_val rfl rfl (r_move) rfl ?_
  refine s_val rfl rfl (r_len Tryz.runUnderlying26 rfl) rfl ?_
  refine s_val rfl rfl (r_move) rfl ?_
  refine s_end ?_
  refine go_block ?_
  refine go_loopM (σ := Nat) [(4, 5), (13, 25)] (fun (k : Nat) e' w' => e' 13 = i64 (k : Nat) ∧ k ≤ n ∧ Chg no w w') (fun (k : Nat) => n - k) 0 ?_ ?_
  ·exact ⟨rfl, by omega, (Chg.refl no w)⟩
  rintro k f3 w2 ⟨e4, hk, C_w2⟩
  have ob_6 : ∃ g_, f3 = upd g_ 13 (i64 (k : Nat)) := ⟨f3, upd_id e4⟩
  obtain ⟨f5, rfl⟩ := ob_6
  clear e4
  have hs_w2 : w.heap.size ≤ w2.heap.size := Chg.size C_w2
  refine go_seq ?_
  refine go_region 1 rfl rfl ?_
  refine s_val rfl rfl (r_lss rfl rfl) rfl ?_
  refine s_end ?_
  refine go_seq ?_
  refine go_ifb _ rfl (fun h1 => ?_) (fun h1 => ?_)
  ·first | replace h1 := dcT h1 | replace h1 := dcF (nt h1) | skip
   refine go_skip ?_
   refine go_seq ?_
   refine go_block ?_
   refine go_seq ?_
   refine go_region 2 rfl rfl ?_
   refine s_val rfl rfl (r_move) rfl ?_
   refine s_val rfl rfl (r_assign) rfl ?_
   refine s_end ?_
   refine go_seq ?_
   refine go_drawsE 8 (.take 0 (.take 1 (.take 2 (.take 3 (.take 4 (.take 5 (.take 6 (.take 7 (.eff 8 .done))))))))) (by kernel_rfl) (by kernel_rfl) fun w7 c_w7 => ?_
   have hs_w7 : w2.heap.size ≤ w7.heap.size := Chg.size c_w7
   have C_w7 := Chg.pure C_w2 c_w7
   refine s_takeE rfl rfl (r_move) ?_
   refine s_takeE rfl rfl (r_move) ?_
   refine s_takeE rfl rfl (r_indexSl (k := k) Tryz.runUnderlying26 Tryz.sizeOf40 rfl (hsl.k C_w7) (scells_ne hS (by first | omega | (simp; omega))) rfl (by first | rfl | omega) (by omega)) ?_
   refine s_takeE rfl rfl (r_loadSlN Tryz.isAgg40 Tryz.sizeOf40 rfl (hsl.k C_w7) (scell_len (AllS.get hS k)) (scells_ne hS (by first | omega | (simp; omega))) (scells_get hS (by first | omega | (simp; omega)))) ?_
   refine s_takeE rfl rfl (r_move) ?_
   refine s_takeE rfl rfl (r_move) ?_
   refine s_takeE rfl rfl (r_indexSl (k := k) Tryz.runUnderlying26 Tryz.sizeOf40 rfl (hsm.k C_w7) (scells_ne hS (by first | omega | (simp; omega))) rfl (by first | rfl | omega) (by omega)) ?_
   refine s_takeE rfl rfl (r_loadSlN Tryz.isAgg40 Tryz.sizeOf40 rfl (hsm.k C_w7) (scell_len (AllS.get hS k)) (scells_ne hS (by first | omega | (simp; omega))) (scells_get hS (by first | omega | (simp; omega)))) ?_
   refine s_val rfl rfl (r_neqShr (AllS.get hS k) rfl rfl) rfl ?_
   refine s_end ?_
   refine go_false rfl ?_
   refine go_skip ?_
   refine go_nil (block_normal ?_)
   refine go_region 2 rfl rfl ?_
   refine s_val rfl rfl (r_addi rfl rfl (by omega)) rfl ?_
   refine s_val rfl rfl (r_move) rfl ?_
   refine s_end ?_
   refine go_nil (loop_normal ⟨⟨(k + 1), by first | omega | (dsimp only; omega), ⟨rfl, by omega, C_w7⟩⟩, (by repeat (first | exact same_refl | exact same_over | refine same_upd rfl ?_ | refine same_over2 rfl ?_))⟩)
  ·first | replace h1 := dcF h1 | replace h1 := dcT (nf h1) | skip
   refine go_exit (loop_exit (block_hit ?_))
   refine go_seq ?_
   refine go_region 1 rfl rfl ?_
   refine s_val rfl rfl (r_assign) rfl ?_
   refine s_end ?_
   refine go_ret ?_
   refine ⟨_, .cons rfl (.nil), ?_⟩
   exact ⟨rfl, C_w2⟩
set_option maxHeartbeats 2000000 in
theorem eqId_spec (H : List (List UInt8)) (a b : Option Addr) (n c c2 : Nat) (w : World) (h0 : 0 < n) (hb : n ≤ 64) (hH : H.length = n) (h16 : All16 H) (hsl : SlAt w a (bs H.flatten)) (hsm : SlAt w b (bs H.flatten)) :
  Rtn Tryz.prog 12 [Value.slice a n c, Value.slice b n c2].toArray w (fun v w' => v = .bool true ∧ Kept w w') := by
 obtain ⟨bH, oH, rfl, hrdH⟩ := SlAt.pos hsl (bs_ne (by rw [h16.len]; omega))
 obtain ⟨bG, oG, rfl, hrdG⟩ := SlAt.pos hsm (bs_ne (by rw [h16.len]; omega))
 refine fn_body (l := [Value.slice (some ⟨bH, oH, none⟩) n c, Value.slice (some ⟨bG, oG, none⟩) n c2]) 26 [.tmp 4] Tryz.func12 rfl Tryz.ntmps12 (Nat.le_of_ble_eq_true rfl) (by rw [Tryz.results12]) ?_
 refine go_seq ?_
 refine go_region 1 rfl rfl ?_
 refine s_val rfl rfl (r_assign) rfl ?_
 refine s_end ?_
 refine go_seq ?_
 refine go_seq ?_
 refine go_region 5 rfl rfl ?_
 refine s_val rfl rfl (r_move) rfl ?_
 refine s_val rfl rfl (r_len Tryz.runUnderlying24 rfl) rfl ?_
 refine s_val rfl rfl (r_move) rfl ?_
 refine s_val rfl rfl (r_len Tryz.runUnderlying24 rfl) rfl ?_
 refine s_val rfl rfl (r_neq rfl rfl) rfl ?_
 refine s_end ?_
 refine go_ifb _ rfl (fun h1 => ?_) (fun h1 => ?_)
 ·first | replace h1 := dcT h1 | replace h1 := dcF (nt h1) | skip
  exfalso
  omega
 ·first | replace h1 := dcF h1 | replace h1 := dcT (nf h1) | skip
  refine go_skip ?_
  refine go_seq ?_
  refine go_seq ?_
  refine go_region 3 rfl rfl ?_
  refine s_val rfl rfl (r_move) rfl ?_
  refine s_val rfl rfl (r_len Tryz.runUnderlying24 rfl) rfl ?_
  refine s_val rfl rfl (r_move) rfl ?_
  refine s_end ?_
  refine go_block ?_
  refine go_loopM (σ := Nat) [(4, 5), (13, 25)] (fun (k : Nat) e' w' => e' 13 = i64 (k : Nat) ∧ k ≤ n ∧ Chg no w w') (fun (k : Nat) => n - k) 0 ?_ ?_
  ·exact ⟨rfl, by omega, (Chg.refl no w)⟩
  rintro k f3 w2 ⟨e4, hk, C_w2⟩
  have ob_6 : ∃ g_, f3 = upd g_ 13 (i64 (k : Nat)) := ⟨f3, upd_id e4⟩
  obtain ⟨f5, rfl⟩ := ob_6
  clear e4
  have hs_w2 : w.heap.size ≤ w2.heap.size := Chg.size C_w2
  refine go_seq ?_
  refine go_region 1 rfl rfl ?_
  refine s_val rfl rfl (r_lss rfl rfl) rfl ?_
  refine s_end ?_
  refine go_seq ?_
  refine go_ifb _ rfl (fun h1 => ?_) (fun h1 => ?_)
  ·first | replace h1 := dcT h1 | replace h1 := dcF (nt h1) | skip
   refine go_skip ?_
   refine go_seq ?_
   refine go_block ?_
   refine go_seq ?_
   refine go_region 2 rfl rfl ?_
   refine s_val rfl rfl (r_move) rfl ?_
   refine s_val rfl rfl (r_assign) rfl ?_
   refine s_end ?_
   refine go_seq ?_
   refine go_drawsE 8 (.take 0 (.take 1 (.take 2 (.take 3 (.take 4 (.take 5 (.take 6 (.take 7 (.eff 8 .done))))))))) (by kernel_rfl) (by kernel_rfl) fun w7 c_w7 => ?_
   have hs_w7 : w2.heap.size ≤ w7.heap.size := Chg.size c_w7
   have C_w7 := Chg.pure C_w2 c_w7
   refine s_takeE rfl rfl (r_move) ?_
   refine s_takeE rfl rfl (r_move) ?_
   refine s_takeE rfl rfl (r_indexSlQ (k := k) Tryz.runUnderlying24 Tryz.sizeOf37 rfl rfl (by first | rfl | omega) (by omega)) ?_
   refine s_takeE rfl rfl (r_loadN Tryz.isAgg37 Tryz.sizeOf37 rfl (Rd.hold (hrdH.k C_w7) h16 (by omega)) (bs_len (h16.get (by omega)))) ?_
   refine s_takeE rfl rfl (r_move) ?_
   refine s_takeE rfl rfl (r_move) ?_
   refine s_takeE rfl rfl (r_indexSlQ (k := k) Tryz.runUnderlying24 Tryz.sizeOf37 rfl rfl (by first | rfl | omega) (by omega)) ?_
   refine s_takeE rfl rfl (r_loadN Tryz.isAgg37 Tryz.sizeOf37 rfl (Rd.hold (hrdG.k C_w7) h16 (by omega)) (bs_len (h16.get (by omega)))) ?_
   refine s_val rfl rfl (r_neqId (h16.get (by omega)) rfl rfl) rfl ?_
   refine s_end ?_
   refine go_false rfl ?_
   refine go_skip ?_
   refine go_nil (block_normal ?_)
   refine go_region 2 rfl rfl ?_
   refine s_val rfl rfl (r_addi rfl rfl (by omega)) rfl ?_
   refine s_val rfl rfl (r_move) rfl ?_
   refine s_end ?_
   refine go_nil (loop_normal ⟨⟨(k + 1), by first | omega | (dsimp only; omega), ⟨rfl, by omega, C_w7⟩⟩, (by repeat (first | exact same_refl | exact same_over | refine same_upd rfl ?_ | refine same_over2 rfl ?_))⟩)
  ·first | replace h1 := dcF h1 | replace h1 := dcT (nf h1) | skip
   refine go_exit (loop_exit (block_hit ?_))
   refine go_seq ?_
   refine go_region 1 rfl rfl ?_
   refine s_val rfl rfl (r_assign) rfl ?_
   refine s_end ?_
   refine go_ret ?_
   refine ⟨_, .cons rfl (.nil), ?_⟩
   exact ⟨rfl, C_w2⟩
set_option maxHeartbeats 2000000 in
theorem eqId0_spec (a b : Option Addr) (c c2 : Nat) (w : World) :
  Rtn Tryz.prog 12 [Value.slice a 0 c, Value.slice b 0 c2].toArray w (fun v w' => v = .bool true ∧ Kept w w') := by
 refine fn_body (l := [Value.slice a 0 c, Value.slice b 0 c2]) 26 [.tmp 4] Tryz.func12 rfl Tryz.ntmps12 (Nat.le_of_ble_eq_true rfl) (by rw [Tryz.results12]) ?_
 refine go_seq ?_
 refine go_region 1 rfl rfl ?_
 refine s_val rfl rfl (r_assign) rfl ?_
 refine s_end ?_
 refine go_seq ?_
 refine go_seq ?_
 refine go_region 5 rfl rfl ?_
 refine s_val rfl rfl (r_move) rfl ?_
 refine s_val rfl rfl (r_len Tryz.runUnderlying24 rfl) rfl ?_
 refine s_val rfl rfl (r_move) rfl ?_
 refine s_val rfl rfl (r_len Tryz.runUnderlying24 rfl) rfl ?_
 refine s_val rfl rfl (r_neq rfl rfl) rfl ?_
 refine s_end ?_
 refine go_ifb _ rfl (fun h1 => ?_) (fun h1 => ?_)
 ·first | replace h1 := dcT h1 | replace h1 := dcF (nt h1) | skip
  exfalso
  omega
 ·first | replace h1 := dcF h1 | replace h1 := dcT (nf h1) | skip
  refine go_skip ?_
  refine go_seq ?_
  refine go_seq ?_
  refine go_region 3 rfl rfl ?_
  refine s_val rfl rfl (r_move) rfl ?_
  refine s_val rfl rfl (r_len Tryz.runUnderlying24 rfl) rfl ?_
  refine s_val rfl rfl (r_move) rfl ?_
  refine s_end ?_
  refine go_block ?_
  refine go_loopM (σ := Unit) [(4, 5), (13, 25)] (fun (x_ : Unit) e' w' => match x_ with | () => e' 13 = i64 0 ∧ Chg no w w') (fun (x_ : Unit) => match x_ with | () => 0) () ?_ ?_
  ·exact ⟨rfl, (Chg.refl no w)⟩
  rintro ⟨⟩ f3 w2 ⟨e4, C_w2⟩
  have ob_6 : ∃ g_, f3 = upd g_ 13 (i64 0) := ⟨f3, upd_id e4⟩
  obtain ⟨f5, rfl⟩ := ob_6
  clear e4
  have hs_w2 : w.heap.size ≤ w2.heap.size := Chg.size C_w2
  refine go_seq ?_
  refine go_region 1 rfl rfl ?_
  refine s_val rfl rfl (r_lss rfl rfl) rfl ?_
  refine s_end ?_
  refine go_seq ?_
  refine go_ifb _ rfl (fun h7 => ?_) (fun h7 => ?_)
  ·first | replace h7 := dcT h7 | replace h7 := dcF (nt h7) | skip
   exfalso
   omega
  ·first | replace h7 := dcF h7 | replace h7 := dcT (nf h7) | skip
   refine go_exit (loop_exit (block_hit ?_))
   refine go_seq ?_
   refine go_region 1 rfl rfl ?_
   refine s_val rfl rfl (r_assign) rfl ?_
   refine s_end ?_
   refine go_ret ?_
   refine ⟨_, .cons rfl (.nil), ?_⟩
   exact ⟨rfl, C_w2⟩
end Go.Proofs.YtippcmedgfmgbaaGreat
end
section
open Go Go.Eng Go.Proofs
namespace Go.Proofs.YtippcmedgfmgbaaGreat
set_option maxHeartbeats 4000000 in
set_option maxRecDepth 100000 in
theorem splitRoot_spec (secret seed : List UInt8) (need : Nat) (H : List (List UInt8)) (aH : Option Addr) (n cH : Nat) (w : World) (hk : secret.length = 32) (hs : seed.length = 32) (h0 : 0 < need) (hnn : need ≤ n) (hb : n ≤ 32) (hH : H.length = n) (h16 : All16 H) (hord : ordTo H n = false) (hslH : SlAt w aH (bs H.flatten)) :
  Rtn Tryz.prog 4 [.agg (bs secret).toArray, i64 (need : Nat), Value.slice aH n cH, .agg (bs seed).toArray].toArray w (fun v w' => ∃ b, v = tup [.slice (some ⟨b, 0, none⟩) n n, .agg (bs (hashB 7 (comB secret))).toArray, i64 0] ∧ w.heap.size ≤ b ∧ b < w'.heap.size ∧ Pc w' b 0 (scells (valS secret seed need n H)) ∧ Kept w w') := by
 refine fn_body (l := [.agg (bs secret).toArray, i64 (need : Nat), Value.slice aH n cH, .agg (bs seed).toArray]) 37 [.tmp 8, .cell 9 27, .tmp 10] Tryz.func4 rfl Tryz.ntmps4 (Nat.le_of_ble_eq_true rfl) (by rw [Tryz.results4]) ?_
 refine go_seq ?_
 refine go_region 5 rfl rfl ?_
 refine s_do rfl rfl (w_boxA rfl) rfl ?_
 rintro _ w1 ⟨b2, rfl, hl_b2, hu_b2, p3, c_w1⟩
 have hs_w1 : w.heap.size ≤ w1.heap.size := Chg.size c_w1
 have C_w1 := Chg.pure (Chg.refl no w) c_w1
 have hn_b2 : w.heap.size ≤ b2 := by have := Chg.size C_w1; omega
 refine s_do rfl rfl (w_boxA rfl) rfl ?_
 rintro _ w4 ⟨b5, rfl, hl_b5, hu_b5, p6, c_w4⟩
 have hs_w4 : w1.heap.size ≤ w4.heap.size := Chg.size c_w4
 replace p3 := p3.k c_w4
 have C_w4 := Chg.pure C_w1 c_w4
 have hn_b5 : w.heap.size ≤ b5 := by have := Chg.size C_w4; omega
 refine s_val rfl rfl (r_assign) rfl ?_
 refine s_do rfl rfl (w_alloc (bs (List.replicate 32 0)) Tryz.zeroValue27 (by kernel_rfl)) rfl ?_
 rintro _ w7 ⟨b8, rfl, hl_b8, hu_b8, p9, c_w7⟩
 have hs_w7 : w4.heap.size ≤ w7.heap.size := Chg.size c_w7
 replace p3 := p3.k c_w7
 replace p6 := p6.k c_w7
 have C_w7 := Chg.pure C_w4 c_w7
 have hn_b8 : w.heap.size ≤ b8 := by have := Chg.size C_w7; omega
 refine s_val rfl rfl (r_assign) rfl ?_
 refine s_end ?_
 refine go_seq ?_
 refine go_region 10 rfl rfl ?_
 refine s_val rfl rfl (r_loadN Tryz.isAgg23 Tryz.sizeOf23 rfl p3.rd (bs_len (by first | omega | (simp; try omega)))) rfl ?_
 refine s_val rfl rfl (r_move) rfl ?_
 refine s_val rfl rfl (r_move) rfl ?_
 refine s_val rfl rfl (r_loadN Tryz.isAgg23 Tryz.sizeOf23 rfl p6.rd (bs_len (by first | omega | (simp; try omega)))) rfl ?_
 have hcall_ := split_ok_spec secret seed need H aH n cH w7 hk hs h0 hnn hb hH h16 (fun i_ h1_ h2_ => by have h_ := ordTo_ok hord i_ h1_ h2_; rw [compare_swap]; omega) (hslH.k C_w7)
 refine s_do rfl rfl (w_call Tryz.call13 rfl hcall_) rfl ?_
 rintro _ w10 ⟨bS, rfl, hl_bS, hu_bS, hS, c_w10⟩
 clear hcall_
 replace hS : Pc w10 bS 0 (scells (valS secret seed need n H)) := hS
 have hs_w10 : w7.heap.size ≤ w10.heap.size := Chg.size c_w10
 replace p3 := p3.k c_w10
 replace p6 := p6.k c_w10
 replace p9 := p9.k c_w10
 have C_w10 := Chg.pure C_w7 c_w10
 have hn_bS : w.heap.size ≤ bS := by have := Chg.size C_w10; omega
 refine s_val rfl rfl (r_move) rfl ?_
 refine s_val rfl rfl (r_extract rfl rfl) rfl ?_
 refine s_val rfl rfl (r_extract rfl rfl) rfl ?_
 refine s_val rfl rfl (r_assign) rfl ?_
 refine s_val rfl rfl (r_assign) rfl ?_
 refine s_end ?_
 refine go_seq ?_
 refine go_seq ?_
 refine go_region 2 rfl rfl ?_
 refine s_val rfl rfl (r_move) rfl ?_
 refine s_val rfl rfl (r_neq rfl rfl) rfl ?_
 refine s_end ?_
 refine go_ifb _ rfl (fun h11 => ?_) (fun h11 => ?_)
 ·first | replace h11 := dcT h11 | replace h11 := dcF (nt h11) | skip
  exfalso
  omega
 ·first | replace h11 := dcF h11 | replace h11 := dcT (nf h11) | skip
  refine go_skip ?_
  refine go_seq ?_
  refine go_region 8 rfl rfl ?_
  refine s_val rfl rfl (r_loadN Tryz.isAgg23 Tryz.sizeOf23 rfl p3.rd (bs_len (by first | omega | (simp; try omega)))) rfl ?_
  have hhc_ := hashB_length 7 (comB secret)
  refine s_do rfl rfl (w_call Tryz.call14 rfl (commit_spec secret _ hk)) rfl ?_
  rintro _ w12 ⟨rfl, c_w12⟩
  have hs_w12 : w10.heap.size ≤ w12.heap.size := Chg.size c_w12
  replace p3 := p3.k c_w12
  replace p6 := p6.k c_w12
  replace p9 := p9.k c_w12
  replace hS := hS.k c_w12
  have C_w12 := Chg.pure C_w10 c_w12
  refine s_val rfl rfl (r_move) rfl ?_
  refine s_val rfl rfl (r_extract rfl rfl) rfl ?_
  refine s_val rfl rfl (r_extract rfl rfl) rfl ?_
  refine s_do rfl rfl (w_alloc (bs (List.replicate 32 0)) Tryz.zeroValue27 (by kernel_rfl)) rfl ?_
  rintro _ w13 ⟨b14, rfl, hl_b14, hu_b14, p15, c_w13⟩
  have hs_w13 : w12.heap.size ≤ w13.heap.size := Chg.size c_w13
  replace p3 := p3.k c_w13
  replace p6 := p6.k c_w13
  replace p9 := p9.k c_w13
  replace hS := hS.k c_w13
  have C_w13 := Chg.pure C_w12 c_w13
  have hn_b14 : w.heap.size ≤ b14 := by have := Chg.size C_w13; omega
  refine s_do rfl rfl (w_storeA (o := 0) Tryz.sizeOf27 rfl rfl (bs_len (by first | omega | (simp; try omega))) (flat_bs _) p15 (bs_len (by first | omega | (simp; try omega)))) rfl ?_
  rintro _ w16 ⟨q_w16, c_w16⟩
  have hs_w16 : w13.heap.size ≤ w16.heap.size := Chg.size c_w16
  replace p3 := p3.kb c_w16 (by omega)
  replace p6 := p6.kb c_w16 (by omega)
  replace p9 := p9.kb c_w16 (by omega)
  replace hS := hS.kb c_w16 (by omega)
  have C_w16 := Chg.newRng C_w13 c_w16 (by omega)
  have p15 := q_w16
  refine s_val rfl rfl (r_assign) rfl ?_
  refine s_end ?_
  refine go_seq ?_
  refine go_seq ?_
  refine go_region 2 rfl rfl ?_
  refine s_val rfl rfl (r_move) rfl ?_
  refine s_val rfl rfl (r_neq rfl rfl) rfl ?_
  refine s_end ?_
  refine go_ifb _ rfl (fun h17 => ?_) (fun h17 => ?_)
  ·first | replace h17 := dcT h17 | replace h17 := dcF (nt h17) | skip
   exfalso
   omega
  ·first | replace h17 := dcF h17 | replace h17 := dcT (nf h17) | skip
   refine go_skip ?_
   refine go_seq ?_
   refine go_drawsE 3 (.take 0 (.take 1 (.take 2 (.eff 3 (.eff 4 .done))))) (by kernel_rfl) (by kernel_rfl) fun w18 c_w18 => ?_
   have hs_w18 : w16.heap.size ≤ w18.heap.size := Chg.size c_w18
   replace p3 := p3.k c_w18
   replace p6 := p6.k c_w18
   replace p9 := p9.k c_w18
   replace hS := hS.k c_w18
   replace p15 := p15.k c_w18
   have C_w18 := Chg.pure C_w16 c_w18
   refine s_takeE rfl rfl (r_move) ?_
   refine s_takeE rfl rfl (r_loadN Tryz.isAgg27 Tryz.sizeOf27 rfl p15.rd (bs_len (by first | omega | (simp; try omega)))) ?_
   refine s_takeE rfl rfl (r_assign) ?_
   refine s_do rfl rfl (w_storeA (o := 0) Tryz.sizeOf27 rfl rfl (bs_len (by first | omega | (simp; try omega))) (flat_bs _) p9 (bs_len (by first | omega | (simp; try omega)))) rfl ?_
   rintro _ w19 ⟨q_w19, c_w19⟩
   have hs_w19 : w18.heap.size ≤ w19.heap.size := Chg.size c_w19
   replace p3 := p3.kb c_w19 (by omega)
   replace p6 := p6.kb c_w19 (by omega)
   replace hS := hS.kb c_w19 (by omega)
   replace p15 := p15.kb c_w19 (by omega)
   have C_w19 := Chg.newRng C_w18 c_w19 (by omega)
   have p9 := q_w19
   refine s_val rfl rfl (r_assign) rfl ?_
   refine s_end ?_
   refine go_ret ?_
   refine ⟨_, .cons rfl (.cons ⟨_, rfl, run_load_agg Tryz.isAgg27 Tryz.sizeOf27 (bs_len (by first | omega | (simp; try omega))) p9.rd⟩ (.cons rfl (.nil))), ?_⟩
   exact ⟨_, rfl, by omega, by omega, hS, C_w19⟩
set_option maxHeartbeats 4000000 in
set_option maxRecDepth 100000 in
theorem splitRootE_spec (secret seed : List UInt8) (need : Int) (H : List (List UInt8)) (aH : Option Addr) (n cH : Nat) (w : World) (hk : secret.length = 32) (hs : seed.length = 32) (hH : H.length = n) (h16 : All16 H) (hbad : hErrTo need n H n ≠ 0) (hslH : SlAt w aH (bs H.flatten)) :
  Rtn Tryz.prog 4 [.agg (bs secret).toArray, i64 need, Value.slice aH n cH, .agg (bs seed).toArray].toArray w (fun v w' => v = tup [.slice none 0 0, .agg (bs (List.replicate 32 0)).toArray, i64 (hErrTo need n H n)] ∧ Kept w w') := by
 refine fn_body (l := [.agg (bs secret).toArray, i64 need, Value.slice aH n cH, .agg (bs seed).toArray]) 37 [.tmp 8, .cell 9 27, .tmp 10] Tryz.func4 rfl Tryz.ntmps4 (Nat.le_of_ble_eq_true rfl) (by rw [Tryz.results4]) ?_
 refine go_seq ?_
 refine go_region 5 rfl rfl ?_
 refine s_do rfl rfl (w_boxA rfl) rfl ?_
 rintro _ w1 ⟨b2, rfl, hl_b2, hu_b2, p3, c_w1⟩
 have hs_w1 : w.heap.size ≤ w1.heap.size := Chg.size c_w1
 have C_w1 := Chg.pure (Chg.refl no w) c_w1
 have hn_b2 : w.heap.size ≤ b2 := by have := Chg.size C_w1; omega
 refine s_do rfl rfl (w_boxA rfl) rfl ?_
 rintro _ w4 ⟨b5, rfl, hl_b5, hu_b5, p6, c_w4⟩
 have hs_w4 : w1.heap.size ≤ w4.heap.size := Chg.size c_w4
 replace p3 := p3.k c_w4
 have C_w4 := Chg.pure C_w1 c_w4
 have hn_b5 : w.heap.size ≤ b5 := by have := Chg.size C_w4; omega
 refine s_val rfl rfl (r_assign) rfl ?_
 refine s_do rfl rfl (w_alloc (bs (List.replicate 32 0)) Tryz.zeroValue27 (by kernel_rfl)) rfl ?_
 rintro _ w7 ⟨b8, rfl, hl_b8, hu_b8, p9, c_w7⟩
 have hs_w7 : w4.heap.size ≤ w7.heap.size := Chg.size c_w7
 replace p3 := p3.k c_w7
 replace p6 := p6.k c_w7
 have C_w7 := Chg.pure C_w4 c_w7
 have hn_b8 : w.heap.size ≤ b8 := by have := Chg.size C_w7; omega
 refine s_val rfl rfl (r_assign) rfl ?_
 refine s_end ?_
 refine go_seq ?_
 refine go_region 10 rfl rfl ?_
 refine s_val rfl rfl (r_loadN Tryz.isAgg23 Tryz.sizeOf23 rfl p3.rd (bs_len (by first | omega | (simp; try omega)))) rfl ?_
 refine s_val rfl rfl (r_move) rfl ?_
 refine s_val rfl rfl (r_move) rfl ?_
 refine s_val rfl rfl (r_loadN Tryz.isAgg23 Tryz.sizeOf23 rfl p6.rd (bs_len (by first | omega | (simp; try omega)))) rfl ?_
 have hcall_ := splitE_spec secret seed need H aH n cH w7 hk hs hH h16 hbad (hslH.k C_w7)
 refine s_do rfl rfl (w_call Tryz.call13 rfl hcall_) rfl ?_
 rintro _ w10 ⟨rfl, c_w10⟩
 clear hcall_
 have hs_w10 : w7.heap.size ≤ w10.heap.size := Chg.size c_w10
 replace p3 := p3.k c_w10
 replace p6 := p6.k c_w10
 replace p9 := p9.k c_w10
 have C_w10 := Chg.pure C_w7 c_w10
 refine s_val rfl rfl (r_move) rfl ?_
 refine s_val rfl rfl (r_extract rfl rfl) rfl ?_
 refine s_val rfl rfl (r_extract rfl rfl) rfl ?_
 refine s_val rfl rfl (r_assign) rfl ?_
 refine s_val rfl rfl (r_assign) rfl ?_
 refine s_end ?_
 refine go_seq ?_
 refine go_seq ?_
 refine go_region 2 rfl rfl ?_
 refine s_val rfl rfl (r_move) rfl ?_
 refine s_val rfl rfl (r_neq rfl rfl) rfl ?_
 refine s_end ?_
 refine go_ifb _ rfl (fun h11 => ?_) (fun h11 => ?_)
 ·first | replace h11 := dcT h11 | replace h11 := dcF (nt h11) | skip
  refine go_seq ?_
  refine go_region 5 rfl rfl ?_
  refine s_val rfl rfl (r_buildA Tryz.zeroValue27 Tryz.runUnderlying27 Tryz.sizeOf5 (cs := bs (List.replicate 32 0)) (by kernel_rfl)) rfl ?_
  refine s_val rfl rfl (r_move) rfl ?_
  refine s_val rfl rfl (r_assign) rfl ?_
  refine s_do rfl rfl (w_storeA (o := 0) Tryz.sizeOf27 rfl rfl (bs_len (by first | omega | (simp; try omega))) (flat_bs _) p9 (bs_len (by first | omega | (simp; try omega)))) rfl ?_
  rintro _ w12 ⟨q_w12, c_w12⟩
  have hs_w12 : w10.heap.size ≤ w12.heap.size := Chg.size c_w12
  replace p3 := p3.kb c_w12 (by omega)
  replace p6 := p6.kb c_w12 (by omega)
  have C_w12 := Chg.newRng C_w10 c_w12 (by omega)
  have p9 := q_w12
  refine s_val rfl rfl (r_assign) rfl ?_
  refine s_end ?_
  refine go_ret ?_
  refine ⟨_, .cons rfl (.cons ⟨_, rfl, run_load_agg Tryz.isAgg27 Tryz.sizeOf27 (bs_len (by first | omega | (simp; try omega))) p9.rd⟩ (.cons rfl (.nil))), ?_⟩
  exact ⟨rfl, C_w12⟩
 ·first | replace h11 := dcF h11 | replace h11 := dcT (nf h11) | skip
  exfalso
  omega
end Go.Proofs.YtippcmedgfmgbaaGreat
end
section
open Go Go.Eng Go.Proofs
namespace Go.Proofs.YtippcmedgfmgbaaGreat
set_option maxHeartbeats 4000000 in
set_option maxRecDepth 100000 in
theorem joinN_spec (S : List Shr) (a : Option Addr) (n c need : Nat) (mark : List UInt8) (w : World) (hn : S.length = n) (h0 : 0 < need) (hb : n ≤ 32) (hnd : need ≤ n) (hS : AllS S) (hx0 : ∀ s ∈ S, s.x ≠ 0) (hxn : (S.map (·.x)).Nodup) (hhn : (S.map (·.h)).Nodup) (hmk : mark.length = 32) (hm : mendP need S = none) (hsl : SlAt w a (scells S)) :
  Rtn Tryz.prog 10 [i64 (need : Nat), Value.slice a n c, .agg (bs mark).toArray].toArray w (fun v w' => v = tup [.agg (bs (List.replicate 32 0)).toArray, .slice none 0 0, i64 20] ∧ Kept w w') := by
 refine fn_body (l := [i64 (need : Nat), Value.slice a n c, .agg (bs mark).toArray]) 36 [.cell 6 23, .tmp 7, .tmp 8] Tryz.func10 rfl Tryz.ntmps10 (Nat.le_of_ble_eq_true rfl) (by rw [Tryz.results10]) ?_
 refine go_seq ?_
 refine go_region 4 rfl rfl ?_
 refine s_do rfl rfl (w_boxA rfl) rfl ?_
 rintro _ w1 ⟨b2, rfl, hl_b2, hu_b2, p3, c_w1⟩
 have hs_w1 : w.heap.size ≤ w1.heap.size := Chg.size c_w1
 have C_w1 := Chg.pure (Chg.refl no w) c_w1
 have hn_b2 : w.heap.size ≤ b2 := by have := Chg.size C_w1; omega
 refine s_do rfl rfl (w_alloc (bs (List.replicate 32 0)) Tryz.zeroValue23 (by kernel_rfl)) rfl ?_
 rintro _ w4 ⟨b5, rfl, hl_b5, hu_b5, p6, c_w4⟩
 have hs_w4 : w1.heap.size ≤ w4.heap.size := Chg.size c_w4
 replace p3 := p3.k c_w4
 have C_w4 := Chg.pure C_w1 c_w4
 have hn_b5 : w.heap.size ≤ b5 := by have := Chg.size C_w4; omega
 refine s_val rfl rfl (r_assign) rfl ?_
 refine s_val rfl rfl (r_assign) rfl ?_
 refine s_end ?_
 refine go_seq ?_
 refine go_region 11 rfl rfl ?_
 refine s_val rfl rfl (r_move) rfl ?_
 refine s_val rfl rfl (r_move) rfl ?_
 have hcall_ := mend_spec S a n c need w4 hn h0 hb hnd hS hx0 hxn hhn (hsl.k C_w4)
 refine s_do rfl rfl (w_call Tryz.call26 rfl hcall_) rfl ?_
 rintro v8 w7 ⟨_, hpN_, c_w7⟩
 clear hcall_
 have hp_ := hpN_ hm
 clear hpN_
 subst hp_
 have hs_w7 : w4.heap.size ≤ w7.heap.size := Chg.size c_w7
 replace p3 := p3.k c_w7
 replace p6 := p6.k c_w7
 have C_w7 := Chg.pure C_w4 c_w7
 refine s_val rfl rfl (r_move) rfl ?_
 refine s_val rfl rfl (r_extract rfl rfl) rfl ?_
 refine s_val rfl rfl (r_extract rfl rfl) rfl ?_
 refine s_val rfl rfl (r_extract rfl rfl) rfl ?_
 refine s_do rfl rfl (w_alloc (bs (List.replicate 32 0)) Tryz.zeroValue23 (by kernel_rfl)) rfl ?_
 rintro _ w9 ⟨b10, rfl, hl_b10, hu_b10, p11, c_w9⟩
 have hs_w9 : w7.heap.size ≤ w9.heap.size := Chg.size c_w9
 replace p3 := p3.k c_w9
 replace p6 := p6.k c_w9
 have C_w9 := Chg.pure C_w7 c_w9
 have hn_b10 : w.heap.size ≤ b10 := by have := Chg.size C_w9; omega
 refine s_do rfl rfl (w_storeA (o := 0) Tryz.sizeOf23 rfl rfl (bs_len (by first | omega | (simp; try omega))) (flat_bs _) p11 (bs_len (by first | omega | (simp; try omega)))) rfl ?_
 rintro _ w12 ⟨q_w12, c_w12⟩
 have hs_w12 : w9.heap.size ≤ w12.heap.size := Chg.size c_w12
 replace p3 := p3.kb c_w12 (by omega)
 replace p6 := p6.kb c_w12 (by omega)
 have C_w12 := Chg.newRng C_w9 c_w12 (by omega)
 have p11 := q_w12
 refine s_val rfl rfl (r_assign) rfl ?_
 refine s_val rfl rfl (r_assign) rfl ?_
 refine s_end ?_
 refine go_seq ?_
 refine go_seq ?_
 refine go_region 2 rfl rfl ?_
 refine s_val rfl rfl (r_move) rfl ?_
 refine s_val rfl rfl (r_neq rfl rfl) rfl ?_
 refine s_end ?_
 refine go_ifb _ rfl (fun h13 => ?_) (fun h13 => ?_)
 ·first | replace h13 := dcT h13 | replace h13 := dcF (nt h13) | skip
  refine go_seq ?_
  refine go_region 5 rfl rfl ?_
  refine s_val rfl rfl (r_buildA Tryz.zeroValue23 Tryz.runUnderlying23 Tryz.sizeOf5 (cs := bs (List.replicate 32 0)) (by kernel_rfl)) rfl ?_
  refine s_val rfl rfl (r_move) rfl ?_
  refine s_do rfl rfl (w_storeA (o := 0) Tryz.sizeOf23 rfl rfl (bs_len (by first | omega | (simp; try omega))) (flat_bs _) p6 (bs_len (by first | omega | (simp; try omega)))) rfl ?_
  rintro _ w14 ⟨q_w14, c_w14⟩
  have hs_w14 : w12.heap.size ≤ w14.heap.size := Chg.size c_w14
  replace p3 := p3.kb c_w14 (by omega)
  replace p11 := p11.kb c_w14 (by omega)
  have C_w14 := Chg.newRng C_w12 c_w14 (by omega)
  have p6 := q_w14
  refine s_val rfl rfl (r_assign) rfl ?_
  refine s_val rfl rfl (r_assign) rfl ?_
  refine s_end ?_
  refine go_ret ?_
  refine ⟨_, .cons ⟨_, rfl, run_load_agg Tryz.isAgg23 Tryz.sizeOf23 (bs_len (by first | omega | (simp; try omega))) p6.rd⟩ (.cons rfl (.cons rfl (.nil))), ?_⟩
  exact ⟨rfl, C_w14⟩
 ·first | replace h13 := dcF h13 | replace h13 := dcT (nf h13) | skip
  exfalso
  omega
set_option maxHeartbeats 4000000 in
set_option maxRecDepth 100000 in
theorem joinS_spec (S : List Shr) (a : Option Addr) (n c need : Nat) (mark : List UInt8) (kS : List UInt8) (bad : List (List UInt8)) (w : World) (hn : S.length = n) (h0 : 0 < need) (hb : n ≤ 32) (hnd : need ≤ n) (hS : AllS S) (hx0 : ∀ s ∈ S, s.x ≠ 0) (hxn : (S.map (·.x)).Nodup) (hhn : (S.map (·.h)).Nodup) (hmk : mark.length = 32) (hm : mendP need S = some (kS, bad)) (hq : hashB 7 (comB kS) ≠ mark) (hsl : SlAt w a (scells S)) :
  Rtn Tryz.prog 10 [i64 (need : Nat), Value.slice a n c, .agg (bs mark).toArray].toArray w (fun v w' => v = tup [.agg (bs (List.replicate 32 0)).toArray, .slice none 0 0, i64 13] ∧ Kept w w') := by
 refine fn_body (l := [i64 (need : Nat), Value.slice a n c, .agg (bs mark).toArray]) 36 [.cell 6 23, .tmp 7, .tmp 8] Tryz.func10 rfl Tryz.ntmps10 (Nat.le_of_ble_eq_true rfl) (by rw [Tryz.results10]) ?_
 refine go_seq ?_
 refine go_region 4 rfl rfl ?_
 refine s_do rfl rfl (w_boxA rfl) rfl ?_
 rintro _ w1 ⟨b2, rfl, hl_b2, hu_b2, p3, c_w1⟩
 have hs_w1 : w.heap.size ≤ w1.heap.size := Chg.size c_w1
 have C_w1 := Chg.pure (Chg.refl no w) c_w1
 have hn_b2 : w.heap.size ≤ b2 := by have := Chg.size C_w1; omega
 refine s_do rfl rfl (w_alloc (bs (List.replicate 32 0)) Tryz.zeroValue23 (by kernel_rfl)) rfl ?_
 rintro _ w4 ⟨b5, rfl, hl_b5, hu_b5, p6, c_w4⟩
 have hs_w4 : w1.heap.size ≤ w4.heap.size := Chg.size c_w4
 replace p3 := p3.k c_w4
 have C_w4 := Chg.pure C_w1 c_w4
 have hn_b5 : w.heap.size ≤ b5 := by have := Chg.size C_w4; omega
 refine s_val rfl rfl (r_assign) rfl ?_
 refine s_val rfl rfl (r_assign) rfl ?_
 refine s_end ?_
 refine go_seq ?_
 refine go_region 11 rfl rfl ?_
 refine s_val rfl rfl (r_move) rfl ?_
 refine s_val rfl rfl (r_move) rfl ?_
 have hcall_ := mend_spec S a n c need w4 hn h0 hb hnd hS hx0 hxn hhn (hsl.k C_w4)
 refine s_do rfl rfl (w_call Tryz.call26 rfl hcall_) rfl ?_
 rintro v8 w7 ⟨hpS_, _, c_w7⟩
 clear hcall_
 have hp_ := hpS_ _ hm
 clear hpS_
 obtain ⟨aB, cB, hv_, hcB, hkS, hB, hloB⟩ := hp_
 subst hv_
 replace hkS : kS.length = 32 := hkS
 replace hB : SlAt w7 aB (bs bad.flatten) := hB
 replace hcB : bad.length ≤ cB := hcB
 have hs_w7 : w4.heap.size ≤ w7.heap.size := Chg.size c_w7
 replace p3 := p3.k c_w7
 replace p6 := p6.k c_w7
 have C_w7 := Chg.pure C_w4 c_w7
 have hhiB := SlAt.blk hB
 refine s_val rfl rfl (r_move) rfl ?_
 refine s_val rfl rfl (r_extract rfl rfl) rfl ?_
 refine s_val rfl rfl (r_extract rfl rfl) rfl ?_
 refine s_val rfl rfl (r_extract rfl rfl) rfl ?_
 refine s_do rfl rfl (w_alloc (bs (List.replicate 32 0)) Tryz.zeroValue23 (by kernel_rfl)) rfl ?_
 rintro _ w9 ⟨b10, rfl, hl_b10, hu_b10, p11, c_w9⟩
 have hs_w9 : w7.heap.size ≤ w9.heap.size := Chg.size c_w9
 replace p3 := p3.k c_w9
 replace p6 := p6.k c_w9
 replace hB := hB.k c_w9
 have C_w9 := Chg.pure C_w7 c_w9
 have hn_b10 : w.heap.size ≤ b10 := by have := Chg.size C_w9; omega
 refine s_do rfl rfl (w_storeA (o := 0) Tryz.sizeOf23 rfl rfl (bs_len (by first | omega | (simp; try omega))) (flat_bs _) p11 (bs_len (by first | omega | (simp; try omega)))) rfl ?_
 rintro _ w12 ⟨q_w12, c_w12⟩
 have hs_w12 : w9.heap.size ≤ w12.heap.size := Chg.size c_w12
 replace p3 := p3.kb c_w12 (by omega)
 replace p6 := p6.kb c_w12 (by omega)
 replace hB := SlAt.keptE hB c_w12 (fun hc_ b_ o_ ha_ o2_ m_ => by have h1_ := hhiB hc_ _ ha_; have h3_ := hloB _ ha_; have h2_ : b_ = b10 := m_.1; simp only at h1_ h3_; omega)
 have C_w12 := Chg.newRng C_w9 c_w12 (by omega)
 have p11 := q_w12
 refine s_val rfl rfl (r_assign) rfl ?_
 refine s_val rfl rfl (r_assign) rfl ?_
 refine s_end ?_
 refine go_seq ?_
 refine go_seq ?_
 refine go_region 2 rfl rfl ?_
 refine s_val rfl rfl (r_move) rfl ?_
 refine s_val rfl rfl (r_neq rfl rfl) rfl ?_
 refine s_end ?_
 refine go_ifb _ rfl (fun h13 => ?_) (fun h13 => ?_)
 ·first | replace h13 := dcT h13 | replace h13 := dcF (nt h13) | skip
  exfalso
  omega
 ·first | replace h13 := dcF h13 | replace h13 := dcT (nf h13) | skip
  refine go_skip ?_
  refine go_seq ?_
  refine go_seq ?_
  refine go_region 8 rfl rfl ?_
  refine s_val rfl rfl (r_loadN Tryz.isAgg23 Tryz.sizeOf23 rfl p11.rd (bs_len (by first | omega | (simp; try omega)))) rfl ?_
  have hhc_ := hashB_length 7 (comB kS)
  refine s_do rfl rfl (w_call Tryz.call14 rfl (commit_spec kS _ hkS)) rfl ?_
  rintro _ w14 ⟨rfl, c_w14⟩
  have hs_w14 : w12.heap.size ≤ w14.heap.size := Chg.size c_w14
  replace p3 := p3.k c_w14
  replace p6 := p6.k c_w14
  replace hB := hB.k c_w14
  replace p11 := p11.k c_w14
  have C_w14 := Chg.pure C_w12 c_w14
  refine s_val rfl rfl (r_move) rfl ?_
  refine s_val rfl rfl (r_extract rfl rfl) rfl ?_
  refine s_val rfl rfl (r_extract rfl rfl) rfl ?_
  refine s_do rfl rfl (w_alloc (bs (List.replicate 32 0)) Tryz.zeroValue27 (by kernel_rfl)) rfl ?_
  rintro _ w15 ⟨b16, rfl, hl_b16, hu_b16, p17, c_w15⟩
  have hs_w15 : w14.heap.size ≤ w15.heap.size := Chg.size c_w15
  replace p3 := p3.k c_w15
  replace p6 := p6.k c_w15
  replace hB := hB.k c_w15
  replace p11 := p11.k c_w15
  have C_w15 := Chg.pure C_w14 c_w15
  have hn_b16 : w.heap.size ≤ b16 := by have := Chg.size C_w15; omega
  refine s_do rfl rfl (w_storeA (o := 0) Tryz.sizeOf27 rfl rfl (bs_len (by first | omega | (simp; try omega))) (flat_bs _) p17 (bs_len (by first | omega | (simp; try omega)))) rfl ?_
  rintro _ w18 ⟨q_w18, c_w18⟩
  have hs_w18 : w15.heap.size ≤ w18.heap.size := Chg.size c_w18
  replace p3 := p3.kb c_w18 (by omega)
  replace p6 := p6.kb c_w18 (by omega)
  replace hB := SlAt.keptE hB c_w18 (fun hc_ b_ o_ ha_ o2_ m_ => by have h1_ := hhiB hc_ _ ha_; have h3_ := hloB _ ha_; have h2_ : b_ = b16 := m_.1; simp only at h1_ h3_; omega)
  replace p11 := p11.kb c_w18 (by omega)
  have C_w18 := Chg.newRng C_w15 c_w18 (by omega)
  have p17 := q_w18
  refine s_val rfl rfl (r_assign) rfl ?_
  refine s_end ?_
  refine go_seq ?_
  refine go_region 3 rfl rfl ?_
  refine s_val rfl rfl (r_loadN Tryz.isAgg27 Tryz.sizeOf27 rfl p17.rd (bs_len (by first | omega | (simp; try omega)))) rfl ?_
  refine s_val rfl rfl (r_loadN Tryz.isAgg27 Tryz.sizeOf27 rfl p3.rd (bs_len (by first | omega | (simp; try omega)))) rfl ?_
  refine s_val rfl rfl (r_neqArr Tryz.underlying27 Tryz.underlying5 Tryz.sizeOf5 rfl rfl hhc_ hmk (by kernel_rfl)) rfl ?_
  refine s_end ?_
  refine go_ifb _ rfl (fun h19 => ?_) (fun h19 => ?_)
  ·first | replace h19 := dcT h19 | replace h19 := dcF (nt h19) | skip
   refine go_seq ?_
   refine go_region 4 rfl rfl ?_
   refine s_val rfl rfl (r_buildA Tryz.zeroValue23 Tryz.runUnderlying23 Tryz.sizeOf5 (cs := bs (List.replicate 32 0)) (by kernel_rfl)) rfl ?_
   refine s_do rfl rfl (w_storeA (o := 0) Tryz.sizeOf23 rfl rfl (bs_len (by first | omega | (simp; try omega))) (flat_bs _) p6 (bs_len (by first | omega | (simp; try omega)))) rfl ?_
   rintro _ w20 ⟨q_w20, c_w20⟩
   have hs_w20 : w18.heap.size ≤ w20.heap.size := Chg.size c_w20
   replace p3 := p3.kb c_w20 (by omega)
   replace hB := SlAt.keptE hB c_w20 (fun hc_ b_ o_ ha_ o2_ m_ => by have h1_ := hhiB hc_ _ ha_; have h3_ := hloB _ ha_; have h2_ : b_ = b5 := m_.1; simp only at h1_ h3_; omega)
   replace p11 := p11.kb c_w20 (by omega)
   replace p17 := p17.kb c_w20 (by omega)
   have C_w20 := Chg.newRng C_w18 c_w20 (by omega)
   have p6 := q_w20
   refine s_val rfl rfl (r_assign) rfl ?_
   refine s_val rfl rfl (r_assign) rfl ?_
   refine s_end ?_
   refine go_ret ?_
   refine ⟨_, .cons ⟨_, rfl, run_load_agg Tryz.isAgg23 Tryz.sizeOf23 (bs_len (by first | omega | (simp; try omega))) p6.rd⟩ (.cons rfl (.cons rfl (.nil))), ?_⟩
   exact ⟨rfl, C_w20⟩
  ·first | replace h19 := dcF h19 | replace h19 := dcT (nf h19) | skip
   exfalso
   exact h19 hq
set_option maxHeartbeats 4000000 in
set_option maxRecDepth 100000 in
theorem joinO_spec (S : List Shr) (a : Option Addr) (n c need : Nat) (mark : List UInt8) (kS : List UInt8) (bad : List (List UInt8)) (w : World) (hn : S.length = n) (h0 : 0 < need) (hb : n ≤ 32) (hnd : need ≤ n) (hS : AllS S) (hx0 : ∀ s ∈ S, s.x ≠ 0) (hxn : (S.map (·.x)).Nodup) (hhn : (S.map (·.h)).Nodup) (hmk : mark.length = 32) (hm : mendP need S = some (kS, bad)) (hq : hashB 7 (comB kS) = mark) (hsl : SlAt w a (scells S)) :
  Rtn Tryz.prog 10 [i64 (need : Nat), Value.slice a n c, .agg (bs mark).toArray].toArray w (fun v w' => ∃ a' c', v = tup [.agg (bs kS).toArray, .slice a' bad.length c', i64 0] ∧ bad.length ≤ c' ∧ SlAt w' a' (bs bad.flatten) ∧ (∀ x, a' = some x → w.heap.size ≤ x.block) ∧ Kept w w') := by
 refine fn_body (l := [i64 (need : Nat), Value.slice a n c, .agg (bs mark).toArray]) 36 [.cell 6 23, .tmp 7, .tmp 8] Tryz.func10 rfl Tryz.ntmps10 (Nat.le_of_ble_eq_true rfl) (by rw [Tryz.results10]) ?_
 refine go_seq ?_
 refine go_region 4 rfl rfl ?_
 refine s_do rfl rfl (w_boxA rfl) rfl ?_
 rintro _ w1 ⟨b2, rfl, hl_b2, hu_b2, p3, c_w1⟩
 have hs_w1 : w.heap.size ≤ w1.heap.size := Chg.size c_w1
 have C_w1 := Chg.pure (Chg.refl no w) c_w1
 have hn_b2 : w.heap.size ≤ b2 := by have := Chg.size C_w1; omega
 refine s_do rfl rfl (w_alloc (bs (List.replicate 32 0)) Tryz.zeroValue23 (by kernel_rfl)) rfl ?_
 rintro _ w4 ⟨b5, rfl, hl_b5, hu_b5, p6, c_w4⟩
 have hs_w4 : w1.heap.size ≤ w4.heap.size := Chg.size c_w4
 replace p3 := p3.k c_w4
 have C_w4 := Chg.pure C_w1 c_w4
 have hn_b5 : w.heap.size ≤ b5 := by have := Chg.size C_w4; omega
 refine s_val rfl rfl (r_assign) rfl ?_
 refine s_val rfl rfl (r_assign) rfl ?_
 refine s_end ?_
 refine go_seq ?_
 refine go_region 11 rfl rfl ?_
 refine s_val rfl rfl (r_move) rfl ?_
 refine s_val rfl rfl (r_move) rfl ?_
 have hcall_ := mend_spec S a n c need w4 hn h0 hb hnd hS hx0 hxn hhn (hsl.k C_w4)
 refine s_do rfl rfl (w_call Tryz.call26 rfl hcall_) rfl ?_
 rintro v8 w7 ⟨hpS_, _, c_w7⟩
 clear hcall_
 have hp_ := hpS_ _ hm
 clear hpS_
 obtain ⟨aB, cB, hv_, hcB, hkS, hB, hloB⟩ := hp_
 subst hv_
 replace hkS : kS.length = 32 := hkS
 replace hB : SlAt w7 aB (bs bad.flatten) := hB
 replace hcB : bad.length ≤ cB := hcB
 have hs_w7 : w4.heap.size ≤ w7.heap.size := Chg.size c_w7
 replace p3 := p3.k c_w7
 replace p6 := p6.k c_w7
 have C_w7 := Chg.pure C_w4 c_w7
 have hhiB := SlAt.blk hB
 refine s_val rfl rfl (r_move) rfl ?_
 refine s_val rfl rfl (r_extract rfl rfl) rfl ?_
 refine s_val rfl rfl (r_extract rfl rfl) rfl ?_
 refine s_val rfl rfl (r_extract rfl rfl) rfl ?_
 refine s_do rfl rfl (w_alloc (bs (List.replicate 32 0)) Tryz.zeroValue23 (by kernel_rfl)) rfl ?_
 rintro _ w9 ⟨b10, rfl, hl_b10, hu_b10, p11, c_w9⟩
 have hs_w9 : w7.heap.size ≤ w9.heap.size := Chg.size c_w9
 replace p3 := p3.k c_w9
 replace p6 := p6.k c_w9
 replace hB := hB.k c_w9
 have C_w9 := Chg.pure C_w7 c_w9
 have hn_b10 : w.heap.size ≤ b10 := by have := Chg.size C_w9; omega
 refine s_do rfl rfl (w_storeA (o := 0) Tryz.sizeOf23 rfl rfl (bs_len (by first | omega | (simp; try omega))) (flat_bs _) p11 (bs_len (by first | omega | (simp; try omega)))) rfl ?_
 rintro _ w12 ⟨q_w12, c_w12⟩
 have hs_w12 : w9.heap.size ≤ w12.heap.size := Chg.size c_w12
 replace p3 := p3.kb c_w12 (by omega)
 replace p6 := p6.kb c_w12 (by omega)
 replace hB := SlAt.keptE hB c_w12 (fun hc_ b_ o_ ha_ o2_ m_ => by have h1_ := hhiB hc_ _ ha_; have h3_ := hloB _ ha_; have h2_ : b_ = b10 := m_.1; simp only at h1_ h3_; omega)
 have C_w12 := Chg.newRng C_w9 c_w12 (by omega)
 have p11 := q_w12
 refine s_val rfl rfl (r_assign) rfl ?_
 refine s_val rfl rfl (r_assign) rfl ?_
 refine s_end ?_
 refine go_seq ?_
 refine go_seq ?_
 refine go_region 2 rfl rfl ?_
 refine s_val rfl rfl (r_move) rfl ?_
 refine s_val rfl rfl (r_neq rfl rfl) rfl ?_
 refine s_end ?_
 refine go_ifb _ rfl (fun h13 => ?_) (fun h13 => ?_)
 ·first | replace h13 := dcT h13 | replace h13 := dcF (nt h13) | skip
  exfalso
  omega
 ·first | replace h13 := dcF h13 | replace h13 := dcT (nf h13) | skip
  refine go_skip ?_
  refine go_seq ?_
  refine go_seq ?_
  refine go_region 8 rfl rfl ?_
  refine s_val rfl rfl (r_loadN Tryz.isAgg23 Tryz.sizeOf23 rfl p11.rd (bs_len (by first | omega | (simp; try omega)))) rfl ?_
  have hhc_ := hashB_length 7 (comB kS)
  refine s_do rfl rfl (w_call Tryz.call14 rfl (commit_spec kS _ hkS)) rfl ?_
  rintro _ w14 ⟨rfl, c_w14⟩
  have hs_w14 : w12.heap.size ≤ w14.heap.size := Chg.size c_w14
  replace p3 := p3.k c_w14
  replace p6 := p6.k c_w14
  replace hB := hB.k c_w14
  replace p11 := p11.k c_w14
  have C_w14 := Chg.pure C_w12 c_w14
  refine s_val rfl rfl (r_move) rfl ?_
  refine s_val rfl rfl (r_extract rfl rfl) rfl ?_
  refine s_val rfl rfl (r_extract rfl rfl) rfl ?_
  refine s_do rfl rfl (w_alloc (bs (List.replicate 32 0)) Tryz.zeroValue27 (by kernel_rfl)) rfl ?_
  rintro _ w15 ⟨b16, rfl, hl_b16, hu_b16, p17, c_w15⟩
  have hs_w15 : w14.heap.size ≤ w15.heap.size := Chg.size c_w15
  replace p3 := p3.k c_w15
  replace p6 := p6.k c_w15
  replace hB := hB.k c_w15
  replace p11 := p11.k c_w15
  have C_w15 := Chg.pure C_w14 c_w15
  have hn_b16 : w.heap.size ≤ b16 := by have := Chg.size C_w15; omega
  refine s_do rfl rfl (w_storeA (o := 0) Tryz.sizeOf27 rfl rfl (bs_len (by first | omega | (simp; try omega))) (flat_bs _) p17 (bs_len (by first | omega | (simp; try omega)))) rfl ?_
  rintro _ w18 ⟨q_w18, c_w18⟩
  have hs_w18 : w15.heap.size ≤ w18.heap.size := Chg.size c_w18
  replace p3 := p3.kb c_w18 (by omega)
  replace p6 := p6.kb c_w18 (by omega)
  replace hB := SlAt.keptE hB c_w18 (fun hc_ b_ o_ ha_ o2_ m_ => by have h1_ := hhiB hc_ _ ha_; have h3_ := hloB _ ha_; have h2_ : b_ = b16 := m_.1; simp only at h1_ h3_; omega)
  replace p11 := p11.kb c_w18 (by omega)
  have C_w18 := Chg.newRng C_w15 c_w18 (by omega)
  have p17 := q_w18
  refine s_val rfl rfl (r_assign) rfl ?_
  refine s_end ?_
  refine go_seq ?_
  refine go_region 3 rfl rfl ?_
  refine s_val rfl rfl (r_loadN Tryz.isAgg27 Tryz.sizeOf27 rfl p17.rd (bs_len (by first | omega | (simp; try omega)))) rfl ?_
  refine s_val rfl rfl (r_loadN Tryz.isAgg27 Tryz.sizeOf27 rfl p3.rd (bs_len (by first | omega | (simp; try omega)))) rfl ?_
  refine s_val rfl rfl (r_neqArr Tryz.underlying27 Tryz.underlying5 Tryz.sizeOf5 rfl rfl hhc_ hmk (by kernel_rfl)) rfl ?_
  refine s_end ?_
  refine go_ifb _ rfl (fun h19 => ?_) (fun h19 => ?_)
  ·first | replace h19 := dcT h19 | replace h19 := dcF (nt h19) | skip
   exfalso
   exact h19 hq
  ·first | replace h19 := dcF h19 | replace h19 := dcT (nf h19) | skip
   refine go_skip ?_
   refine go_seq ?_
   refine go_region 5 rfl rfl ?_
   refine s_val rfl rfl (r_loadN Tryz.isAgg23 Tryz.sizeOf23 rfl p11.rd (bs_len (by first | omega | (simp; try omega)))) rfl ?_
   refine s_val rfl rfl (r_move) rfl ?_
   refine s_do rfl rfl (w_storeA (o := 0) Tryz.sizeOf23 rfl rfl (bs_len (by first | omega | (simp; try omega))) (flat_bs _) p6 (bs_len (by first | omega | (simp; try omega)))) rfl ?_
   rintro _ w20 ⟨q_w20, c_w20⟩
   have hs_w20 : w18.heap.size ≤ w20.heap.size := Chg.size c_w20
   replace p3 := p3.kb c_w20 (by omega)
   replace hB := SlAt.keptE hB c_w20 (fun hc_ b_ o_ ha_ o2_ m_ => by have h1_ := hhiB hc_ _ ha_; have h3_ := hloB _ ha_; have h2_ : b_ = b5 := m_.1; simp only at h1_ h3_; omega)
   replace p11 := p11.kb c_w20 (by omega)
   replace p17 := p17.kb c_w20 (by omega)
   have C_w20 := Chg.newRng C_w18 c_w20 (by omega)
   have p6 := q_w20
   refine s_val rfl rfl (r_assign) rfl ?_
   refine s_val rfl rfl (r_assign) rfl ?_
   refine s_end ?_
   refine go_ret ?_
   refine ⟨_, .cons ⟨_, rfl, run_load_agg Tryz.isAgg23 Tryz.sizeOf23 (bs_len (by first | omega | (simp; try omega))) p6.rd⟩ (.cons rfl (.cons rfl (.nil))), ?_⟩
   exact ⟨_, _, rfl, hcB, hB, (fun x_ hx_ => by have h_ := hloB x_ hx_; omega), C_w20⟩
end Go.Proofs.YtippcmedgfmgbaaGreat
end
section
open Go Go.Eng Go.Proofs
namespace Go.Proofs.YtippcmedgfmgbaaGreat
theorem leafB_spec (l : List UInt8) (a : Option Addr) (n c : Nat) (w : World) (hn : l.length = n) (hn0 : 0 < n) (hc : n ≤ c) (hbig : n ≤ 1048576) (hsl : SlAt w a (bs l)) :
  Rtn Tryz.prog 70 [Value.slice a n c].toArray w (fun v w' => v = tup [.agg (bs (hashB 1 l)).toArray, i64 0] ∧ Kept w w') := by
 refine fn_body (l := [Value.slice a n c]) 8 [.cell 2 27, .tmp 3] Tryz.func70 rfl Tryz.ntmps70 (Nat.le_of_ble_eq_true rfl) (by rw [Tryz.results70]) ?_
 refine go_seq ?_
 refine go_region 2 rfl rfl ?_
 refine s_do rfl rfl (w_alloc (bs (List.replicate 32 0)) Tryz.zeroValue27 (by kernel_rfl)) rfl ?_
 rintro _ w1 ⟨b2, rfl, hl_b2, hu_b2, p3, c_w1⟩
 have hs_w1 : w.heap.size ≤ w1.heap.size := Chg.size c_w1
 have C_w1 := Chg.pure (Chg.refl no w) c_w1
 have hn_b2 : w.heap.size ≤ b2 := by have := Chg.size C_w1; omega
 refine s_val rfl rfl (r_assign) rfl ?_
 refine s_end ?_
 refine go_seq ?_
 refine go_region 6 rfl rfl ?_
 refine s_val rfl rfl (r_move) rfl ?_
 refine s_do rfl rfl (w_call Tryz.call91 rfl (sumOf_spec (1) l _ _ _ _ (by omega) (by omega) (by first | omega | (simp; try omega)) (by first | omega | (simp; try omega)) (by first | omega | (simp; try omega)) (by first | omega | (simp; try omega)) (hsl.k C_w1))) rfl ?_
 rintro _ w4 ⟨rfl, c_w4⟩
 have hs_w4 : w1.heap.size ≤ w4.heap.size := Chg.size c_w4
 replace p3 := p3.k c_w4
 have C_w4 := Chg.pure C_w1 c_w4
 refine s_val rfl rfl (r_extract rfl rfl) rfl ?_
 refine s_val rfl rfl (r_extract rfl rfl) rfl ?_
 refine s_do rfl rfl (w_storeA (o := 0) Tryz.sizeOf27 rfl rfl (bs_len (by first | omega | (simp; try omega))) (flat_bs _) p3 (bs_len (by first | omega | (simp; try omega)))) rfl ?_
 rintro _ w5 ⟨q_w5, c_w5⟩
 have hs_w5 : w4.heap.size ≤ w5.heap.size := Chg.size c_w5
 have C_w5 := Chg.newRng C_w4 c_w5 (by omega)
 have p3 := q_w5
 refine s_val rfl rfl (r_assign) rfl ?_
 refine s_end ?_
 refine go_ret ?_
 refine ⟨_, .cons ⟨_, rfl, run_load_agg Tryz.isAgg27 Tryz.sizeOf27 (bs_len (by first | omega | (simp; try omega))) p3.rd⟩ (.cons rfl (.nil)), ?_⟩
 exact ⟨rfl, C_w5⟩
set_option maxHeartbeats 2000000 in
theorem nodeB_spec (x y : List UInt8) (w : World) (hx : x.length = 32) (hy : y.length = 32) :
  Rtn Tryz.prog 90 [.agg (bs x).toArray, .agg (bs y).toArray].toArray w (fun v w' => v = .agg (bs (hashB 2 (x ++ y))).toArray ∧ Kept w w') := by
 refine fn_body (l := [.agg (bs x).toArray, .agg (bs y).toArray]) 16 [.cell 4 27] Tryz.func90 rfl Tryz.ntmps90 (Nat.le_of_ble_eq_true rfl) (by rw [Tryz.results90]) ?_
 refine go_seq ?_
 refine go_region 3 rfl rfl ?_
 refine s_do rfl rfl (w_boxA rfl) rfl ?_
 rintro _ w1 ⟨b2, rfl, hl_b2, hu_b2, p3, c_w1⟩
 have hs_w1 : w.heap.size ≤ w1.heap.size := Chg.size c_w1
 have C_w1 := Chg.pure (Chg.refl no w) c_w1
 have hn_b2 : w.heap.size ≤ b2 := by have := Chg.size C_w1; omega
 refine s_do rfl rfl (w_boxA rfl) rfl ?_
 rintro _ w4 ⟨b5, rfl, hl_b5, hu_b5, p6, c_w4⟩
 have hs_w4 : w1.heap.size ≤ w4.heap.size := Chg.size c_w4
 replace p3 := p3.k c_w4
 have C_w4 := Chg.pure C_w1 c_w4
 have hn_b5 : w.heap.size ≤ b5 := by have := Chg.size C_w4; omega
 refine s_do rfl rfl (w_alloc (bs (List.replicate 32 0)) Tryz.zeroValue27 (by kernel_rfl)) rfl ?_
 rintro _ w7 ⟨b8, rfl, hl_b8, hu_b8, p9, c_w7⟩
 have hs_w7 : w4.heap.size ≤ w7.heap.size := Chg.size c_w7
 replace p3 := p3.k c_w7
 replace p6 := p6.k c_w7
 have C_w7 := Chg.pure C_w4 c_w7
 have hn_b8 : w.heap.size ≤ b8 := by have := Chg.size C_w7; omega
 refine s_end ?_
 refine go_seq ?_
 refine go_drawsK 10 (.take 0 (.take 1 (.alts (.eff 2 (.alts (.eff 3 (.alts (.eff 4 (.take 5 (.take 6 (.take 7 (.eff 8 (.eff 9 (.eff 10 .done))))))) (.eff 8 (.eff 4 (.take 5 (.take 6 (.take 7 (.eff 9 (.eff 10 .done))))))))) (.eff 8 (.eff 3 (.eff 4 (.take 5 (.take 6 (.take 7 (.eff 9 (.eff 10 .done)))))))))) (.eff 8 (.eff 2 (.eff 3 (.eff 4 (.take 5 (.take 6 (.take 7 (.eff 9 (.eff 10 .done)))))))))))) (by kernel_rfl) (by kernel_rfl) fun w10 c_w10 => ?_
 have hs_w10 : w7.heap.size ≤ w10.heap.size := Chg.size c_w10
 replace p3 := p3.k c_w10
 replace p6 := p6.k c_w10
 replace p9 := p9.k c_w10
 have C_w10 := Chg.pure C_w7 c_w10
 have p3_0 := p3
 have p6_0 := p6
 have p9_0 := p9
 refine s_takeK rfl rfl (w0 := w10) (fun x_ c_ => r_sliceA (l := 0) (h := 32) (m := 32) Tryz.runUnderlying27 Tryz.sizeOf5 rfl rfl rfl rfl (by first | decide | (intro h_; cases h_)) (by first | decide | omega) (by first | decide | omega | (intro _; omega)) (by first | decide | omega) (by first | decide | omega)) ?_
 refine s_takeK rfl rfl (w0 := w10) (fun x_ c_ => r_sliceA (l := 0) (h := 32) (m := 32) Tryz.runUnderlying27 Tryz.sizeOf5 rfl rfl rfl rfl (by first | decide | (intro h_; cases h_)) (by first | decide | omega) (by first | decide | omega | (intro _; omega)) (by first | decide | omega) (by first | decide | omega)) ?_
 refine s_alts ?_ ?_
 ·
  refine s_fxK rfl rfl (w_build2 (E := 55) Tryz.underlying62 (i := Tryz.t55) (by kernel_rfl) rfl rfl rfl rfl rfl rfl rfl) ?_
  rintro _ w11 ⟨b12, rfl, hl_b12, hu_b12, o14, p13, c_w11⟩
  have hs_w11 : w10.heap.size ≤ w11.heap.size := Chg.size c_w11
  replace p3 := p3.k c_w11
  replace p6 := p6.k c_w11
  replace p9 := p9.k c_w11
  have C_w11 := Chg.pure C_w10 c_w11
  have hn_b12 : w.heap.size ≤ b12 := by have := Chg.size C_w11; omega
  clear o14
  replace p13 : Pc w11 b12 0 [(Value.slice (some ⟨b2, 0, none⟩) 32 (32 - 0)), (Value.slice (some ⟨b5, 0, none⟩) 32 (32 - 0))] := p13
  have K_w11 := Chg.pure (Chg.refl no w10) c_w11
  refine ⟨K_w11, ?_⟩
  refine s_alts ?_ ?_
  ·
   refine s_fxK rfl rfl (w_call Tryz.call64 rfl (concat_spec [x, y] [_, _] _ _ _ _ rfl (by decide) (by decide) (by simp; omega) (by simp; omega) (SlAt.some p13.rd) (SlsOk.two (by first | omega | (simp; try omega)) (by first | omega | (simp; try omega)) (by first | omega | (simp; try omega)) (SlAt.some p3.rd) (by first | omega | (simp; try omega)) (by first | omega | (simp; try omega)) (by first | omega | (simp; try omega)) (SlAt.some p6.rd)))) ?_
   rintro _ w15 ⟨A17, cap18, rfl, hc_cap18, o16, c_w15⟩
   have hs_w15 : w11.heap.size ≤ w15.heap.size := Chg.size c_w15
   replace p3 := p3.k c_w15
   replace p6 := p6.k c_w15
   replace p9 := p9.k c_w15
   replace p13 := p13.k c_w15
   have C_w15 := Chg.pure C_w11 c_w15
   have hl_o16 : [x, y].flatten.length ≤ 1048576 := by simp; omega
   have hg_o16 : 0 < [x, y].flatten.length := by simp; omega
   have K_w15 := Chg.pure K_w11 c_w15
   refine ⟨K_w15, ?_⟩
   refine s_alts ?_ ?_
   ·
    refine s_fxK rfl rfl (w_call Tryz.call91 rfl (sumOf_spec (2) [x, y].flatten _ _ _ _ (by omega) (by omega) (by first | omega | (simp; try omega)) (by first | omega | (simp; try omega)) (by first | omega | (simp; try omega)) (by first | omega | (simp; try omega)) (Owns.sl o16))) ?_
    rintro _ w19 ⟨rfl, c_w19⟩
    have hs_w19 : w15.heap.size ≤ w19.heap.size := Chg.size c_w19
    replace p3 := p3.k c_w19
    replace p6 := p6.k c_w19
    replace p9 := p9.k c_w19
    replace p13 := p13.k c_w19
    replace o16 := o16.k c_w19
    have C_w19 := Chg.pure C_w15 c_w19
    have K_w19 := Chg.pure K_w15 c_w19
    refine ⟨K_w19, ?_⟩
    refine s_takeK rfl rfl (w0 := w10) (fun x_ c_ => r_move) ?_
    refine s_takeK rfl rfl (w0 := w10) (fun x_ c_ => r_extract rfl rfl) ?_
    refine s_takeK rfl rfl (w0 := w10) (fun x_ c_ => r_extract rfl rfl) ?_
    refine s_fxK rfl rfl (w_alloc (bs (List.replicate 32 0)) Tryz.zeroValue27 (by kernel_rfl)) ?_
    rintro _ w20 ⟨b21, rfl, hl_b21, hu_b21, p22, c_w20⟩
    have ne_b21_o16 := Owns.ne_ge o16 hl_b21
    have hs_w20 : w19.heap.size ≤ w20.heap.size := Chg.size c_w20
    replace p3 := p3.k c_w20
    replace p6 := p6.k c_w20
    replace p9 := p9.k c_w20
    replace p13 := p13.k c_w20
    replace o16 := o16.k c_w20
    have C_w20 := Chg.pure C_w19 c_w20
    have hn_b21 : w.heap.size ≤ b21 := by have := Chg.size C_w20; omega
    have K_w20 := Chg.pure K_w19 c_w20
    refine ⟨K_w20, ?_⟩
    refine s_fxK rfl rfl (w_storeA (o := 0) Tryz.sizeOf27 rfl rfl (bs_len (by first | omega | (simp; try omega))) (flat_bs _) p22 (bs_len (by first | omega | (simp; try omega)))) ?_
    rintro _ w23 ⟨q_w23, c_w23⟩
    have hs_w23 : w20.heap.size ≤ w23.heap.size := Chg.size c_w23
    replace p3 := p3.kb c_w23 (by omega)
    replace p6 := p6.kb c_w23 (by omega)
    replace p9 := p9.kb c_w23 (by omega)
    replace p13 := p13.kb c_w23 (by omega)
    replace o16 := o16.kb c_w23 ne_b21_o16
    have C_w23 := Chg.newRng C_w20 c_w23 (by omega)
    have p22 := q_w23
    have K_w23 := Chg.newRng K_w20 c_w23 (by omega)
    refine ⟨K_w23, ?_⟩
    refine s_val rfl rfl (r_assign) rfl ?_
    refine s_end ?_
    refine go_seq ?_
    refine go_region 2 rfl rfl ?_
    refine s_val rfl rfl (r_loadN Tryz.isAgg27 Tryz.sizeOf27 rfl p22.rd (bs_len (by first | omega | (simp; try omega)))) rfl ?_
    refine s_do rfl rfl (w_storeA (o := 0) Tryz.sizeOf27 rfl rfl (bs_len (by first | omega | (simp; try omega))) (flat_bs _) p9 (bs_len (by first | omega | (simp; try omega)))) rfl ?_
    rintro _ w24 ⟨q_w24, c_w24⟩
    have hs_w24 : w23.heap.size ≤ w24.heap.size := Chg.size c_w24
    replace p3 := p3.kb c_w24 (by omega)
    replace p6 := p6.kb c_w24 (by omega)
    replace p13 := p13.kb c_w24 (by omega)
    replace o16 := o16.kb c_w24 (Owns.ne_lt o16 (by omega))
    replace p22 := p22.kb c_w24 (by omega)
    have C_w24 := Chg.newRng C_w23 c_w24 (by omega)
    have p9 := q_w24
    refine s_end ?_
    refine go_ret ?_
    refine ⟨_, .cons ⟨_, rfl, run_load_agg Tryz.isAgg27 Tryz.sizeOf27 (bs_len (by first | omega | (simp; try omega))) p9.rd⟩ (.nil), ?_⟩
    have e_ : [x, y].flatten = x ++ y := by simp
    exact ⟨congrArg (fun x => Value.agg (bs x).toArray) (congrArg (hashB 2) e_), C_w24⟩
   ·
    refine s_fxK rfl rfl (w_alloc (bs (List.replicate 32 0)) Tryz.zeroValue27 (by kernel_rfl)) ?_
    rintro _ w25 ⟨b26, rfl, hl_b26, hu_b26, p27, c_w25⟩
    have ne_b26_o16 := Owns.ne_ge o16 hl_b26
    have hs_w25 : w15.heap.size ≤ w25.heap.size := Chg.size c_w25
    replace p3 := p3.k c_w25
    replace p6 := p6.k c_w25
    replace p9 := p9.k c_w25
    replace p13 := p13.k c_w25
    replace o16 := o16.k c_w25
    have C_w25 := Chg.pure C_w15 c_w25
    have hn_b26 : w.heap.size ≤ b26 := by have := Chg.size C_w25; omega
    have K_w25 := Chg.pure K_w15 c_w25
    refine ⟨K_w25, ?_⟩
    refine s_fxK rfl rfl (w_call Tryz.call91 rfl (sumOf_spec (2) [x, y].flatten _ _ _ _ (by omega) (by omega) (by first | omega | (simp; try omega)) (by first | omega | (simp; try omega)) (by first | omega | (simp; try omega)) (by first | omega | (simp; try omega)) (Owns.sl o16))) ?_
    rintro _ w28 ⟨rfl, c_w28⟩
    have hs_w28 : w25.heap.size ≤ w28.heap.size := Chg.size c_w28
    replace p3 := p3.k c_w28
    replace p6 := p6.k c_w28
    replace p9 := p9.k c_w28
    replace p13 := p13.k c_w28
    replace o16 := o16.k c_w28
    replace p27 := p27.k c_w28
    have C_w28 := Chg.pure C_w25 c_w28
    have K_w28 := Chg.pure K_w25 c_w28
    refine ⟨K_w28, ?_⟩
    refine s_takeK rfl rfl (w0 := w10) (fun x_ c_ => r_move) ?_
    refine s_takeK rfl rfl (w0 := w10) (fun x_ c_ => r_extract rfl rfl) ?_
    refine s_takeK rfl rfl (w0 := w10) (fun x_ c_ => r_extract rfl rfl) ?_
    refine s_fxK rfl rfl (w_storeA (o := 0) Tryz.sizeOf27 rfl rfl (bs_len (by first | omega | (simp; try omega))) (flat_bs _) p27 (bs_len (by first | omega | (simp; try omega)))) ?_
    rintro _ w29 ⟨q_w29, c_w29⟩
    have hs_w29 : w28.heap.size ≤ w29.heap.size := Chg.size c_w29
    replace p3 := p3.kb c_w29 (by omega)
    replace p6 := p6.kb c_w29 (by omega)
    replace p9 := p9.kb c_w29 (by omega)
    replace p13 := p13.kb c_w29 (by omega)
    replace o16 := o16.kb c_w29 ne_b26_o16
    have C_w29 := Chg.newRng C_w28 c_w29 (by omega)
    have p27 := q_w29
    have K_w29 := Chg.newRng K_w28 c_w29 (by omega)
    refine ⟨K_w29, ?_⟩
    refine s_val rfl rfl (r_assign) rfl ?_
    refine s_end ?_
    refine go_seq ?_
    refine go_region 2 rfl rfl ?_
    refine s_val rfl rfl (r_loadN Tryz.isAgg27 Tryz.sizeOf27 rfl p27.rd (bs_len (by first | omega | (simp; try omega)))) rfl ?_
    refine s_do rfl rfl (w_storeA (o := 0) Tryz.sizeOf27 rfl rfl (bs_len (by first | omega | (simp; try omega))) (flat_bs _) p9 (bs_len (by first | omega | (simp; try omega)))) rfl ?_
    rintro _ w30 ⟨q_w30, c_w30⟩
    have hs_w30 : w29.heap.size ≤ w30.heap.size := Chg.size c_w30
    replace p3 := p3.kb c_w30 (by omega)
    replace p6 := p6.kb c_w30 (by omega)
    replace p13 := p13.kb c_w30 (by omega)
    replace o16 := o16.kb c_w30 (Owns.ne_lt o16 (by omega))
    replace p27 := p27.kb c_w30 (by omega)
    have C_w30 := Chg.newRng C_w29 c_w30 (by omega)
    have p9 := q_w30
    refine s_end ?_
    refine go_ret ?_
    refine ⟨_, .cons ⟨_, rfl, run_load_agg Tryz.isAgg27 Tryz.sizeOf27 (bs_len (by first | omega | (simp; try omega))) p9.rd⟩ (.nil), ?_⟩
    have e_ : [x, y].flatten = x ++ y := by simp
    exact ⟨congrArg (fun x => Value.agg (bs x).toArray) (congrArg (hashB 2) e_), C_w30⟩
  ·
   refine s_fxK rfl rfl (w_alloc (bs (List.replicate 32 0)) Tryz.zeroValue27 (by kernel_rfl)) ?_
   rintro _ w31 ⟨b32, rfl, hl_b32, hu_b32, p33, c_w31⟩
   have hs_w31 : w11.heap.size ≤ w31.heap.size := Chg.size c_w31
   replace p3 := p3.k c_w31
   replace p6 := p6.k c_w31
   replace p9 := p9.k c_w31
   replace p13 := p13.k c_w31
   have C_w31 := Chg.pure C_w11 c_w31
   have hn_b32 : w.heap.size ≤ b32 := by have := Chg.size C_w31; omega
   have K_w31 := Chg.pure K_w11 c_w31
   refine ⟨K_w31, ?_⟩
   refine s_fxK rfl rfl (w_call Tryz.call64 rfl (concat_spec [x, y] [_, _] _ _ _ _ rfl (by decide) (by decide) (by simp; omega) (by simp; omega) (SlAt.some p13.rd) (SlsOk.two (by first | omega | (simp; try omega)) (by first | omega | (simp; try omega)) (by first | omega | (simp; try omega)) (SlAt.some p3.rd) (by first | omega | (simp; try omega)) (by first | omega | (simp; try omega)) (by first | omega | (simp; try omega)) (SlAt.some p6.rd)))) ?_
   rintro _ w34 ⟨A36, cap37, rfl, hc_cap37, o35, c_w34⟩
   have hs_w34 : w31.heap.size ≤ w34.heap.size := Chg.size c_w34
   replace p3 := p3.k c_w34
   replace p6 := p6.k c_w34
   replace p9 := p9.k c_w34
   replace p13 := p13.k c_w34
   replace p33 := p33.k c_w34
   have C_w34 := Chg.pure C_w31 c_w34
   have hl_o35 : [x, y].flatten.length ≤ 1048576 := by simp; omega
   have hg_o35 : 0 < [x, y].flatten.length := by simp; omega
   have K_w34 := Chg.pure K_w31 c_w34
   refine ⟨K_w34, ?_⟩
   refine s_fxK rfl rfl (w_call Tryz.call91 rfl (sumOf_spec (2) [x, y].flatten _ _ _ _ (by omega) (by omega) (by first | omega | (simp; try omega)) (by first | omega | (simp; try omega)) (by first | omega | (simp; try omega)) (by first | omega | (simp; try omega)) (Owns.sl o35))) ?_
   rintro _ w38 ⟨rfl, c_w38⟩
   have hs_w38 : w34.heap.size ≤ w38.heap.size := Chg.size c_w38
   replace p3 := p3.k c_w38
   replace p6 := p6.k c_w38
   replace p9 := p9.k c_w38
   replace p13 := p13.k c_w38
   replace p33 := p33.k c_w38
   replace o35 := o35.k c_w38
   have C_w38 := Chg.pure C_w34 c_w38
   have K_w38 := Chg.pure K_w34 c_w38
   refine ⟨K_w38, ?_⟩
   refine s_takeK rfl rfl (w0 := w10) (fun x_ c_ => r_move) ?_
   refine s_takeK rfl rfl (w0 := w10) (fun x_ c_ => r_extract rfl rfl) ?_
   refine s_takeK rfl rfl (w0 := w10) (fun x_ c_ => r_extract rfl rfl) ?_
   refine s_fxK rfl rfl (w_storeA (o := 0) Tryz.sizeOf27 rfl rfl (bs_len (by first | omega | (simp; try omega))) (flat_bs _) p33 (bs_len (by first | omega | (simp; try omega)))) ?_
   rintro _ w39 ⟨q_w39, c_w39⟩
   have hs_w39 : w38.heap.size ≤ w39.heap.size := Chg.size c_w39
   replace p3 := p3.kb c_w39 (by omega)
   replace p6 := p6.kb c_w39 (by omega)
   replace p9 := p9.kb c_w39 (by omega)
   replace p13 := p13.kb c_w39 (by omega)
   replace o35 := o35.kb c_w39 (Owns.ne_lt o35 (by omega))
   have C_w39 := Chg.newRng C_w38 c_w39 (by omega)
   have p33 := q_w39
   have K_w39 := Chg.newRng K_w38 c_w39 (by omega)
   refine ⟨K_w39, ?_⟩
   refine s_val rfl rfl (r_assign) rfl ?_
   refine s_end ?_
   refine go_seq ?_
   refine go_region 2 rfl rfl ?_
   refine s_val rfl rfl (r_loadN Tryz.isAgg27 Tryz.sizeOf27 rfl p33.rd (bs_len (by first | omega | (simp; try omega)))) rfl ?_
   refine s_do rfl rfl (w_storeA (o := 0) Tryz.sizeOf27 rfl rfl (bs_len (by first | omega | (simp; try omega))) (flat_bs _) p9 (bs_len (by first | omega | (simp; try omega)))) rfl ?_
   rintro _ w40 ⟨q_w40, c_w40⟩
   have hs_w40 : w39.heap.size ≤ w40.heap.size := Chg.size c_w40
   replace p3 := p3.kb c_w40 (by omega)
   replace p6 := p6.kb c_w40 (by omega)
   replace p13 := p13.kb c_w40 (by omega)
   replace o35 := o35.kb c_w40 (Owns.ne_lt o35 (by omega))
   replace p33 := p33.kb c_w40 (by omega)
   have C_w40 := Chg.newRng C_w39 c_w40 (by omega)
   have p9 := q_w40
   refine s_end ?_
   refine go_ret ?_
   refine ⟨_, .cons ⟨_, rfl, run_load_agg Tryz.isAgg27 Tryz.sizeOf27 (bs_len (by first | omega | (simp; try omega))) p9.rd⟩ (.nil), ?_⟩
   have e_ : [x, y].flatten = x ++ y := by simp
   exact ⟨congrArg (fun x => Value.agg (bs x).toArray) (congrArg (hashB 2) e_), C_w40⟩
 ·
  refine s_fxK rfl rfl (w_alloc (bs (List.replicate 32 0)) Tryz.zeroValue27 (by kernel_rfl)) ?_
  rintro _ w41 ⟨b42, rfl, hl_b42, hu_b42, p43, c_w41⟩
  have hs_w41 : w10.heap.size ≤ w41.heap.size := Chg.size c_w41
  replace p3 := p3.k c_w41
  replace p6 := p6.k c_w41
  replace p9 := p9.k c_w41
  have C_w41 := Chg.pure C_w10 c_w41
  have hn_b42 : w.heap.size ≤ b42 := by have := Chg.size C_w41; omega
  have K_w41 := Chg.pure (Chg.refl no w10) c_w41
  refine ⟨K_w41, ?_⟩
  refine s_fxK rfl rfl (w_build2 (E := 55) Tryz.underlying62 (i := Tryz.t55) (by kernel_rfl) rfl rfl rfl rfl rfl rfl rfl) ?_
  rintro _ w44 ⟨b45, rfl, hl_b45, hu_b45, o47, p46, c_w44⟩
  have hs_w44 : w41.heap.size ≤ w44.heap.size := Chg.size c_w44
  replace p3 := p3.k c_w44
  replace p6 := p6.k c_w44
  replace p9 := p9.k c_w44
  replace p43 := p43.k c_w44
  have C_w44 := Chg.pure C_w41 c_w44
  have hn_b45 : w.heap.size ≤ b45 := by have := Chg.size C_w44; omega
  clear o47
  replace p46 : Pc w44 b45 0 [(Value.slice (some ⟨b2, 0, none⟩) 32 (32 - 0)), (Value.slice (some ⟨b5, 0, none⟩) 32 (32 - 0))] := p46
  have K_w44 := Chg.pure K_w41 c_w44
  refine ⟨K_w44, ?_⟩
  refine s_fxK rfl rfl (w_call Tryz.call64 rfl (concat_spec [x, y] [_, _] _ _ _ _ rfl (by decide) (by decide) (by simp; omega) (by simp; omega) (SlAt.some p46.rd) (SlsOk.two (by first | omega | (simp; try omega)) (by first | omega | (simp; try omega)) (by first | omega | (simp; try omega)) (SlAt.some p3.rd) (by first | omega | (simp; try omega)) (by first | omega | (simp; try omega)) (by first | omega | (simp; try omega)) (SlAt.some p6.rd)))) ?_
  rintro _ w48 ⟨A50, cap51, rfl, hc_cap51, o49, c_w48⟩
  have hs_w48 : w44.heap.size ≤ w48.heap.size := Chg.size c_w48
  replace p3 := p3.k c_w48
  replace p6 := p6.k c_w48
  replace p9 := p9.k c_w48
  replace p43 := p43.k c_w48
  replace p46 := p46.k c_w48
  have C_w48 := Chg.pure C_w44 c_w48
  have hl_o49 : [x, y].flatten.length ≤ 1048576 := by simp; omega
  have hg_o49 : 0 < [x, y].flatten.length := by simp; omega
  have K_w48 := Chg.pure K_w44 c_w48
  refine ⟨K_w48, ?_⟩
  refine s_fxK rfl rfl (w_call Tryz.call91 rfl (sumOf_spec (2) [x, y].flatten _ _ _ _ (by omega) (by omega) (by first | omega | (simp; try omega)) (by first | omega | (simp; try omega)) (by first | omega | (simp; try omega)) (by first | omega | (simp; try omega)) (Owns.sl o49))) ?_
  rintro _ w52 ⟨rfl, c_w52⟩
  have hs_w52 : w48.heap.size ≤ w52.heap.size := Chg.size c_w52
  replace p3 := p3.k c_w52
  replace p6 := p6.k c_w52
  replace p9 := p9.k c_w52
  replace p43 := p43.k c_w52
  replace p46 := p46.k c_w52
  replace o49 := o49.k c_w52
  have C_w52 := Chg.pure C_w48 c_w52
  have K_w52 := Chg.pure K_w48 c_w52
  refine ⟨K_w52, ?_⟩
  refine s_takeK rfl rfl (w0 := w10) (fun x_ c_ => r_move) ?_
  refine s_takeK rfl rfl (w0 := w10) (fun x_ c_ => r_extract rfl rfl) ?_
  refine s_takeK rfl rfl (w0 := w10) (fun x_ c_ => r_extract rfl rfl) ?_
  refine s_fxK rfl rfl (w_storeA (o := 0) Tryz.sizeOf27 rfl rfl (bs_len (by first | omega | (simp; try omega))) (flat_bs _) p43 (bs_len (by first | omega | (simp; try omega)))) ?_
  rintro _ w53 ⟨q_w53, c_w53⟩
  have hs_w53 : w52.heap.size ≤ w53.heap.size := Chg.size c_w53
  replace p3 := p3.kb c_w53 (by omega)
  replace p6 := p6.kb c_w53 (by omega)
  replace p9 := p9.kb c_w53 (by omega)
  replace p46 := p46.kb c_w53 (by omega)
  replace o49 := o49.kb c_w53 (Owns.ne_lt o49 (by omega))
  have C_w53 := Chg.newRng C_w52 c_w53 (by omega)
  have p43 := q_w53
  have K_w53 := Chg.newRng K_w52 c_w53 (by omega)
  refine ⟨K_w53, ?_⟩
  refine s_val rfl rfl (r_assign) rfl ?_
  refine s_end ?_
  refine go_seq ?_
  refine go_region 2 rfl rfl ?_
  refine s_val rfl rfl (r_loadN Tryz.isAgg27 Tryz.sizeOf27 rfl p43.rd (bs_len (by first | omega | (simp; try omega)))) rfl ?_
  refine s_do rfl rfl (w_storeA (o := 0) Tryz.sizeOf27 rfl rfl (bs_len (by first | omega | (simp; try omega))) (flat_bs _) p9 (bs_len (by first | omega | (simp; try omega)))) rfl ?_
  rintro _ w54 ⟨q_w54, c_w54⟩
  have hs_w54 : w53.heap.size ≤ w54.heap.size := Chg.size c_w54
  replace p3 := p3.kb c_w54 (by omega)
  replace p6 := p6.kb c_w54 (by omega)
  replace p46 := p46.kb c_w54 (by omega)
  replace o49 := o49.kb c_w54 (Owns.ne_lt o49 (by omega))
  replace p43 := p43.kb c_w54 (by omega)
  have C_w54 := Chg.newRng C_w53 c_w54 (by omega)
  have p9 := q_w54
  refine s_end ?_
  refine go_ret ?_
  refine ⟨_, .cons ⟨_, rfl, run_load_agg Tryz.isAgg27 Tryz.sizeOf27 (bs_len (by first | omega | (simp; try omega))) p9.rd⟩ (.nil), ?_⟩
  have e_ : [x, y].flatten = x ++ y := by simp
  exact ⟨congrArg (fun x => Value.agg (bs x).toArray) (congrArg (hashB 2) e_), C_w54⟩
theorem tab8 (c : UInt8) : Lib.len8tab[c.toNat]? = some (UInt8.ofNat (lenN c.toNat)) := by
  have h : ∀ i : Fin 256, Lib.len8tab[i.val]? = some (UInt8.ofNat (lenN i.val)) := by decide +kernel
  exact h ⟨c.toNat, c.toNat_lt⟩
theorem lenN_le {n k : Nat} (h : n < 2 ^ k) : lenN n ≤ k := by
  unfold lenN
  split
  · omega
  · rename_i h0
    have := (Nat.log2_lt h0).2 h
    omega
theorem len_end (q : UInt64) (h : q.toNat < 256) : (UInt8.ofNat (lenN (b8 (q.toNat : Int)).toNat)).toNat = lenN q.toNat := by
  have e : (b8 (q.toNat : Int)).toNat = q.toNat := by rw [b8, UInt8.toNat_ofNat']; omega
  have := lenN_le (n := q.toNat) (k := 8) h
  rw [e, UInt8.toNat_ofNat']
  omega
theorem len64_spec (p : UInt64) (w : World) (hp : p.toNat < 4294967296) :
  Rtn Tryz.prog 116 [u64 p].toArray w (fun v w' => v = i64 ((lenN p.toNat : Nat) : Int) ∧ Kept w w') := by
 have e16 : (shr64 p (16 : Int).toNat).toNat = p.toNat / 65536 := shr64_toNat p 16 (by decide)
 have e168 : (shr64 (shr64 p (16 : Int).toNat) (8 : Int).toNat).toNat = p.toNat / 65536 / 256 := by rw [← e16]; exact shr64_toNat _ 8 (by decide)
 have e8 : (shr64 p (8 : Int).toNat).toNat = p.toNat / 256 := shr64_toNat p 8 (by decide)
 have u0 := UInt8.toNat_lt (UInt8.ofNat (lenN (b8 ((shr64 (shr64 p (16 : Int).toNat) (8 : Int).toNat).toNat : Int)).toNat))
 have u1 := UInt8.toNat_lt (UInt8.ofNat (lenN (b8 ((shr64 p (16 : Int).toNat).toNat : Int)).toNat))
 have u2 := UInt8.toNat_lt (UInt8.ofNat (lenN (b8 ((shr64 p (8 : Int).toNat).toNat : Int)).toNat))
 have u3 := UInt8.toNat_lt (UInt8.ofNat (lenN (b8 ((p).toNat : Int)).toNat))
 refine fn_body (l := [u64 p]) 25 [.tmp 2] Tryz.func116 rfl Tryz.ntmps116 (Nat.le_of_ble_eq_true rfl) (by rw [Tryz.results116]) ?_
 refine go_seq ?_
 refine go_region 1 rfl rfl ?_
 refine s_val rfl rfl (r_assign) rfl ?_
 refine s_end ?_
 refine go_seq ?_
 refine go_seq ?_
 refine go_region 2 rfl rfl ?_
 refine s_val rfl rfl (r_move) rfl ?_
 refine s_val rfl rfl (r_geq rfl rfl) rfl ?_
 refine s_end ?_
 refine go_ifb _ rfl (fun h1 => ?_) (fun h1 => ?_)
 ·first | replace h1 := dcT h1 | replace h1 := dcF (nt h1) | skip
  exfalso
  omega
 ·first | replace h1 := dcF h1 | replace h1 := dcT (nf h1) | skip
  refine go_skip ?_
  refine go_seq ?_
  refine go_seq ?_
  refine go_region 2 rfl rfl ?_
  refine s_val rfl rfl (r_move) rfl ?_
  refine s_val rfl rfl (r_geq rfl rfl) rfl ?_
  refine s_end ?_
  refine go_ifb _ rfl (fun h2 => ?_) (fun h2 => ?_)
  ·first | replace h2 := dcT h2 | replace h2 := dcF (nt h2) | skip
   refine go_seq ?_
   refine go_region 3 rfl rfl ?_
   refine s_val rfl rfl (r_move) rfl ?_
   refine s_val rfl rfl (r_shr64 rfl rfl (by omega)) rfl ?_
   refine s_val rfl rfl (r_assign) rfl ?_
   refine s_end ?_
   refine go_region 3 rfl rfl ?_
   refine s_val rfl rfl (r_move) rfl ?_
   refine s_val rfl rfl (r_addi rfl rfl (by omega)) rfl ?_
   refine s_val rfl rfl (r_assign) rfl ?_
   refine s_end ?_
   refine go_seq ?_
   refine go_seq ?_
   refine go_region 2 rfl rfl ?_
   refine s_val rfl rfl (r_move) rfl ?_
   refine s_val rfl rfl (r_geq rfl rfl) rfl ?_
   refine s_end ?_
   refine go_ifb _ rfl (fun h3 => ?_) (fun h3 => ?_)
   ·first | replace h3 := dcT h3 | replace h3 := dcF (nt h3) | skip
    refine go_seq ?_
    refine go_region 3 rfl rfl ?_
    refine s_val rfl rfl (r_move) rfl ?_
    refine s_val rfl rfl (r_shr64 rfl rfl (by omega)) rfl ?_
    refine s_val rfl rfl (r_assign) rfl ?_
    refine s_end ?_
    refine go_region 3 rfl rfl ?_
    refine s_val rfl rfl (r_move) rfl ?_
    refine s_val rfl rfl (r_addi rfl rfl (by omega)) rfl ?_
    refine s_val rfl rfl (r_assign) rfl ?_
    refine s_end ?_
    refine go_seq ?_
    refine go_region 7 rfl rfl ?_
    refine s_val rfl rfl (r_move) rfl ?_
    refine s_val rfl rfl (r_move) rfl ?_
    refine s_val rfl rfl (r_conv_u8 Tryz.runUnderlying111 Tryz.runUnderlying5 rfl) rfl ?_
    refine s_val rfl rfl (r_indexStr Tryz.runUnderlying9 rfl rfl rfl (tab8 _)) rfl ?_
    refine s_val rfl rfl (r_conv_i64 Tryz.runUnderlying5 Tryz.runUnderlying3 rfl (by first | omega | (constructor <;> omega))) rfl ?_
    refine s_val rfl rfl (r_addi rfl rfl (by omega)) rfl ?_
    refine s_val rfl rfl (r_assign) rfl ?_
    refine s_end ?_
    refine go_ret ?_
    refine ⟨_, .cons rfl (.nil), ?_⟩
    refine ⟨congrArg i64 ?_, (Chg.refl no w)⟩
    have e1 := (len_end (shr64 (shr64 p (16 : Int).toNat) (8 : Int).toNat) (by omega)).trans (congrArg lenN e168)
    have e2 := lenN_pow 16 (n := p.toNat) (by omega)
    have e3 := lenN_pow 8 (n := p.toNat / 65536) (by omega)
    rw [show (2 : Nat) ^ 16 = 65536 from rfl] at e2
    rw [show (2 : Nat) ^ 8 = 256 from rfl] at e3
    omega
   ·first | replace h3 := dcF h3 | replace h3 := dcT (nf h3) | skip
    refine go_skip ?_
    refine go_seq ?_
    refine go_region 7 rfl rfl ?_
    refine s_val rfl rfl (r_move) rfl ?_
    refine s_val rfl rfl (r_move) rfl ?_
    refine s_val rfl rfl (r_conv_u8 Tryz.runUnderlying111 Tryz.runUnderlying5 rfl) rfl ?_
    refine s_val rfl rfl (r_indexStr Tryz.runUnderlying9 rfl rfl rfl (tab8 _)) rfl ?_
    refine s_val rfl rfl (r_conv_i64 Tryz.runUnderlying5 Tryz.runUnderlying3 rfl (by first | omega | (constructor <;> omega))) rfl ?_
    refine s_val rfl rfl (r_addi rfl rfl (by omega)) rfl ?_
    refine s_val rfl rfl (r_assign) rfl ?_
    refine s_end ?_
    refine go_ret ?_
    refine ⟨_, .cons rfl (.nil), ?_⟩
    refine ⟨congrArg i64 ?_, (Chg.refl no w)⟩
    have e1 := (len_end (shr64 p (16 : Int).toNat) (by omega)).trans (congrArg lenN e16)
    have e2 := lenN_pow 16 (n := p.toNat) (by omega)
    rw [show (2 : Nat) ^ 16 = 65536 from rfl] at e2
    omega
  ·first | replace h2 := dcF h2 | replace h2 := dcT (nf h2) | skip
   refine go_skip ?_
   refine go_seq ?_
   refine go_seq ?_
   refine go_region 2 rfl rfl ?_
   refine s_val rfl rfl (r_move) rfl ?_
   refine s_val rfl rfl (r_geq rfl rfl) rfl ?_
   refine s_end ?_
   refine go_ifb _ rfl (fun h3 => ?_) (fun h3 => ?_)
   ·first | replace h3 := dcT h3 | replace h3 := dcF (nt h3) | skip
    refine go_seq ?_
    refine go_region 3 rfl rfl ?_
    refine s_val rfl rfl (r_move) rfl ?_
    refine s_val rfl rfl (r_shr64 rfl rfl (by omega)) rfl ?_
    refine s_val rfl rfl (r_assign) rfl ?_
    refine s_end ?_
    refine go_region 3 rfl rfl ?_
    refine s_val rfl rfl (r_move) rfl ?_
    refine s_val rfl rfl (r_addi rfl rfl (by omega)) rfl ?_
    refine s_val rfl rfl (r_assign) rfl ?_
    refine s_end ?_
    refine go_seq ?_
    refine go_region 7 rfl rfl ?_
    refine s_val rfl rfl (r_move) rfl ?_
    refine s_val rfl rfl (r_move) rfl ?_
    refine s_val rfl rfl (r_conv_u8 Tryz.runUnderlying111 Tryz.runUnderlying5 rfl) rfl ?_
    refine s_val rfl rfl (r_indexStr Tryz.runUnderlying9 rfl rfl rfl (tab8 _)) rfl ?_
    refine s_val rfl rfl (r_conv_i64 Tryz.runUnderlying5 Tryz.runUnderlying3 rfl (by first | omega | (constructor <;> omega))) rfl ?_
    refine s_val rfl rfl (r_addi rfl rfl (by omega)) rfl ?_
    refine s_val rfl rfl (r_assign) rfl ?_
    refine s_end ?_
    refine go_ret ?_
    refine ⟨_, .cons rfl (.nil), ?_⟩
    refine ⟨congrArg i64 ?_, (Chg.refl no w)⟩
    have e1 := (len_end (shr64 p (8 : Int).toNat) (by omega)).trans (congrArg lenN e8)
    have e3 := lenN_pow 8 (n := p.toNat) (by omega)
    rw [show (2 : Nat) ^ 8 = 256 from rfl] at e3
    omega
   ·first | replace h3 := dcF h3 | replace h3 := dcT (nf h3) | skip
    refine go_skip ?_
    refine go_seq ?_
    refine go_region 7 rfl rfl ?_
    refine s_val rfl rfl (r_move) rfl ?_
    refine s_val rfl rfl (r_move) rfl ?_
    refine s_val rfl rfl (r_conv_u8 Tryz.runUnderlying111 Tryz.runUnderlying5 rfl) rfl ?_
    refine s_val rfl rfl (r_indexStr Tryz.runUnderlying9 rfl rfl rfl (tab8 _)) rfl ?_
    refine s_val rfl rfl (r_conv_i64 Tryz.runUnderlying5 Tryz.runUnderlying3 rfl (by first | omega | (constructor <;> omega))) rfl ?_
    refine s_val rfl rfl (r_addi rfl rfl (by omega)) rfl ?_
    refine s_val rfl rfl (r_assign) rfl ?_
    refine s_end ?_
    refine go_ret ?_
    refine ⟨_, .cons rfl (.nil), ?_⟩
    refine ⟨congrArg i64 ?_, (Chg.refl no w)⟩
    have e1 := len_end p (by omega)
    omega
theorem len_spec (p : UInt64) (w : World) (hp : p.toNat < 4294967296) :
  Rtn Tryz.prog 108 [u64 p].toArray w (fun v w' => v = i64 ((lenN p.toNat : Nat) : Int) ∧ Kept w w') := by
 refine fn_body (l := [u64 p]) 8 [.tmp 2] Tryz.func108 rfl Tryz.ntmps108 (Nat.le_of_ble_eq_true rfl) (by rw [Tryz.results108]) ?_
 refine go_seq ?_
 refine go_region 1 rfl rfl ?_
 refine s_val rfl rfl (r_assign) rfl ?_
 refine s_end ?_
 refine go_seq ?_
 refine go_false rfl ?_
 refine go_skip ?_
 refine go_seq ?_
 refine go_region 3 rfl rfl ?_
 refine s_val rfl rfl (r_move) rfl ?_
 refine s_do rfl rfl (w_call Tryz.call116 rfl (len64_spec _ _ (by omega))) rfl ?_
 rintro _ w1 ⟨rfl, c_w1⟩
 have hs_w1 : w.heap.size ≤ w1.heap.size := Chg.size c_w1
 have C_w1 := Chg.pure (Chg.refl no w) c_w1
 refine s_val rfl rfl (r_assign) rfl ?_
 refine s_end ?_
 refine go_ret ?_
 refine ⟨_, .cons rfl (.nil), ?_⟩
 exact ⟨rfl, C_w1⟩
theorem split_spec (n : Nat) (w : World) (h2 : 2 ≤ n) (hb : n < 4294967296) :
  Rtn Tryz.prog 89 [i64 (n : Nat)].toArray w (fun v w' => v = i64 ((halfN n : Nat) : Int) ∧ Kept w w') := by
 have hw : (w64 ((n : Int) - 1)).toNat = n - 1 := by rw [show (n : Int) - 1 = ((n - 1 : Nat) : Int) by omega]; exact w64_toNat _ (by omega)
 have hl := lenN_le (n := n - 1) (k := 32) (by omega)
 have hl0 : 1 ≤ lenN (n - 1) := by rw [lenN, if_neg (by omega)]; omega
 have hlw : lenN (w64 ((n : Int) - 1)).toNat = lenN (n - 1) := by rw [hw]
 refine fn_body (l := [i64 (n : Nat)]) 9 [.tmp 2] Tryz.func89 rfl Tryz.ntmps89 (Nat.le_of_ble_eq_true rfl) (by rw [Tryz.results89]) ?_
 refine go_seq ?_
 refine go_region 1 rfl rfl ?_
 refine s_val rfl rfl (r_assign) rfl ?_
 refine s_end ?_
 refine go_seq ?_
 refine go_region 7 rfl rfl ?_
 refine s_val rfl rfl (r_move) rfl ?_
 refine s_val rfl rfl (r_subi rfl rfl (by omega)) rfl ?_
 refine s_val rfl rfl (r_conv_u64 Tryz.runUnderlying3 Tryz.runUnderlying43 rfl) rfl ?_
 refine s_do rfl rfl (w_call Tryz.call108 rfl (len_spec (w64 ((n : Int) - 1)) _ (by rw [hw]; omega))) rfl ?_
 rintro _ w1 ⟨rfl, c_w1⟩
 have hs_w1 : w.heap.size ≤ w1.heap.size := Chg.size c_w1
 have C_w1 := Chg.pure (Chg.refl no w) c_w1
 refine s_val rfl rfl (r_subi rfl rfl (by omega)) rfl ?_
 refine s_val rfl rfl (r_shl1 (k := (lenN (w64 ((n : Int) - 1)).toNat - 1)) rfl rfl (by first | rfl | omega) (by omega)) rfl ?_
 refine s_val rfl rfl (r_assign) rfl ?_
 refine s_end ?_
 refine go_ret ?_
 refine ⟨_, .cons rfl (.nil), ?_⟩
 refine ⟨?_, C_w1⟩
 rw [← halfN_len h2, ← hw]
 rfl
/-- the root of a list, the sum of two being H of both -/
def rootH (H : List UInt8 → List UInt8) (L : List (List UInt8)) : List UInt8 :=
  if h : L.length ≤ 1 then L.getD 0 [] else H (rootH H (L.take (halfN L.length)) ++ rootH H (L.drop (halfN L.length)))
termination_by L.length
decreasing_by all_goals (have h1 := halfN_lt (n := L.length) (by omega); have h2 := halfN_pos L.length; simp; omega)
theorem rootH_len {H : List UInt8 → List UInt8} (hH : ∀ l, (H l).length = 32) {L : List (List UInt8)} (h32 : All32 L) (h0 : 0 < L.length) : (rootH H L).length = 32 := by
  rw [rootH]
  split
  · exact h32.get h0
  · exact hH _
theorem rootH_one (H : List UInt8 → List UInt8) {L : List (List UInt8)} (h : L.length ≤ 1) : rootH H L = L.getD 0 [] := by rw [rootH, dif_pos h]
theorem rootH_two (H : List UInt8 → List UInt8) {L : List (List UInt8)} (h : 2 ≤ L.length) : rootH H L = H (rootH H (L.take (halfN L.length)) ++ rootH H (L.drop (halfN L.length))) := by
  conv => lhs; rw [rootH, dif_neg (by omega)]
set_option maxHeartbeats 800000 in
theorem rootB_spec (m : Nat) (L : List (List UInt8)) (a : Option Addr) (n c : Nat) (w : World) (hm : L.length = m) (hn : L.length = n) (h0 : 0 < n) (hb : n < 4294967296) (hc : n ≤ c) (h32 : All32 L) (hsl : SlAt w a (bs L.flatten)) :
  Rtn Tryz.prog 69 [Value.slice a n c].toArray w (fun v w' => v = .agg (bs (rootH (hashB 2) L)).toArray ∧ Kept w w') := by
 induction m using Nat.strongRecOn generalizing L a n c w
 rename_i m ih
 refine fn_body (l := [Value.slice a n c]) 22 [.cell 2 27] Tryz.func69 rfl Tryz.ntmps69 (Nat.le_of_ble_eq_true rfl) (by rw [Tryz.results69]) ?_
 refine go_seq ?_
 refine go_region 1 rfl rfl ?_
 refine s_do rfl rfl (w_alloc (bs (List.replicate 32 0)) Tryz.zeroValue27 (by kernel_rfl)) rfl ?_
 rintro _ w1 ⟨b2, rfl, hl_b2, hu_b2, p3, c_w1⟩
 have hs_w1 : w.heap.size ≤ w1.heap.size := Chg.size c_w1
 have C_w1 := Chg.pure (Chg.refl no w) c_w1
 have hn_b2 : w.heap.size ≤ b2 := by have := Chg.size C_w1; omega
 refine s_end ?_
 refine go_seq ?_
 refine go_seq ?_
 refine go_region 3 rfl rfl ?_
 refine s_val rfl rfl (r_move) rfl ?_
 refine s_val rfl rfl (r_len Tryz.runUnderlying81 rfl) rfl ?_
 refine s_val rfl rfl (r_eql rfl rfl) rfl ?_
 refine s_end ?_
 refine go_ifb _ rfl (fun h1 => ?_) (fun h1 => ?_)
 ·first | replace h1 := dcT h1 | replace h1 := dcF (nt h1) | skip
  refine go_seq ?_
  refine go_region 4 rfl rfl ?_
  refine s_val rfl rfl (r_move) rfl ?_
  refine s_val rfl rfl (r_indexSl (k := 0) Tryz.runUnderlying81 Tryz.sizeOf27 rfl (hsl.k C_w1) (sums_ne h32 (by first | omega | (simp; omega))) rfl (by first | rfl | omega) (by omega)) rfl ?_
  have hg_e4 := All32.get h32 (k := 0) (by first | omega | (simp; omega))
  refine s_val rfl rfl (r_loadSlN Tryz.isAgg27 Tryz.sizeOf27 rfl (hsl.k C_w1) (bs_len (All32.get h32 (by first | omega | (simp; omega)))) (sums_ne h32 (by first | omega | (simp; omega))) (sum_get h32 (k := 0) (by first | omega | (simp; omega)))) rfl ?_
  refine s_do rfl rfl (w_storeA (o := 0) Tryz.sizeOf27 rfl rfl (bs_len (by first | omega | (simp; try omega))) (flat_bs _) p3 (bs_len (by first | omega | (simp; try omega)))) rfl ?_
  rintro _ w5 ⟨q_w5, c_w5⟩
  have hs_w5 : w1.heap.size ≤ w5.heap.size := Chg.size c_w5
  have C_w5 := Chg.newRng C_w1 c_w5 (by omega)
  have p3 := q_w5
  refine s_end ?_
  refine go_ret ?_
  refine ⟨_, .cons ⟨_, rfl, run_load_agg Tryz.isAgg27 Tryz.sizeOf27 (bs_len (by first | omega | (simp; try omega))) p3.rd⟩ (.nil), ?_⟩
  rw [rootH_one _ (by omega)]
  exact ⟨rfl, C_w5⟩
 ·first | replace h1 := dcF h1 | replace h1 := dcT (nf h1) | skip
  refine go_skip ?_
  refine go_seq ?_
  refine go_region 4 rfl rfl ?_
  refine s_val rfl rfl (r_move) rfl ?_
  refine s_val rfl rfl (r_len Tryz.runUnderlying81 rfl) rfl ?_
  refine s_do rfl rfl (w_call Tryz.call89 rfl (split_spec n _ (by omega) (by omega))) rfl ?_
  rintro _ w6 ⟨rfl, c_w6⟩
  have hs_w6 : w1.heap.size ≤ w6.heap.size := Chg.size c_w6
  replace p3 := p3.k c_w6
  have C_w6 := Chg.pure C_w1 c_w6
  have hlt_w6 := halfN_lt (n := n) (by omega)
  have hps_w6 := halfN_pos n
  refine s_val rfl rfl (r_assign) rfl ?_
  refine s_end ?_
  refine go_seq ?_
  refine go_drawsK 7 (.take 0 (.take 1 (.take 2 (.take 4 (.take 5 (.take 6 (.eff 3 (.eff 7 (.eff 8 (.eff 9 .done)))))))))) (by kernel_rfl) (by kernel_rfl) fun w7 c_w7 => ?_
  have hs_w7 : w6.heap.size ≤ w7.heap.size := Chg.size c_w7
  replace p3 := p3.k c_w7
  have C_w7 := Chg.pure C_w6 c_w7
  have p3_0 := p3
  refine s_takeK rfl rfl (w0 := w7) (fun x_ c_ => r_move) ?_
  refine s_takeK rfl rfl (w0 := w7) (fun x_ c_ => r_move) ?_
  have s8 := SlAt.cutS_take hsl h32 (halfN n) c (by omega)
  refine s_takeK rfl rfl (w0 := w7) (fun x_ c_ => r_sliceSl (l := 0) (h := (halfN n)) (m := c) Tryz.runUnderlying81 Tryz.sizeOf27 rfl rfl ⟨_, _, rfl, by first | rfl | omega⟩ rfl (by first | decide | (intro h_; cases h_)) (by first | decide | omega) (by first | decide | omega | (intro _; omega)) (by first | exact Nat.le_refl _ | omega)) ?_
  refine s_takeK rfl rfl (w0 := w7) (fun x_ c_ => r_move) ?_
  refine s_takeK rfl rfl (w0 := w7) (fun x_ c_ => r_move) ?_
  have s9 := SlAt.cutS_drop hsl h32 (halfN n) c (by omega)
  refine s_takeK rfl rfl (w0 := w7) (fun x_ c_ => r_sliceSl (l := (halfN n)) (h := n) (m := c) Tryz.runUnderlying81 Tryz.sizeOf27 rfl ⟨_, _, rfl, by first | rfl | omega⟩ rfl rfl (by first | decide | (intro h_; cases h_)) (by first | decide | omega) (by first | decide | omega | (intro _; omega)) (by first | exact Nat.le_refl _ | omega)) ?_
  refine s_fxK rfl rfl (w_call Tryz.call69 rfl (ih (List.length (L.take (halfN n))) (by first | omega | (simp; omega)) (L.take (halfN n)) _ _ _ _ rfl (by first | omega | (simp; try omega)) (by first | omega | (simp; try omega)) (by first | omega | (simp; try omega)) (by first | omega | (simp; try omega)) (h32.take (halfN n)) (s8.k C_w7))) ?_
  rintro _ w10 ⟨rfl, c_w10⟩
  have hs_w10 : w7.heap.size ≤ w10.heap.size := Chg.size c_w10
  replace p3 := p3.k c_w10
  have C_w10 := Chg.pure C_w7 c_w10
  have hr_w10 : (rootH (hashB 2) (L.take (halfN n))).length = 32 := rootH_len (hashB_length 2) (h32.take (halfN n)) (by first | omega | (simp; try omega))
  have K_w10 := Chg.pure (Chg.refl no w7) c_w10
  refine ⟨K_w10, ?_⟩
  refine s_do rfl rfl (w_call Tryz.call69 rfl (ih (List.length (L.drop (halfN n))) (by first | omega | (simp; omega)) (L.drop (halfN n)) _ _ _ _ rfl (by first | omega | (simp; try omega)) (by first | omega | (simp; try omega)) (by first | omega | (simp; try omega)) (by first | omega | (simp; try omega)) (h32.drop (halfN n)) (s9.k C_w10))) rfl ?_
  rintro _ w11 ⟨rfl, c_w11⟩
  have hs_w11 : w10.heap.size ≤ w11.heap.size := Chg.size c_w11
  replace p3 := p3.k c_w11
  have C_w11 := Chg.pure C_w10 c_w11
  have hr_w11 : (rootH (hashB 2) (L.drop (halfN n))).length = 32 := rootH_len (hashB_length 2) (h32.drop (halfN n)) (by first | omega | (simp; try omega))
  refine s_do rfl rfl (w_call Tryz.call90 rfl (nodeB_spec (rootH (hashB 2) (L.take (halfN n))) (rootH (hashB 2) (L.drop (halfN n))) _ (by first | omega | (simp; try omega)) (by first | omega | (simp; try omega)))) rfl ?_
  rintro _ w12 ⟨rfl, c_w12⟩
  have hs_w12 : w11.heap.size ≤ w12.heap.size := Chg.size c_w12
  replace p3 := p3.k c_w12
  have C_w12 := Chg.pure C_w11 c_w12
  refine s_do rfl rfl (w_storeA (o := 0) Tryz.sizeOf27 rfl rfl (bs_len (by first | omega | (simp; try omega))) (flat_bs _) p3 (bs_len (by first | omega | (simp; try omega)))) rfl ?_
  rintro _ w13 ⟨q_w13, c_w13⟩
  have hs_w13 : w12.heap.size ≤ w13.heap.size := Chg.size c_w13
  have C_w13 := Chg.newRng C_w12 c_w13 (by omega)
  have p3 := q_w13
  refine s_end ?_
  refine go_ret ?_
  refine ⟨_, .cons ⟨_, rfl, run_load_agg Tryz.isAgg27 Tryz.sizeOf27 (bs_len (by first | omega | (simp; try omega))) p3.rd⟩ (.nil), ?_⟩
  rw [rootH_two _ (by omega), hn]
  exact ⟨rfl, C_w13⟩
theorem listFault_spec (a : Option Addr) (n c : Nat) (w : World) (h0 : 0 < n) (hb : n ≤ 65536) :
  Rtn Tryz.prog 68 [Value.slice a n c].toArray w (fun v w' => v = i64 0 ∧ Kept w w') := by
 refine fn_body (l := [Value.slice a n c]) 9 [.tmp 2] Tryz.func68 rfl Tryz.ntmps68 (Nat.le_of_ble_eq_true rfl) (by rw [Tryz.results68]) ?_
 refine go_seq ?_
 refine go_region 1 rfl rfl ?_
 refine s_val rfl rfl (r_assign) rfl ?_
 refine s_end ?_
 refine go_seq ?_
 refine go_seq ?_
 refine go_region 3 rfl rfl ?_
 refine s_val rfl rfl (r_move) rfl ?_
 refine s_val rfl rfl (r_len Tryz.runUnderlying81 rfl) rfl ?_
 refine s_val rfl rfl (r_eql rfl rfl) rfl ?_
 refine s_end ?_
 refine go_ifb _ rfl (fun h1 => ?_) (fun h1 => ?_)
 ·first | replace h1 := dcT h1 | replace h1 := dcF (nt h1) | skip
  exfalso
  omega
 ·first | replace h1 := dcF h1 | replace h1 := dcT (nf h1) | skip
  refine go_skip ?_
  refine go_seq ?_
  refine go_seq ?_
  refine go_region 3 rfl rfl ?_
  refine s_val rfl rfl (r_move) rfl ?_
  refine s_val rfl rfl (r_len Tryz.runUnderlying81 rfl) rfl ?_
  refine s_val rfl rfl (r_gtr rfl rfl) rfl ?_
  refine s_end ?_
  refine go_ifb _ rfl (fun h2 => ?_) (fun h2 => ?_)
  ·first | replace h2 := dcT h2 | replace h2 := dcF (nt h2) | skip
   exfalso
   omega
  ·first | replace h2 := dcF h2 | replace h2 := dcT (nf h2) | skip
   refine go_skip ?_
   refine go_seq ?_
   refine go_region 1 rfl rfl ?_
   refine s_val rfl rfl (r_assign) rfl ?_
   refine s_end ?_
   refine go_ret ?_
   refine ⟨_, .cons rfl (.nil), ?_⟩
   exact ⟨rfl, (Chg.refl no w)⟩
theorem root_spec (L : List (List UInt8)) (a : Option Addr) (n c : Nat) (w : World) (hn : L.length = n) (h0 : 0 < n) (hb : n ≤ 65536) (hc : n ≤ c) (h32 : All32 L) (hsl : SlAt w a (bs L.flatten)) :
  Rtn Tryz.prog 41 [Value.slice a n c].toArray w (fun v w' => v = tup [.agg (bs (rootH (hashB 2) L)).toArray, i64 0] ∧ Kept w w') := by
 refine fn_body (l := [Value.slice a n c]) 13 [.cell 2 27, .tmp 3] Tryz.func41 rfl Tryz.ntmps41 (Nat.le_of_ble_eq_true rfl) (by rw [Tryz.results41]) ?_
 refine go_seq ?_
 refine go_region 2 rfl rfl ?_
 refine s_do rfl rfl (w_alloc (bs (List.replicate 32 0)) Tryz.zeroValue27 (by kernel_rfl)) rfl ?_
 rintro _ w1 ⟨b2, rfl, hl_b2, hu_b2, p3, c_w1⟩
 have hs_w1 : w.heap.size ≤ w1.heap.size := Chg.size c_w1
 have C_w1 := Chg.pure (Chg.refl no w) c_w1
 have hn_b2 : w.heap.size ≤ b2 := by have := Chg.size C_w1; omega
 refine s_val rfl rfl (r_assign) rfl ?_
 refine s_end ?_
 refine go_seq ?_
 refine go_seq ?_
 refine go_region 3 rfl rfl ?_
 refine s_val rfl rfl (r_move) rfl ?_
 refine s_do rfl rfl (w_call Tryz.call68 rfl (listFault_spec _ _ _ _ (by omega) (by omega))) rfl ?_
 rintro _ w4 ⟨rfl, c_w4⟩
 have hs_w4 : w1.heap.size ≤ w4.heap.size := Chg.size c_w4
 replace p3 := p3.k c_w4
 have C_w4 := Chg.pure C_w1 c_w4
 refine s_val rfl rfl (r_assign) rfl ?_
 refine s_end ?_
 refine go_seq ?_
 refine go_region 2 rfl rfl ?_
 refine s_val rfl rfl (r_move) rfl ?_
 refine s_val rfl rfl (r_neq rfl rfl) rfl ?_
 refine s_end ?_
 refine go_ifb _ rfl (fun h5 => ?_) (fun h5 => ?_)
 ·first | replace h5 := dcT h5 | replace h5 := dcF (nt h5) | skip
  exfalso
  omega
 ·first | replace h5 := dcF h5 | replace h5 := dcT (nf h5) | skip
  refine go_skip ?_
  refine go_seq ?_
  refine go_region 4 rfl rfl ?_
  refine s_val rfl rfl (r_move) rfl ?_
  refine s_do rfl rfl (w_call Tryz.call69 rfl (rootB_spec _ L _ _ _ _ rfl (by first | omega | (simp; try omega)) (by first | omega | (simp; try omega)) (by first | omega | (simp; try omega)) (by first | omega | (simp; try omega)) h32 (hsl.k C_w4))) rfl ?_
  rintro _ w6 ⟨rfl, c_w6⟩
  have hs_w6 : w4.heap.size ≤ w6.heap.size := Chg.size c_w6
  replace p3 := p3.k c_w6
  have C_w6 := Chg.pure C_w4 c_w6
  have hr_w6 : (rootH (hashB 2) L).length = 32 := rootH_len (hashB_length 2) h32 (by first | omega | (simp; try omega))
  refine s_do rfl rfl (w_storeA (o := 0) Tryz.sizeOf27 rfl rfl (bs_len (by first | omega | (simp; try omega))) (flat_bs _) p3 (bs_len (by first | omega | (simp; try omega)))) rfl ?_
  rintro _ w7 ⟨q_w7, c_w7⟩
  have hs_w7 : w6.heap.size ≤ w7.heap.size := Chg.size c_w7
  have C_w7 := Chg.newRng C_w6 c_w7 (by omega)
  have p3 := q_w7
  refine s_val rfl rfl (r_assign) rfl ?_
  refine s_end ?_
  refine go_ret ?_
  refine ⟨_, .cons ⟨_, rfl, run_load_agg Tryz.isAgg27 Tryz.sizeOf27 (bs_len (by first | omega | (simp; try omega))) p3.rd⟩ (.cons rfl (.nil)), ?_⟩
  exact ⟨rfl, C_w7⟩
end Go.Proofs.YtippcmedgfmgbaaGreat
end
section
open Go Go.Eng Go.Proofs
namespace Go.Proofs.YtippcmedgfmgbaaGreat
set_option maxHeartbeats 800000 in
theorem leaves_spec (ls : List (List UInt8)) (vs : List Value) (a : Option Addr) (n c : Nat) (w : World) (hn : vs.length = n) (hc : n ≤ c) (hnb : n ≤ 65536) (hlen : ∀ k, (ls.getD k []).length ≤ 1048576) (hsl : SlAt w a vs) (hls : SlsOk w vs ls) :
  Rtn Tryz.prog 42 [Value.slice a n c].toArray w (fun v w' => ∃ a' c', v = Value.slice a' n c' ∧ n ≤ c' ∧ Owns w' w.heap.size 27 32 (Value.slice a' n c') n (bs (ls.map (hashB 1)).flatten) ∧ Kept w w') := by
 have hlv := hls.1
 refine fn_body (l := [Value.slice a n c]) 25 [.tmp 2] Tryz.func42 rfl Tryz.ntmps42 (Nat.le_of_ble_eq_true rfl) (by rw [Tryz.results42]) ?_
 refine go_seq ?_
 refine go_region 1 rfl rfl ?_
 refine s_val rfl rfl (r_assign) rfl ?_
 refine s_end ?_
 refine go_seq ?_
 refine go_region 1 rfl rfl ?_
 refine s_val rfl rfl (r_assign) rfl ?_
 refine s_end ?_
 refine go_seq ?_
 refine go_seq ?_
 refine go_region 3 rfl rfl ?_
 refine s_val rfl rfl (r_move) rfl ?_
 refine s_val rfl rfl (r_len Tryz.runUnderlying62 rfl) rfl ?_
 refine s_val rfl rfl (r_move) rfl ?_
 refine s_end ?_
 refine go_block ?_
 refine go_loopM (σ := Nat × Option Addr × Nat × Nat) [(3, 3), (5, 7), (10, 23)] (fun (x_ : Nat × Option Addr × Nat × Nat) e' w' => match x_ with | (k, a1, n1, c1) => e' 10 = i64 (k : Nat) ∧ e' 3 = Value.slice a1 n1 c1 ∧ k ≤ n ∧ n1 = k ∧ w.heap.size ≤ w'.heap.size ∧ Owns w' w.heap.size 27 32 (Value.slice a1 n1 c1) n1 (bs ((ls.take k).map (hashB 1)).flatten) ∧ n1 ≤ c1 ∧ Chg no w w') (fun (x_ : Nat × Option Addr × Nat × Nat) => match x_ with | (k, a1, n1, c1) => n - k) (0, none, 0, 0) ?_ ?_
 ·exact ⟨rfl, rfl, by omega, rfl, by omega, Owns.nil _ _ _ _, by omega, (Chg.refl no w)⟩
 rintro ⟨k, a1, n1, c1⟩ f2 w1 ⟨e3, e4, hk, hn1, hB_ho1, ho1, hc1, C_w1⟩
 have ob_6 : ∃ g_, f2 = upd g_ 10 (i64 (k : Nat)) := ⟨f2, upd_id e3⟩
 obtain ⟨f5, rfl⟩ := ob_6
 have ob_8 : ∃ g_, f5 = upd g_ 3 (Value.slice a1 n1 c1) := ⟨f5, upd_id e4⟩
 obtain ⟨f7, rfl⟩ := ob_8
 clear e3 e4
 have hs_w1 : w.heap.size ≤ w1.heap.size := Chg.size C_w1
 refine go_seq ?_
 refine go_region 1 rfl rfl ?_
 refine s_val rfl rfl (r_lss rfl rfl) rfl ?_
 refine s_end ?_
 refine go_seq ?_
 refine go_ifb _ rfl (fun h2 => ?_) (fun h2 => ?_)
 ·first | replace h2 := dcT h2 | replace h2 := dcF (nt h2) | skip
  have ob_9 := hls.2 k (by omega)
  obtain ⟨ak, nk, ck, hvk, hlk, h0k, hck, hak⟩ := ob_9
  have hlb := hlen k
  refine go_skip ?_
  refine go_seq ?_
  refine go_block ?_
  refine go_seq ?_
  refine go_region 3 rfl rfl ?_
  refine s_val rfl rfl (r_indexSl (k := k) Tryz.runUnderlying62 Tryz.sizeOf55 rfl (hsl.k C_w1) (by intro h_; rw [h_] at hn; simp at hn; omega) rfl (by first | rfl | omega) (by omega)) rfl ?_
  refine s_val rfl rfl (r_loadSl1 Tryz.isAgg55 rfl (hsl.k C_w1) hvk) rfl ?_
  refine s_val rfl rfl (r_assign) rfl ?_
  refine s_end ?_
  refine go_seq ?_
  refine go_region 8 rfl rfl ?_
  refine s_val rfl rfl (r_move) rfl ?_
  refine s_do rfl rfl (w_call Tryz.call70 rfl (leafB_spec (ls.getD k []) _ _ _ _ (by first | omega | (simp; try omega)) (by first | omega | (simp; try omega)) (by first | omega | (simp; try omega)) (by first | omega | (simp; try omega)) (hak.k C_w1))) rfl ?_
  rintro _ w10 ⟨rfl, c_w10⟩
  have hs_w10 : w1.heap.size ≤ w10.heap.size := Chg.size c_w10
  replace ho1 := ho1.k c_w10
  have C_w10 := Chg.pure C_w1 c_w10
  refine s_val rfl rfl (r_move) rfl ?_
  refine s_val rfl rfl (r_extract rfl rfl) rfl ?_
  refine s_val rfl rfl (r_extract rfl rfl) rfl ?_
  refine s_do rfl rfl (w_alloc (bs (List.replicate 32 0)) Tryz.zeroValue27 (by kernel_rfl)) rfl ?_
  rintro _ w11 ⟨b12, rfl, hl_b12, hu_b12, p13, c_w11⟩
  have ne_b12_ho1 := Owns.ne_ge ho1 hl_b12
  have hs_w11 : w10.heap.size ≤ w11.heap.size := Chg.size c_w11
  replace ho1 := ho1.k c_w11
  have C_w11 := Chg.pure C_w10 c_w11
  have hn_b12 : w.heap.size ≤ b12 := by have := Chg.size C_w11; omega
  refine s_do rfl rfl (w_storeA (o := 0) Tryz.sizeOf27 rfl rfl (bs_len (by first | omega | (simp; try omega))) (flat_bs _) p13 (bs_len (by first | omega | (simp; try omega)))) rfl ?_
  rintro _ w14 ⟨q_w14, c_w14⟩
  have hs_w14 : w11.heap.size ≤ w14.heap.size := Chg.size c_w14
  replace ho1 := ho1.kb c_w14 ne_b12_ho1
  have C_w14 := Chg.newRng C_w11 c_w14 (by omega)
  have p13 := q_w14
  refine s_val rfl rfl (r_assign) rfl ?_
  refine s_end ?_
  refine go_region 5 rfl rfl ?_
  refine s_val rfl rfl (r_move) rfl ?_
  refine s_val rfl rfl (r_loadN Tryz.isAgg27 Tryz.sizeOf27 rfl p13.rd (bs_len (by first | omega | (simp; try omega)))) rfl ?_
  refine s_do rfl rfl (w_buildA1 (E := 27) (sz := 32) Tryz.underlying81 (i := Tryz.t27) (by kernel_rfl) rfl rfl rfl rfl rfl rfl (bs_len (by first | omega | (simp; try omega)))) rfl ?_
  rintro _ w15 ⟨b16, rfl, hl_b16, hu_b16, o18, p17, c_w15⟩
  have ne_b16_ho1 := Owns.ne_ge ho1 hl_b16
  have hs_w15 : w14.heap.size ≤ w15.heap.size := Chg.size c_w15
  replace ho1 := ho1.k c_w15
  replace p13 := p13.k c_w15
  have C_w15 := Chg.pure C_w14 c_w15
  have hn_b16 : w.heap.size ≤ b16 := by have := Chg.size C_w15; omega
  refine s_do rfl rfl (w_append (E := 27) (sz := 32) Tryz.underlying81 rfl (i := Tryz.t27) (by kernel_rfl) rfl rfl rfl rfl (by rfl) ho1 rfl (SlAt.some p17.rd) (by first | (rw [bs_length]; omega) | (simp [bs_length]; done) | (simp [bs_length]; omega) | rfl) (flat_bs _) (by omega) (by show _ * 32 ≤ _; omega) (by omega)) rfl ?_
  rintro v23 w19 ⟨o20, c_w19⟩
  have hs_w19 : w15.heap.size ≤ w19.heap.size := Chg.size c_w19
  replace p13 := p13.kob c_w19 ne_b12_ho1
  replace p17 := p17.kob c_w19 ne_b16_ho1
  have C_w19 := Chg.newOb C_w15 c_w19 ho1 (by omega)
  have hfo_o20 := Owns.form2 o20
  obtain ⟨A21, cap22, e_o20, hc_cap22⟩ := hfo_o20
  subst e_o20
  replace o20 := Owns.appS (L := ((ls.take k).map (hashB 1))) o20
  refine s_val rfl rfl (r_assign) rfl ?_
  refine s_end ?_
  refine go_nil (block_normal ?_)
  refine go_region 2 rfl rfl ?_
  refine s_val rfl rfl (r_addi rfl rfl (by omega)) rfl ?_
  refine s_val rfl rfl (r_move) rfl ?_
  refine s_end ?_
  refine go_nil (loop_normal ⟨⟨(k + 1, _, n1 + 1, _), by first | omega | (dsimp only; omega), ⟨rfl, rfl, by omega, by omega, by omega, by rw [map_snoc _ (by omega)]; exact o20, by omega, C_w19⟩⟩, (by repeat (first | exact same_refl | exact same_over | refine same_upd rfl ?_ | refine same_over2 rfl ?_))⟩)
 ·first | replace h2 := dcF h2 | replace h2 := dcT (nf h2) | skip
  have hkn : k = n := by omega
  have htl : ls.take k = ls := List.take_of_length_le (by omega)
  refine go_exit (loop_exit (block_hit ?_))
  refine go_seq ?_
  refine go_region 2 rfl rfl ?_
  refine s_val rfl rfl (r_move) rfl ?_
  refine s_val rfl rfl (r_assign) rfl ?_
  refine s_end ?_
  refine go_ret ?_
  refine ⟨_, .cons rfl (.nil), ?_⟩
  rw [htl, hn1, hkn] at ho1
  rw [hn1, hkn] at hc1
  exact ⟨_, _, by rw [← hkn, ← hn1]; rfl, hc1, ho1, C_w1⟩
end Go.Proofs.YtippcmedgfmgbaaGreat
end
section
open Go Go.Eng Go.Proofs
namespace Go.Proofs.YtippcmedgfmgbaaGreat
set_option maxHeartbeats 1000000 in
theorem chunk1_spec (m l n₀ tb1 tb2 n c : Nat) (a : Option Addr) (J Jx : List (Option Addr × Nat) → World → Prop) (w : World) (hn : n ≤ 1048576) (hc : n ≤ c) (h1 : tb1 < n₀) (h2 : tb2 < n₀) (hab : AbidesFrom w.heap.size J) (hY : ∀ pre x W1, J pre W1 → pre.length < (n + 1023) / 1024 → YieldAt Fence.wide (m - 1) Tryz.prog l #[Value.slice x.1 x.2 x.2] W1 fun e W' => (e = .returned (.bool true) ∧ J (pre ++ [x]) W' ∧ RowKit.Below n₀ W1 W') ∨ (e = .returned (.bool false) ∧ Jx (pre ++ [x]) W')) (hJ0 : J [] w) (ht1 : Rd w tb1 0 [Value.slice a n c]) (ht2 : Rd w tb2 0 [i64 1024]) :
  Rtn Tryz.prog 88 [.func (.yield l) #[] #[], .pointer (some ⟨tb1, 0, none⟩), .pointer (some ⟨tb2, 0, none⟩)].toArray w (fun _ w' => J (chP a n ((n + 1023) / 1024)) w' ∨ ∃ pre, Jx pre w') := by
 refine fn_body (l := [.func (.yield l) #[] #[], .pointer (some ⟨tb1, 0, none⟩), .pointer (some ⟨tb2, 0, none⟩)]) 31 [] Tryz.func88 rfl Tryz.ntmps88 (Nat.le_of_ble_eq_true rfl) (by rw [Tryz.results88]) ?_
 refine go_seq ?_
 refine go_region 1 rfl rfl ?_
 refine s_val rfl rfl (r_assign) rfl ?_
 refine s_end ?_
 refine go_block ?_
 refine go_loopM (σ := Nat) [(4, 30)] (fun (k : Nat) e' w' => e' 4 = i64 ((1024 * k : Nat) : Int) ∧ k ≤ (n + 1023) / 1024 ∧ J (chP a n k) w' ∧ Chg (byd n₀) w w') (fun (k : Nat) => n - 1024 * k) 0 ?_ ?_
 ·exact ⟨rfl, by omega, hJ0, (Chg.refl (byd n₀) w)⟩
 rintro k f2 w1 ⟨e3, hk, hJk, C_w1⟩
 have ob_5 : ∃ g_, f2 = upd g_ 4 (i64 ((1024 * k : Nat) : Int)) := ⟨f2, upd_id e3⟩
 obtain ⟨f4, rfl⟩ := ob_5
 clear e3
 have hs_w1 : w.heap.size ≤ w1.heap.size := Chg.size C_w1
 have hab0 := hab
 refine go_seq ?_
 refine go_seq ?_
 refine go_region 4 rfl rfl ?_
 refine s_val rfl rfl (r_move) rfl ?_
 refine s_val rfl rfl (r_load1 Tryz.isAgg55 rfl (ht1.kept C_w1 (fun j_ hj_ m_ => by have : n₀ ≤ tb1 := m_; omega))) rfl ?_
 refine s_val rfl rfl (r_len Tryz.runUnderlying55 rfl) rfl ?_
 refine s_val rfl rfl (r_lss rfl rfl) rfl ?_
 refine s_end ?_
 refine go_ifb _ rfl (fun hlt => ?_) (fun hlt => ?_)
 ·first | replace hlt := dcT hlt | replace hlt := dcF (nt hlt) | skip
  refine go_skip ?_
  refine go_seq ?_
  refine go_block ?_
  refine go_seq ?_
  refine go_drawsE 5 (.take 0 (.take 1 (.take 2 (.take 3 (.take 4 (.eff 5 (.eff 6 .done))))))) (by kernel_rfl) (by kernel_rfl) fun w6 c_w6 => ?_
  have hs_w6 : w1.heap.size ≤ w6.heap.size := Chg.size c_w6
  replace hJk := hab _ _ _ none hJk (Chg.grown c_w6) (fun _ e_ => by cases e_)
  have C_w6 := Chg.pure C_w1 c_w6
  refine s_takeE rfl rfl (r_load1 Tryz.isAgg3 rfl (ht2.kept C_w6 (fun j_ hj_ m_ => by have : n₀ ≤ tb2 := m_; omega))) ?_
  refine s_takeE rfl rfl (r_load1 Tryz.isAgg55 rfl (ht1.kept C_w6 (fun j_ hj_ m_ => by have : n₀ ≤ tb1 := m_; omega))) ?_
  refine s_takeE rfl rfl (r_move) ?_
  refine s_takeE rfl rfl (r_sliceSl (l := (1024 * k)) (h := n) (m := c) Tryz.runUnderlying55 Tryz.sizeOf5 rfl ⟨_, _, rfl, by first | rfl | omega⟩ rfl rfl (by first | decide | (intro h_; cases h_)) (by first | decide | omega) (by first | decide | omega | (intro _; omega)) (by first | exact Nat.le_refl _ | omega)) ?_
  refine s_takeE rfl rfl (r_len Tryz.runUnderlying55 rfl) ?_
  refine s_val rfl rfl (r_min rfl rfl) rfl ?_
  refine s_val rfl rfl (r_assign) rfl ?_
  refine s_end ?_
  refine go_seq ?_
  refine go_regionT m 12 rfl ?_
  show TAt none _ _ _ _ _ _ [0, 1, 2, 3, 4, 5, 6, 7, 8, 9, 10, 11] _ _
  refine t_val rfl rfl (by rintro _ ⟨⟩; decide) (fun _ h_ => by cases h_) (r_move) ?_
  refine t_val rfl rfl (by rintro _ ⟨⟩; decide) (fun _ h_ => by cases h_) (r_load1 Tryz.isAgg55 rfl (ht1.kept C_w6 (fun j_ hj_ m_ => by have : n₀ ≤ tb1 := m_; omega))) ?_
  refine t_val rfl rfl (by rintro _ ⟨⟩; decide) (fun _ h_ => by cases h_) (r_move) ?_
  refine t_val rfl rfl (by rintro _ ⟨⟩; decide) (fun _ h_ => by cases h_) (r_move) ?_
  refine t_val rfl rfl (by rintro _ ⟨⟩; decide) (fun _ h_ => by cases h_) (r_move) ?_
  refine t_val rfl rfl (by rintro _ ⟨⟩; decide) (fun _ h_ => by cases h_) (r_addi rfl rfl (by omega)) ?_
  refine t_val rfl rfl (by rintro _ ⟨⟩; decide) (fun _ h_ => by cases h_) (r_move) ?_
  refine t_val rfl rfl (by rintro _ ⟨⟩; decide) (fun _ h_ => by cases h_) (r_move) ?_
  refine t_val rfl rfl (by rintro _ ⟨⟩; decide) (fun _ h_ => by cases h_) (r_addi rfl rfl (by omega)) ?_
  refine t_val rfl rfl (by rintro _ ⟨⟩; decide) (fun _ h_ => by cases h_) (r_sliceSl (l := (1024 * k)) (h := ((1024 * k) + (min 1024 (n - (1024 * k))))) (m := ((1024 * k) + (min 1024 (n - (1024 * k))))) Tryz.runUnderlying55 Tryz.sizeOf5 rfl ⟨_, _, rfl, by first | rfl | omega⟩ ⟨_, _, rfl, by first | rfl | omega⟩ ⟨_, _, rfl, by first | rfl | omega⟩ (by first | decide | (intro h_; cases h_)) (by first | decide | omega) (by first | decide | omega | (intro _; omega)) (by first | exact Nat.le_refl _ | omega)) ?_
  have ob_9 := hY _ ((cutA a (1024 * k) ((1024 * k) + (min 1024 (n - (1024 * k)))) 1), (((1024 * k) + (min 1024 (n - (1024 * k)))) - (1024 * k))) _ hJk (by rw [chP_length]; omega)
  obtain ⟨fn_, tm_, as_, bo_, hy_, hR_⟩ := ob_9
  refine t_round rfl rfl (by rintro _ ⟨⟩; decide) (fun _ h_ => by cases h_) (r_yield rfl rfl hy_) hR_ ?_
  rintro _ w10 (⟨rfl, hJ2, hb_⟩ | ⟨rfl, hJx⟩)
  ·refine ⟨_, rfl, ?_⟩
   have c_w10 := Chg.of_below hb_
   have C_w10 := Chg.into C_w6 c_w10 (fun _ _ _ m => m)
   refine t_val rfl rfl (by rintro _ ⟨⟩; decide) (fun _ h_ => by cases h_) (r_not rfl) ?_
   refine t_go ?_
   refine go_false rfl ?_
   refine go_skip ?_
   refine go_nil (block_normal ?_)
   refine go_region 4 rfl rfl ?_
   refine s_val rfl rfl (r_move) rfl ?_
   refine s_val rfl rfl (r_load1 Tryz.isAgg3 rfl (ht2.kept C_w10 (fun j_ hj_ m_ => by have : n₀ ≤ tb2 := m_; omega))) rfl ?_
   refine s_val rfl rfl (r_addi rfl rfl (by omega)) rfl ?_
   refine s_val rfl rfl (r_assign) rfl ?_
   refine s_end ?_
   refine go_nil (loop_normal ⟨⟨(k + 1), by first | omega | (dsimp only; omega), ⟨rfl, by omega, hJ2, C_w10⟩⟩, (by repeat (first | exact same_refl | exact same_over | refine same_upd rfl ?_ | refine same_over2 rfl ?_))⟩)
  ·refine ⟨_, rfl, ?_⟩
   refine t_val rfl rfl (by rintro _ ⟨⟩; decide) (fun _ h_ => by cases h_) (r_not rfl) ?_
   refine t_go ?_
   refine go_true rfl ?_
   refine go_ret (block_ret (loop_ret (block_ret ?_)))
   refine ⟨_, .nil, ?_⟩
   exact .inr ⟨_, hJx⟩
 ·first | replace hlt := dcF hlt | replace hlt := dcT (nf hlt) | skip
  have hke : k = (n + 1023) / 1024 := by omega
  refine go_exit (loop_exit (block_hit ?_))
  refine go_nil ?_
  refine ⟨_, .nil, ?_⟩
  rw [← hke]; exact .inl hJk
end Go.Proofs.YtippcmedgfmgbaaGreat
end
