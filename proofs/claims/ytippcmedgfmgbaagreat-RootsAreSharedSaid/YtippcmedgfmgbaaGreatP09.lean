/- YtippcmedgfmgbaaGreatP09: a calculus of walks, plain facts of the numbers that are shared, and contracts of functions of the program: called in any world that meets a contract's premises, a function returns what the contract says and changes no more than it says. -/
import Derived.Test.YtippcmedgfmgbaaGreatP02
import Derived.Test.YtippcmedgfmgbaaGreatP03
import Derived.Test.YtippcmedgfmgbaaGreatP04
import Derived.Test.YtippcmedgfmgbaaGreatP05
import Derived.Test.YtippcmedgfmgbaaGreatP06
import Derived.Test.YtippcmedgfmgbaaGreatP07
import Derived.Test.YtippcmedgfmgbaaGreatP08
import Derived.Test.YtippcmedgfmgbaaGreatChecked
import Derived.Lib.Bytealg
import Derived.Deep.LoopGhost
import Derived.Lib.OthersKept
import Derived.Lib.TrimU
import Derived.Laws.IdiomStrings
import Derived.Laws.AppendOwn
section
open Go Go.Eng Go.Proofs
namespace Go.Proofs.YtippcmedgfmgbaaGreat
theorem w64_toNat (n : Nat) (h : n < 4294967296) : (w64 (n : Int)).toNat = n := by rw [w64, UInt64.toNat_ofNat']; omega
theorem halfN_len {n : Nat} (h : 2 ≤ n) : 2 ^ (lenN (n - 1) - 1) = halfN n := by
  rw [lenN, if_neg (by omega), halfN, Nat.add_sub_cancel]
set_option maxHeartbeats 8000000 in
set_option maxRecDepth 100000 in
theorem split_ok_spec (secret seed : List UInt8) (need : Nat) (H : List (List UInt8)) (aH : Option Addr) (n cH : Nat) (w : World) (hk : secret.length = 32) (hs : seed.length = 32) (h0 : 0 < need) (hnn : need ≤ n) (hb : n ≤ 32) (hH : H.length = n) (h16 : All16 H) (hord : ∀ i, 0 < i → i < n → 0 < Go.Lib.compareBytes (H.getD i []) (H.getD (i - 1) [])) (hslH : SlAt w aH (bs H.flatten)) :
  Rtn Tryz.prog 13 [.agg (bs secret).toArray, i64 (need : Nat), Value.slice aH n cH, .agg (bs seed).toArray].toArray w (fun v w' => ∃ b, v = tup [.slice (some ⟨b, 0, none⟩) n n, i64 0] ∧ w.heap.size ≤ b ∧ b < w'.heap.size ∧ Pc w' b 0 (scells (valTo (fun o_ => polyL (fI (((secret.getD o_ 0).toNat : Nat) : Int)) seed o_ need) (initTo H n n) 32)) ∧ Kept w w') := by
 obtain ⟨bH, oH, rfl, hrdH⟩ := SlAt.pos hslH (bs_ne (by rw [h16.len]; omega))
 refine fn_body (l := [.agg (bs secret).toArray, i64 (need : Nat), Value.slice (some ⟨bH, oH, none⟩) n cH, .agg (bs seed).toArray]) 97 [.tmp 8, .tmp 9] Tryz.func13 rfl Tryz.ntmps13 (Nat.le_of_ble_eq_true rfl) (by rw [Tryz.results13]) ?_
 refine go_seq ?_
 refine go_region 4 rfl rfl ?_
 refine s_do rfl rfl (w_boxA rfl) rfl ?_
 rintro _ w1 ⟨b2, rfl, hl_b2, hu_b2, p3, c_w1⟩
 have hs_w1 : w.heap.size ≤ w1.heap.size := Chg.size c_w1
 have C_w1 := Chg.pure (Chg.refl no w) c_w1
 have hn_b2 : w.heap.size ≤ b2 := by have := Chg.size C_w1; omega
 refine s_do rfl rfl (w_boxA rfl) rfl ?_
 rintro _ w4 ⟨b5, rfl, hl_b5, hu_b5, p6, c_w4⟩
 have hs_w4 : w1.heap.size ≤ w4.heap.size := Chg.size c_w4
 replace p3 := p3.k c_w4
 have C_w4 := Chg.pure C_w1 c_w4
 have hn_b5 : w.heap.size ≤ b5 := by have := Chg.size C_w4; omega
 refine s_val rfl rfl (r_assign) rfl ?_
 refine s_val rfl rfl (r_assign) rfl ?_
 refine s_end ?_
 refine go_seq ?_
 refine go_block ?_
 refine go_seq ?_
 refine go_region 3 rfl rfl ?_
 refine s_val rfl rfl (r_move) rfl ?_
 refine s_do rfl rfl (w_call Tryz.call31 rfl (inside_spec ((need : Nat) : Int) _ _ _ (by omega) (by omega))) rfl ?_
 rintro _ w7 ⟨rfl, c_w7⟩
 have hs_w7 : w4.heap.size ≤ w7.heap.size := Chg.size c_w7
 replace p3 := p3.k c_w7
 replace p6 := p6.k c_w7
 have C_w7 := Chg.pure C_w4 c_w7
 refine s_val rfl rfl (r_assign) rfl ?_
 refine s_end ?_
 refine go_false rfl ?_
 refine go_seq ?_
 refine go_region 4 rfl rfl ?_
 refine s_val rfl rfl (r_move) rfl ?_
 refine s_val rfl rfl (r_len Tryz.runUnderlying24 rfl) rfl ?_
 refine s_val rfl rfl (r_gtr rfl rfl) rfl ?_
 refine s_val rfl rfl (r_assign) rfl ?_
 refine s_end ?_
 refine go_ifb _ rfl (fun h8 => ?_) (fun h8 => ?_)
 ·first | replace h8 := dcT h8 | replace h8 := dcF (nt h8) | skip
  exfalso
  omega
 ·first | replace h8 := dcF h8 | replace h8 := dcT (nf h8) | skip
  refine go_seq ?_
  refine go_region 5 rfl rfl ?_
  refine s_val rfl rfl (r_move) rfl ?_
  refine s_val rfl rfl (r_len Tryz.runUnderlying24 rfl) rfl ?_
  refine s_val rfl rfl (r_move) rfl ?_
  refine s_val rfl rfl (r_lss rfl rfl) rfl ?_
  refine s_val rfl rfl (r_assign) rfl ?_
  refine s_end ?_
  refine go_ifb _ rfl (fun h9 => ?_) (fun h9 => ?_)
  ·first | replace h9 := dcT h9 | replace h9 := dcF (nt h9) | skip
   exfalso
   omega
  ·first | replace h9 := dcF h9 | replace h9 := dcT (nf h9) | skip
   refine go_skip ?_
   refine go_nil (block_normal ?_)
   refine go_seq ?_
   refine go_seq ?_
   refine go_region 1 rfl rfl ?_
   refine s_val rfl rfl (r_assign) rfl ?_
   refine s_end ?_
   refine go_block ?_
   refine go_loopM (σ := Nat) [(8, 10), (29, 45)] (fun (i : Nat) e' w' => e' 10 = i64 (i : Nat) ∧ 1 ≤ i ∧ i ≤ n ∧ Pc w' b2 0 (bs secret) ∧ b2 < w'.heap.size ∧ Pc w' b5 0 (bs seed) ∧ b5 < w'.heap.size ∧ Chg no w w') (fun (i : Nat) => n - i) 1 ?_ ?_
   ·exact ⟨rfl, by omega, by omega, p3, by omega, p6, by omega, C_w7⟩
   rintro i f11 w10 ⟨e12, hi1, hi2, p3, hu_b2, p6, hu_b5, C_w10⟩
   have ob_14 : ∃ g_, f11 = upd g_ 10 (i64 (i : Nat)) := ⟨f11, upd_id e12⟩
   obtain ⟨f13, rfl⟩ := ob_14
   clear e12
   have hs_w10 : w.heap.size ≤ w10.heap.size := Chg.size C_w10
   refine go_seq ?_
   refine go_seq ?_
   refine go_region 4 rfl rfl ?_
   refine s_val rfl rfl (r_move) rfl ?_
   refine s_val rfl rfl (r_move) rfl ?_
   refine s_val rfl rfl (r_len Tryz.runUnderlying24 rfl) rfl ?_
   refine s_val rfl rfl (r_lss rfl rfl) rfl ?_
   refine s_end ?_
   refine go_ifb _ rfl (fun h1 => ?_) (fun h1 => ?_)
   ·first | replace h1 := dcT h1 | replace h1 := dcF (nt h1) | skip
    refine go_skip ?_
    refine go_seq ?_
    refine go_block ?_
    refine go_seq ?_
    refine go_drawsE 9 (.take 0 (.take 1 (.take 2 (.take 3 (.take 4 (.take 5 (.take 6 (.take 7 (.take 8 (.eff 9 (.eff 10 .done))))))))))) (by kernel_rfl) (by kernel_rfl) fun w15 c_w15 => ?_
    have hs_w15 : w10.heap.size ≤ w15.heap.size := Chg.size c_w15
    replace p3 := p3.k c_w15
    replace p6 := p6.k c_w15
    have C_w15 := Chg.pure C_w10 c_w15
    refine s_takeE rfl rfl (r_move) ?_
    refine s_takeE rfl rfl (r_move) ?_
    refine s_takeE rfl rfl (r_indexSlQ (k := i) Tryz.runUnderlying24 Tryz.sizeOf37 rfl rfl (by first | rfl | omega) (by omega)) ?_
    refine s_takeE rfl rfl (r_sliceA (l := 0) (h := 16) (m := 16) Tryz.runUnderlying37 Tryz.sizeOf5 rfl rfl rfl rfl (by first | decide | (intro h_; cases h_)) (by decide) (by first | decide | (intro _; decide)) (by decide) (by decide)) ?_
    refine s_takeE rfl rfl (r_move) ?_
    refine s_takeE rfl rfl (r_move) ?_
    refine s_takeE rfl rfl (r_subN (m := i - 1) rfl rfl (by omega) (by omega)) ?_
    refine s_takeE rfl rfl (r_indexSlQ (k := (i - 1)) Tryz.runUnderlying24 Tryz.sizeOf37 rfl rfl (by first | rfl | omega) (by omega)) ?_
    refine s_takeE rfl rfl (r_sliceA (l := 0) (h := 16) (m := 16) Tryz.runUnderlying37 Tryz.sizeOf5 rfl rfl rfl rfl (by first | decide | (intro h_; cases h_)) (by decide) (by first | decide | (intro _; decide)) (by decide) (by decide)) ?_
    have hrA_ : Rd w15 bH (oH + i * 16 + 0 * 1) (bs (H.getD i [])) := by rw [Nat.zero_mul, Nat.add_zero]; exact Rd.hold (hrdH.k C_w15) h16 (by omega)
    have hrB_ : Rd w15 bH (oH + (i - 1) * 16 + 0 * 1) (bs (H.getD (i - 1) [])) := by rw [Nat.zero_mul, Nat.add_zero]; exact Rd.hold (hrdH.k C_w15) h16 (by omega)
    have hcall_ := cmp_spec (H.getD i []) (H.getD (i - 1) []) bH _ (16 - 0) (16 - 0) bH _ (16 - 0) (16 - 0) w15 (h16.get (by omega)) (h16.get (by omega)) hrA_ hrB_
    clear hrA_ hrB_
    refine s_do rfl rfl (w_call Tryz.call32 rfl hcall_) rfl ?_
    rintro _ w16 ⟨rfl, c_w16⟩
    clear hcall_
    have hs_w16 : w15.heap.size ≤ w16.heap.size := Chg.size c_w16
    replace p3 := p3.k c_w16
    replace p6 := p6.k c_w16
    have C_w16 := Chg.pure C_w15 c_w16
    refine s_val rfl rfl (r_leq rfl rfl) rfl ?_
    refine s_end ?_
    refine go_ifb _ rfl (fun h17 => ?_) (fun h17 => ?_)
    ·first | replace h17 := dcT h17 | replace h17 := dcF (nt h17) | skip
     exfalso
     have h_ := hord i (by omega) (by omega)
     omega
    ·first | replace h17 := dcF h17 | replace h17 := dcT (nf h17) | skip
     refine go_skip ?_
     refine go_nil (block_normal ?_)
     refine go_region 3 rfl rfl ?_
     refine s_val rfl rfl (r_move) rfl ?_
     refine s_val rfl rfl (r_addi rfl rfl (by omega)) rfl ?_
     refine s_val rfl rfl (r_assign) rfl ?_
     refine s_end ?_
     refine go_nil (loop_normal ⟨⟨(i + 1), by first | omega | (dsimp only; omega), ⟨rfl, by omega, by omega, p3, by omega, p6, by omega, C_w16⟩⟩, (by repeat (first | exact same_refl | exact same_over | refine same_upd rfl ?_ | refine same_over2 rfl ?_))⟩)
   ·first | replace h1 := dcF h1 | replace h1 := dcT (nf h1) | skip
    refine go_exit (loop_exit (block_hit ?_))
    refine go_seq ?_
    refine go_region 4 rfl rfl ?_
    refine s_val rfl rfl (r_move) rfl ?_
    refine s_val rfl rfl (r_len Tryz.runUnderlying24 rfl) rfl ?_
    refine s_do rfl rfl (w_makeS (n := n) (E := 40) Tryz.underlying26 (i := Tryz.t40) (by kernel_rfl) rfl rfl (by kernel_rfl) rfl rfl (by first | rfl | omega) (by first | rfl | omega) (by show _ * 88 ≤ _; omega) (by omega)) rfl ?_
    rintro _ w18 ⟨b19, rfl, hl_b19, hu_b19, p20, c_w18⟩
    have hs_w18 : w10.heap.size ≤ w18.heap.size := Chg.size c_w18
    replace p3 := p3.k c_w18
    replace p6 := p6.k c_w18
    have C_w18 := Chg.pure C_w10 c_w18
    have hn_b19 : w.heap.size ≤ b19 := by have := Chg.size C_w18; omega
    refine s_val rfl rfl (r_assign) rfl ?_
    refine s_end ?_
    refine go_seq ?_
    refine go_seq ?_
    refine go_region 3 rfl rfl ?_
    refine s_val rfl rfl (r_move) rfl ?_
    refine s_val rfl rfl (r_len Tryz.runUnderlying24 rfl) rfl ?_
    refine s_val rfl rfl (r_move) rfl ?_
    refine s_end ?_
    refine go_block ?_
    refine go_loopM (σ := Nat) [(12, 13), (51, 63)] (fun (k : Nat) e' w' => e' 51 = i64 (k : Nat) ∧ k ≤ n ∧ Pc w' b19 0 (scells (initTo H n k)) ∧ b19 < w'.heap.size ∧ Pc w' b2 0 (bs secret) ∧ b2 < w'.heap.size ∧ Pc w' b5 0 (bs seed) ∧ b5 < w'.heap.size ∧ Chg no w w') (fun (k : Nat) => n - k) 0 ?_ ?_
    ·exact ⟨rfl, by omega, p20, by omega, p3, by omega, p6, by omega, C_w18⟩
    rintro k f23 w22 ⟨e24, hk1, hS11, hu11, p3, hu_b2, p6, hu_b5, C_w22⟩
    have ob_26 : ∃ g_, f23 = upd g_ 51 (i64 (k : Nat)) := ⟨f23, upd_id e24⟩
    obtain ⟨f25, rfl⟩ := ob_26
    clear e24
    have hs_w22 : w.heap.size ≤ w22.heap.size := Chg.size C_w22
    refine go_seq ?_
    refine go_region 1 rfl rfl ?_
    refine s_val rfl rfl (r_lss rfl rfl) rfl ?_
    refine s_end ?_
    refine go_seq ?_
    refine go_ifb _ rfl (fun h2 => ?_) (fun h2 => ?_)
    ·first | replace h2 := dcT h2 | replace h2 := dcF (nt h2) | skip
     refine go_skip ?_
     refine go_seq ?_
     refine go_block ?_
     refine go_seq ?_
     refine go_region 6 rfl rfl ?_
     refine s_val rfl rfl (r_move) rfl ?_
     refine s_val rfl rfl (r_indexSlQ (k := k) Tryz.runUnderlying24 Tryz.sizeOf37 rfl rfl (by first | rfl | omega) (by omega)) rfl ?_
     refine s_val rfl rfl (r_loadN Tryz.isAgg37 Tryz.sizeOf37 rfl (Rd.hold (hrdH.k C_w22) h16 (by omega)) (bs_len (h16.get (by omega)))) rfl ?_
     refine s_do rfl rfl (w_alloc (bs (List.replicate 16 0)) Tryz.zeroValue37 (by kernel_rfl)) rfl ?_
     rintro _ w27 ⟨b28, rfl, hl_b28, hu_b28, p29, c_w27⟩
     have hs_w27 : w22.heap.size ≤ w27.heap.size := Chg.size c_w27
     replace hS11 := hS11.k c_w27
     replace p3 := p3.k c_w27
     replace p6 := p6.k c_w27
     have C_w27 := Chg.pure C_w22 c_w27
     have hn_b28 : w.heap.size ≤ b28 := by have := Chg.size C_w27; omega
     refine s_val rfl rfl (r_assign) rfl ?_
     refine s_do rfl rfl (w_storeA (o := 0) Tryz.sizeOf37 rfl rfl (by first | exact bs_len (by omega) | exact bs_len (h16.get (by omega)) | exact bs_len (by simp; done) | exact bs_len (by simp; omega)) (flat_bs _) p29 (by first | exact bs_len (by omega) | exact bs_len (h16.get (by omega)) | exact bs_len (by simp; done) | exact bs_len (by simp; omega))) rfl ?_
     rintro _ w30 ⟨q_w30, c_w30⟩
     have hs_w30 : w27.heap.size ≤ w30.heap.size := Chg.size c_w30
     replace hS11 := hS11.kb c_w30 (by omega)
     replace p3 := p3.kb c_w30 (by omega)
     replace p6 := p6.kb c_w30 (by omega)
     have C_w30 := Chg.newRng C_w27 c_w30 (by omega)
     have p29 := q_w30
     refine s_end ?_
     refine go_region 8 rfl rfl ?_
     refine s_val rfl rfl (r_move) rfl ?_
     refine s_val rfl rfl (r_move) rfl ?_
     refine s_val rfl rfl (r_loadN Tryz.isAgg37 Tryz.sizeOf37 rfl p29.rd (by first | exact bs_len (by omega) | exact bs_len (h16.get (by omega)) | exact bs_len (by simp; done) | exact bs_len (by simp; omega))) rfl ?_
     refine s_val rfl rfl (r_move) rfl ?_
     refine s_val rfl rfl (r_addi rfl rfl (by omega)) rfl ?_
     refine s_val rfl rfl (r_buildP (cells := scell ⟨H.getD k [], fI ((k + 1 : Nat) : Int), List.replicate 32 0⟩) (built_shr (h16.get (by omega)) (by have h_ := fI_small (n := k + 1) (by omega); omega))) rfl ?_
     refine s_val rfl rfl (r_indexSlQ (k := k) Tryz.runUnderlying26 Tryz.sizeOf40 rfl rfl (by first | rfl | omega) (by omega)) rfl ?_
     refine s_do rfl rfl (w_setShr (k := k) (s := ⟨H.getD k [], fI ((k + 1 : Nat) : Int), List.replicate 32 0⟩) Tryz.sizeOf40 rfl rfl hS11 (initTo_ok h16 hH k (by omega)) ⟨h16.get (by omega), by simp⟩ (by first | omega | (simp; omega))) rfl ?_
     rintro _ w31 ⟨q_w31, c_w31⟩
     have hs_w31 : w30.heap.size ≤ w31.heap.size := Chg.size c_w31
     replace p3 := p3.kb c_w31 (by omega)
     replace p6 := p6.kb c_w31 (by omega)
     replace p29 := p29.kb c_w31 (by omega)
     have C_w31 := Chg.newRng C_w30 c_w31 (by omega)
     have hS11 := q_w31
     refine s_end ?_
     refine go_nil (block_normal ?_)
     refine go_region 2 rfl rfl ?_
     refine s_val rfl rfl (r_addi rfl rfl (by omega)) rfl ?_
     refine s_val rfl rfl (r_move) rfl ?_
     refine s_end ?_
     refine go_nil (loop_normal ⟨⟨(k + 1), by first | omega | (dsimp only; omega), ⟨rfl, by omega, hS11, by omega, p3, by omega, p6, by omega, C_w31⟩⟩, (by repeat (first | exact same_refl | exact same_over | refine same_upd rfl ?_ | refine same_over2 rfl ?_))⟩)
    ·first | replace h2 := dcF h2 | replace h2 := dcT (nf h2) | skip
     have ob_32 : n = k := by omega
     obtain rfl := ob_32
     refine go_exit (loop_exit (block_hit ?_))
     refine go_seq ?_
     refine go_seq ?_
     refine go_region 1 rfl rfl ?_
     refine s_val rfl rfl (r_move) rfl ?_
     refine s_end ?_
     refine go_block ?_
     refine go_loopM (σ := Nat) [(14, 16), (64, 95)] (fun (o : Nat) e' w' => e' 64 = i64 (o : Nat) ∧ o ≤ 32 ∧ Pc w' b19 0 (scells (valTo (fun o_ => polyL (fI (((secret.getD o_ 0).toNat : Nat) : Int)) seed o_ need) (initTo H n n) o)) ∧ b19 < w'.heap.size ∧ Pc w' b2 0 (bs secret) ∧ b2 < w'.heap.size ∧ Pc w' b5 0 (bs seed) ∧ b5 < w'.heap.size ∧ Chg no w w') (fun (o : Nat) => 32 - o) 0 ?_ ?_
     ·exact ⟨rfl, by omega, hS11, by omega, p3, by omega, p6, by omega, C_w22⟩
     rintro o f34 w33 ⟨e35, ho, hS11, hu11, p3, hu_b2, p6, hu_b5, C_w33⟩
     have ob_37 : ∃ g_, f34 = upd g_ 64 (i64 (o : Nat)) := ⟨f34, upd_id e35⟩
     obtain ⟨f36, rfl⟩ := ob_37
     clear e35
     have hs_w33 : w.heap.size ≤ w33.heap.size := Chg.size C_w33
     refine go_seq ?_
     refine go_region 1 rfl rfl ?_
     refine s_val rfl rfl (r_lss rfl rfl) rfl ?_
     refine s_end ?_
     refine go_seq ?_
     refine go_ifb _ rfl (fun h3 => ?_) (fun h3 => ?_)
     ·first | replace h3 := dcT h3 | replace h3 := dcF (nt h3) | skip
      refine go_skip ?_
      refine go_seq ?_
      refine go_block ?_
      refine go_seq ?_
      refine go_region 2 rfl rfl ?_
      refine s_val rfl rfl (r_move) rfl ?_
      refine s_val rfl rfl (r_assign) rfl ?_
      refine s_end ?_
      refine go_seq ?_
      refine go_drawsE 7 (.take 0 (.take 1 (.take 2 (.take 3 (.take 4 (.take 5 (.take 6 (.eff 7 (.eff 8 .done))))))))) (by kernel_rfl) (by kernel_rfl) fun w38 c_w38 => ?_
      have hs_w38 : w33.heap.size ≤ w38.heap.size := Chg.size c_w38
      replace hS11 := hS11.k c_w38
      replace p3 := p3.k c_w38
      replace p6 := p6.k c_w38
      have C_w38 := Chg.pure C_w33 c_w38
      refine s_takeE rfl rfl (r_move) ?_
      refine s_takeE rfl rfl (r_indexArr (k := o) Tryz.runUnderlying23 Tryz.sizeOf5 rfl rfl (by first | rfl | omega) (by first | decide | omega)) ?_
      refine s_takeE rfl rfl (r_load1 Tryz.isAgg5 rfl (Rd.at1 p3.rd (bs_get (by first | omega | (simp; try omega))))) ?_
      refine s_takeE rfl rfl (r_conv_i64 Tryz.runUnderlying5 Tryz.runUnderlying3 rfl (u8_rng _)) ?_
      refine s_takeE rfl rfl (r_move) ?_
      refine s_takeE rfl rfl (r_loadN Tryz.isAgg23 Tryz.sizeOf23 rfl p6.rd (by first | exact bs_len (by omega) | exact bs_len (h16.get (by omega)) | exact bs_len (by simp; done) | exact bs_len (by simp; omega))) ?_
      refine s_takeE rfl rfl (r_move) ?_
      have hcall_ := polynomial_spec (fI (((secret.getD o 0).toNat : Nat) : Int)) (secret.getD o 0).toNat need o seed w38 (fI_small (by have h_ := (secret.getD o 0).toNat_lt; omega)) h0 (by omega) hs
      refine s_do rfl rfl (w_call Tryz.call33 rfl hcall_) rfl ?_
      rintro v41 w39 ⟨o40, c_w39⟩
      clear hcall_
      have hs_w39 : w38.heap.size ≤ w39.heap.size := Chg.size c_w39
      replace hS11 := hS11.k c_w39
      replace p3 := p3.k c_w39
      replace p6 := p6.k c_w39
      have C_w39 := Chg.pure C_w38 c_w39
      have hfo_o40 := Owns.form2 o40
      obtain ⟨aP, cP, e_o40, hcP⟩ := hfo_o40
      subst e_o40
      have hP := Owns.sl o40
      have hloP := Owns.lo o40
      clear o40
      have hpl := polyL_length (z := fI (((secret.getD o 0).toNat : Nat) : Int)) (o := o) hs h0 (by omega)
      refine s_val rfl rfl (r_assign) rfl ?_
      refine s_end ?_
      refine go_seq ?_
      refine go_region 3 rfl rfl ?_
      refine s_val rfl rfl (r_move) rfl ?_
      refine s_val rfl rfl (r_len Tryz.runUnderlying26 rfl) rfl ?_
      refine s_val rfl rfl (r_move) rfl ?_
      refine s_end ?_
      refine go_block ?_
      refine go_loopM (σ := Nat) [(16, 16), (77, 94)] (fun (k : Nat) e' w' => e' 77 = i64 (k : Nat) ∧ k ≤ n ∧ Pc w' b19 0 (scells (putTo (valTo (fun o_ => polyL (fI (((secret.getD o_ 0).toNat : Nat) : Int)) seed o_ need) (initTo H n n) o) o (polyL (fI (((secret.getD o 0).toNat : Nat) : Int)) seed o need) k)) ∧ b19 < w'.heap.size ∧ SlAt w' aP (fs (polyL (fI (((secret.getD o 0).toNat : Nat) : Int)) seed o need)) ∧ Pc w' b2 0 (bs secret) ∧ b2 < w'.heap.size ∧ Pc w' b5 0 (bs seed) ∧ b5 < w'.heap.size ∧ Chg no w w') (fun (k : Nat) => n - k) 0 ?_ ?_
      ·exact ⟨rfl, by omega, hS11, by omega, hP, p3, by omega, p6, by omega, C_w39⟩
      rintro k f45 w44 ⟨e46, hk1, hS11, hu11, hP, p3, hu_b2, p6, hu_b5, C_w44⟩
      have ob_48 : ∃ g_, f45 = upd g_ 77 (i64 (k : Nat)) := ⟨f45, upd_id e46⟩
      obtain ⟨f47, rfl⟩ := ob_48
      clear e46
      have hs_w44 : w.heap.size ≤ w44.heap.size := Chg.size C_w44
      refine go_seq ?_
      refine go_region 1 rfl rfl ?_
      refine s_val rfl rfl (r_lss rfl rfl) rfl ?_
      refine s_end ?_
      refine go_seq ?_
      refine go_ifb _ rfl (fun h4 => ?_) (fun h4 => ?_)
      ·first | replace h4 := dcT h4 | replace h4 := dcF (nt h4) | skip
       refine go_skip ?_
       refine go_seq ?_
       refine go_block ?_
       refine go_seq ?_
       refine go_region 2 rfl rfl ?_
       refine s_val rfl rfl (r_move) rfl ?_
       refine s_val rfl rfl (r_assign) rfl ?_
       refine s_end ?_
       refine go_drawsK 13 (.take 0 (.take 1 (.take 2 (.take 3 (.take 4 (.take 5 (.take 6 (.take 7 (.take 8 (.take 11 (.take 12 (.eff 9 (.take 10 (.eff 13 (.eff 14 .done))))))))))))))) (by kernel_rfl) (by kernel_rfl) fun w49 c_w49 => ?_
       have hs_w49 : w44.heap.size ≤ w49.heap.size := Chg.size c_w49
       replace hS11 := hS11.k c_w49
       replace hP := hP.k c_w49
       replace p3 := p3.k c_w49
       replace p6 := p6.k c_w49
       have C_w49 := Chg.pure C_w44 c_w49
       have hS11_0 := hS11
       have hP_0 := hP
       have p3_0 := p3
       have p6_0 := p6
       refine s_takeK rfl rfl (w0 := w49) (fun x_ c_ => r_move) ?_
       refine s_takeK rfl rfl (w0 := w49) (fun x_ c_ => r_move) ?_
       refine s_takeK rfl rfl (w0 := w49) (fun x_ c_ => r_move) ?_
       refine s_takeK rfl rfl (w0 := w49) (fun x_ c_ => r_move) ?_
       refine s_takeK rfl rfl (w0 := w49) (fun x_ c_ => r_move) ?_
       refine s_takeK rfl rfl (w0 := w49) (fun x_ c_ => r_move) ?_
       refine s_takeK rfl rfl (w0 := w49) (fun x_ c_ => r_indexSlQ (k := k) Tryz.runUnderlying26 Tryz.sizeOf40 rfl rfl (by first | rfl | omega) (by omega)) ?_
       refine s_takeK rfl rfl (w0 := w49) (fun x_ c_ => r_fieldAddr Tryz.runUnderlying40 rfl Tryz.sizeOf3 rfl rfl) ?_
       refine s_takeK rfl rfl (w0 := w49) (fun x_ c_ => r_load1 Tryz.isAgg3 rfl (Rd.shrX (Rd.shr (hS11_0.k c_).rd (putTo_ok (valTo_ok (initTo_ok h16 hH n (by omega)) o) o (polyL (fI (((secret.getD o 0).toNat : Nat) : Int)) seed o need) k) (by simp; omega)) (AllS.get (putTo_ok (valTo_ok (initTo_ok h16 hH n (by omega)) o) o (polyL (fI (((secret.getD o 0).toNat : Nat) : Int)) seed o need) k) k))) ?_
       refine s_takeK rfl rfl (w0 := w49) (fun x_ c_ => r_indexSlQ (k := k) Tryz.runUnderlying26 Tryz.sizeOf40 rfl rfl (by first | rfl | omega) (by omega)) ?_
       refine s_takeK rfl rfl (w0 := w49) (fun x_ c_ => r_fieldAddr Tryz.runUnderlying40 rfl Tryz.sizeOf38 rfl rfl) ?_
       refine s_fxK rfl rfl (w_call Tryz.call34 rfl (value_spec (polyL (fI (((secret.getD o 0).toNat : Nat) : Int)) seed o need) _ _ _ (((putTo (valTo (fun o_ => polyL (fI (((secret.getD o_ 0).toNat : Nat) : Int)) seed o_ need) (initTo H n n) o) o (polyL (fI (((secret.getD o 0).toNat : Nat) : Int)) seed o need) k).getD k shr0).x) _ (by first | omega | (simp; try omega)) (by first | omega | (simp; try omega)) hP)) ?_
       rintro _ w50 ⟨rfl, c_w50⟩
       have hs_w50 : w49.heap.size ≤ w50.heap.size := Chg.size c_w50
       replace hS11 := hS11.k c_w50
       replace hP := hP.k c_w50
       replace p3 := p3.k c_w50
       replace p6 := p6.k c_w50
       have C_w50 := Chg.pure C_w49 c_w50
       have K_w50 := Chg.pure (Chg.refl no w49) c_w50
       refine ⟨K_w50, ?_⟩
       refine s_takeK rfl rfl (w0 := w49) (fun x_ c_ => r_conv_u16F Tryz.runUnderlying3 Tryz.runUnderlying25 rfl) ?_
       refine s_val rfl rfl (r_indexArr (k := o) Tryz.runUnderlying38 Tryz.sizeOf25 rfl rfl (by first | rfl | omega) (by omega)) rfl ?_
       refine s_do rfl rfl (w_setShrY (k := k) (j := o) (z := (ev (polyL (fI (((secret.getD o 0).toNat : Nat) : Int)) seed o need) (((putTo (valTo (fun o_ => polyL (fI (((secret.getD o_ 0).toNat : Nat) : Int)) seed o_ need) (initTo H n n) o) o (polyL (fI (((secret.getD o 0).toNat : Nat) : Int)) seed o need) k).getD k shr0).x))) Tryz.sizeOf25 rfl rfl hS11 (putTo_ok (valTo_ok (initTo_ok h16 hH n (by omega)) o) o (polyL (fI (((secret.getD o 0).toNat : Nat) : Int)) seed o need) k) (by first | omega | (simp; omega)) (by omega)) rfl ?_
       rintro _ w51 ⟨q_w51, c_w51⟩
       have hs_w51 : w50.heap.size ≤ w51.heap.size := Chg.size c_w51
       replace hP := SlAt.kb hP c_w51 (fun b_ o_ ha_ => by have := hloP _ ha_; simp only at this; omega)
       replace p3 := p3.kb c_w51 (by omega)
       replace p6 := p6.kb c_w51 (by omega)
       have C_w51 := Chg.newRng C_w50 c_w51 (by omega)
       have hS11 := q_w51
       refine s_end ?_
       refine go_nil (block_normal ?_)
       refine go_region 2 rfl rfl ?_
       refine s_val rfl rfl (r_addi rfl rfl (by omega)) rfl ?_
       refine s_val rfl rfl (r_move) rfl ?_
       refine s_end ?_
       refine go_nil (loop_normal ⟨⟨(k + 1), by first | omega | (dsimp only; omega), ⟨rfl, by omega, hS11, by omega, hP, p3, by omega, p6, by omega, C_w51⟩⟩, (by repeat (first | exact same_refl | exact same_over | refine same_upd rfl ?_ | refine same_over2 rfl ?_))⟩)
      ·first | replace h4 := dcF h4 | replace h4 := dcT (nf h4) | skip
       have ob_52 : n = k := by omega
       obtain rfl := ob_52
       refine go_exit (loop_exit (block_hit ?_))
       refine go_nil (block_normal ?_)
       refine go_region 2 rfl rfl ?_
       refine s_val rfl rfl (r_addi rfl rfl (by omega)) rfl ?_
       refine s_val rfl rfl (r_move) rfl ?_
       refine s_end ?_
       refine go_nil (loop_normal ⟨⟨(o + 1), by first | omega | (dsimp only; omega), ⟨rfl, by omega, by rw [← valTo_next (n := n) (by simp)]; exact hS11, by omega, p3, by omega, p6, by omega, C_w44⟩⟩, (by repeat (first | exact same_refl | exact same_over | refine same_upd rfl ?_ | refine same_over2 rfl ?_))⟩)
     ·first | replace h3 := dcF h3 | replace h3 := dcT (nf h3) | skip
      have ob_53 : o = 32 := by omega
      obtain rfl := ob_53
      refine go_exit (loop_exit (block_hit ?_))
      refine go_seq ?_
      refine go_region 3 rfl rfl ?_
      refine s_val rfl rfl (r_move) rfl ?_
      refine s_val rfl rfl (r_assign) rfl ?_
      refine s_val rfl rfl (r_assign) rfl ?_
      refine s_end ?_
      refine go_ret ?_
      refine ⟨_, .cons rfl (.cons rfl (.nil)), ?_⟩
      exact ⟨_, rfl, by omega, by omega, hS11, C_w33⟩
end Go.Proofs.YtippcmedgfmgbaaGreat
end
section
open Go Go.Eng Go.Proofs
namespace Go.Proofs.YtippcmedgfmgbaaGreat
set_option maxHeartbeats 8000000 in
set_option maxRecDepth 100000 in
theorem splitOf_spec (secret seed : List UInt8) (need : Nat) (H : List (List UInt8)) (aH : Option Addr) (n cH : Nat) (w : World) (hk : secret.length = 32) (hs : seed.length = 32) (h0 : 0 < need) (hnn : need ≤ n) (hb : n ≤ 32) (hH : H.length = n) (h16 : All16 H) (hslH : SlAt w aH (bs H.flatten)) :
  Rtn Tryz.prog 9 [.agg (bs secret).toArray, i64 (need : Nat), Value.slice aH n cH, .agg (bs seed).toArray].toArray w (fun v w' => ∃ a c, v = .slice a n c ∧ n ≤ c ∧ SlAt w' a (scells (valTo (fun o_ => polyL (fI (((secret.getD o_ 0).toNat : Nat) : Int)) seed o_ need) (initTo H n n) 32)) ∧ Kept w w') := by
 obtain ⟨bH, oH, rfl, hrdH⟩ := SlAt.pos hslH (bs_ne (by rw [h16.len]; omega))
 refine fn_body (l := [.agg (bs secret).toArray, i64 (need : Nat), Value.slice (some ⟨bH, oH, none⟩) n cH, .agg (bs seed).toArray]) 50 [.tmp 8] Tryz.func9 rfl Tryz.ntmps9 (Nat.le_of_ble_eq_true rfl) (by rw [Tryz.results9]) ?_
 refine go_seq ?_
 refine go_region 3 rfl rfl ?_
 refine s_do rfl rfl (w_boxA rfl) rfl ?_
 rintro _ w1 ⟨b2, rfl, hl_b2, hu_b2, p3, c_w1⟩
 have hs_w1 : w.heap.size ≤ w1.heap.size := Chg.size c_w1
 have C_w1 := Chg.pure (Chg.refl no w) c_w1
 have hn_b2 : w.heap.size ≤ b2 := by have := Chg.size C_w1; omega
 refine s_do rfl rfl (w_boxA rfl) rfl ?_
 rintro _ w4 ⟨b5, rfl, hl_b5, hu_b5, p6, c_w4⟩
 have hs_w4 : w1.heap.size ≤ w4.heap.size := Chg.size c_w4
 replace p3 := p3.k c_w4
 have C_w4 := Chg.pure C_w1 c_w4
 have hn_b5 : w.heap.size ≤ b5 := by have := Chg.size C_w4; omega
 refine s_val rfl rfl (r_assign) rfl ?_
 refine s_end ?_
 refine go_seq ?_
 refine go_region 6 rfl rfl ?_
 refine s_val rfl rfl (r_loadN Tryz.isAgg23 Tryz.sizeOf23 rfl p3.rd (by first | exact bs_len (by omega) | exact bs_len (h16.get (by omega)) | exact bs_len (by simp; done) | exact bs_len (by simp; omega))) rfl ?_
 refine s_val rfl rfl (r_move) rfl ?_
 refine s_val rfl rfl (r_loadN Tryz.isAgg23 Tryz.sizeOf23 rfl p6.rd (by first | exact bs_len (by omega) | exact bs_len (h16.get (by omega)) | exact bs_len (by simp; done) | exact bs_len (by simp; omega))) rfl ?_
 have hcall_ := polynomials_spec secret seed need w4 hk h0 (by omega) hs
 refine s_do rfl rfl (w_call Tryz.call24 rfl hcall_) rfl ?_
 rintro _ w7 ⟨vs, rfl, hvl, hpol, c_w7⟩
 clear hcall_
 have hs_w7 : w4.heap.size ≤ w7.heap.size := Chg.size c_w7
 replace p3 := p3.k c_w7
 replace p6 := p6.k c_w7
 have C_w7 := Chg.pure C_w4 c_w7
 have hol_ : w.heap.size ≤ w4.heap.size := by omega
 replace hpol := hpol.mono (Q' := fun b_ => w4.heap.size ≤ b_ ∧ b_ < w7.heap.size) (fun b_ h_ h2_ => ⟨h2_, h_⟩)
 refine s_do rfl rfl (w_alloc (List.replicate 32 (.slice none 0 0)) Tryz.zeroValue64 (by kernel_rfl)) rfl ?_
 rintro _ w9 ⟨b10, rfl, hl_b10, hu_b10, p11, c_w9⟩
 have hs_w9 : w7.heap.size ≤ w9.heap.size := Chg.size c_w9
 replace p3 := p3.k c_w9
 replace p6 := p6.k c_w9
 replace hpol := hpol.k c_w9
 have C_w9 := Chg.pure C_w7 c_w9
 have hn_b10 : w.heap.size ≤ b10 := by have := Chg.size C_w9; omega
 refine s_do rfl rfl (w_storeA (o := 0) Tryz.sizeOf64 rfl rfl (by first | exact hvl | simp) (by first | exact polFlat hpol | exact flat_scell _) p11 (by first | exact hvl | simp)) rfl ?_
 rintro _ w12 ⟨q_w12, c_w12⟩
 have hs_w12 : w9.heap.size ≤ w12.heap.size := Chg.size c_w12
 replace p3 := p3.kb c_w12 (by omega)
 replace p6 := p6.kb c_w12 (by omega)
 replace hpol := hpol.kb c_w12 (fun h_ => by first | omega | (simp only at h_; omega))
 have C_w12 := Chg.newRng C_w9 c_w12 (by omega)
 have p11 := q_w12
 refine s_end ?_
 refine go_seq ?_
 refine go_region 1 rfl rfl ?_
 refine s_val rfl rfl (r_assign) rfl ?_
 refine s_end ?_
 refine go_seq ?_
 refine go_seq ?_
 refine go_region 3 rfl rfl ?_
 refine s_val rfl rfl (r_move) rfl ?_
 refine s_val rfl rfl (r_len Tryz.runUnderlying24 rfl) rfl ?_
 refine s_val rfl rfl (r_move) rfl ?_
 refine s_end ?_
 refine go_block ?_
 refine go_loopM (σ := Nat × Option Addr × Nat) [(10, 14), (21, 48)] (fun (x_ : Nat × Option Addr × Nat) e' w' => match x_ with | (k, aO, cO) => e' 21 = i64 (k : Nat) ∧ e' 10 = Value.slice aO k cO ∧ k ≤ n ∧ w12.heap.size ≤ w'.heap.size ∧ Owns w' w12.heap.size 40 49 (Value.slice aO k cO) k (scells (sharesTo (fun o_ => (polysTo secret seed need 32).getD o_ []) H k)) ∧ k ≤ cO ∧ Pc w' b10 0 vs ∧ PolOk (fun b_ => w4.heap.size ≤ b_ ∧ b_ < w7.heap.size) w' vs (polysTo secret seed need 32) ∧ w7.heap.size ≤ b10 ∧ b10 < w12.heap.size ∧ w12.heap.size ≤ w'.heap.size ∧ Chg no w w') (fun (x_ : Nat × Option Addr × Nat) => match x_ with | (k, aO, cO) => n - k) (0, none, 0) ?_ ?_
 ·exact ⟨rfl, rfl, by omega, by omega, Owns.nil _ _ _ _, by omega, p11, hpol, by omega, by omega, by omega, C_w12⟩
 rintro ⟨k, aO, cO⟩ f14 w13 ⟨e15, e16, hk1, hB_ho10, ho10, hcO, hP9, hpol, hu9, hu9b, hcw, C_w13⟩
 have ob_18 : ∃ g_, f14 = upd g_ 21 (i64 (k : Nat)) := ⟨f14, upd_id e15⟩
 obtain ⟨f17, rfl⟩ := ob_18
 have ob_20 : ∃ g_, f17 = upd g_ 10 (Value.slice aO k cO) := ⟨f17, upd_id e16⟩
 obtain ⟨f19, rfl⟩ := ob_20
 clear e15 e16
 have hs_w13 : w.heap.size ≤ w13.heap.size := Chg.size C_w13
 refine go_seq ?_
 refine go_region 1 rfl rfl ?_
 refine s_val rfl rfl (r_lss rfl rfl) rfl ?_
 refine s_end ?_
 refine go_seq ?_
 refine go_ifb _ rfl (fun h1 => ?_) (fun h1 => ?_)
 ·first | replace h1 := dcT h1 | replace h1 := dcF (nt h1) | skip
  refine go_skip ?_
  refine go_seq ?_
  refine go_block ?_
  refine go_seq ?_
  refine go_region 6 rfl rfl ?_
  refine s_val rfl rfl (r_move) rfl ?_
  refine s_val rfl rfl (r_indexSlQ (k := k) Tryz.runUnderlying24 Tryz.sizeOf37 rfl rfl (by first | rfl | omega) (by omega)) rfl ?_
  refine s_val rfl rfl (r_loadN Tryz.isAgg37 Tryz.sizeOf37 rfl (Rd.hold (hrdH.k C_w13) h16 (by omega)) (bs_len (h16.get (by omega)))) rfl ?_
  refine s_do rfl rfl (w_alloc (bs (List.replicate 16 0)) Tryz.zeroValue37 (by kernel_rfl)) rfl ?_
  rintro _ w21 ⟨b22, rfl, hl_b22, hu_b22, p23, c_w21⟩
  have ne_b22_ho10 := Owns.ne_ge ho10 hl_b22
  have hs_w21 : w13.heap.size ≤ w21.heap.size := Chg.size c_w21
  replace ho10 := ho10.k c_w21
  replace hP9 := hP9.k c_w21
  replace hpol := hpol.k c_w21
  have C_w21 := Chg.pure C_w13 c_w21
  have hn_b22 : w.heap.size ≤ b22 := by have := Chg.size C_w21; omega
  refine s_val rfl rfl (r_assign) rfl ?_
  refine s_do rfl rfl (w_storeA (o := 0) Tryz.sizeOf37 rfl rfl (by first | exact bs_len (by omega) | exact bs_len (h16.get (by omega)) | exact bs_len (by simp; done) | exact bs_len (by simp; omega)) (flat_bs _) p23 (by first | exact bs_len (by omega) | exact bs_len (h16.get (by omega)) | exact bs_len (by simp; done) | exact bs_len (by simp; omega))) rfl ?_
  rintro _ w24 ⟨q_w24, c_w24⟩
  have hs_w24 : w21.heap.size ≤ w24.heap.size := Chg.size c_w24
  replace ho10 := ho10.kb c_w24 ne_b22_ho10
  replace hP9 := hP9.kb c_w24 (by omega)
  replace hpol := hpol.kb c_w24 (fun h_ => by first | omega | (simp only at h_; omega))
  have C_w24 := Chg.newRng C_w21 c_w24 (by omega)
  have p23 := q_w24
  refine s_end ?_
  refine go_seq ?_
  refine go_region 6 rfl rfl ?_
  refine s_val rfl rfl (r_loadN Tryz.isAgg37 Tryz.sizeOf37 rfl p23.rd (by first | exact bs_len (by omega) | exact bs_len (h16.get (by omega)) | exact bs_len (by simp; done) | exact bs_len (by simp; omega))) rfl ?_
  refine s_val rfl rfl (r_move) rfl ?_
  refine s_val rfl rfl (r_addi rfl rfl (by omega)) rfl ?_
  refine s_val rfl rfl (r_buildP (cells := scell (Shr.mk (H.getD k []) (fI ((k + 1 : Nat) : Int)) (List.replicate 32 0))) (built_shr (h16.get (by omega)) (by have h_ := fI_small (n := k + 1) (by omega); omega))) rfl ?_
  refine s_do rfl rfl (w_alloc (scell shr0) Tryz.zeroValue40 (by kernel_rfl)) rfl ?_
  rintro _ w25 ⟨b26, rfl, hl_b26, hu_b26, p27, c_w25⟩
  have ne_b26_ho10 := Owns.ne_ge ho10 hl_b26
  have hs_w25 : w24.heap.size ≤ w25.heap.size := Chg.size c_w25
  replace ho10 := ho10.k c_w25
  replace hP9 := hP9.k c_w25
  replace hpol := hpol.k c_w25
  replace p23 := p23.k c_w25
  have C_w25 := Chg.pure C_w24 c_w25
  have hn_b26 : w.heap.size ≤ b26 := by have := Chg.size C_w25; omega
  refine s_do rfl rfl (w_storeA (o := 0) (cs := scell (Shr.mk (H.getD k []) (fI ((k + 1 : Nat) : Int)) (List.replicate 32 0))) Tryz.sizeOf40 rfl rfl (scell_len (sok_mk (h16.get (by omega)) (by simp))) (flat_scell _) p27 (scell_len shr0_ok)) rfl ?_
  rintro _ w28 ⟨q_w28, c_w28⟩
  have hs_w28 : w25.heap.size ≤ w28.heap.size := Chg.size c_w28
  replace ho10 := ho10.kb c_w28 ne_b26_ho10
  replace hP9 := hP9.kb c_w28 (by omega)
  replace hpol := hpol.kb c_w28 (fun h_ => by first | omega | (simp only at h_; omega))
  replace p23 := p23.kb c_w28 (by omega)
  have C_w28 := Chg.newRng C_w25 c_w28 (by omega)
  have p29 : Pc w28 b26 0 (bs (Shr.mk (H.getD k []) (fI ((k + 1 : Nat) : Int)) (List.replicate 32 0)).h) := Pc.shrH q_w28
  have hlH_p29 : ((Shr.mk (H.getD k []) (fI ((k + 1 : Nat) : Int)) (List.replicate 32 0)).h).length = 16 := (sok_mk (h16.get (by omega)) (by simp)).1
  have p30 : Pc w28 b26 16 [fi (Shr.mk (H.getD k []) (fI ((k + 1 : Nat) : Int)) (List.replicate 32 0)).x] := Pc.shrX q_w28 (sok_mk (h16.get (by omega)) (by simp))
  have p31 : Pc w28 b26 17 (us (Shr.mk (H.getD k []) (fI ((k + 1 : Nat) : Int)) (List.replicate 32 0)).y) := Pc.shrY q_w28 (sok_mk (h16.get (by omega)) (by simp))
  have hlY_p31 : ((Shr.mk (H.getD k []) (fI ((k + 1 : Nat) : Int)) (List.replicate 32 0)).y).length = 32 := (sok_mk (h16.get (by omega)) (by simp)).2
  clear q_w28
  refine s_end ?_
  refine go_seq ?_
  refine go_seq ?_
  refine go_region 1 rfl rfl ?_
  refine s_val rfl rfl (r_move) rfl ?_
  refine s_end ?_
  refine go_block ?_
  refine go_loopM (σ := Nat) [(14, 14), (30, 43)] (fun (o : Nat) e' w' => e' 30 = i64 (o : Nat) ∧ o ≤ 32 ∧ w12.heap.size ≤ w'.heap.size ∧ Owns w' w12.heap.size 40 49 (Value.slice aO k cO) k (scells (sharesTo (fun o_ => (polysTo secret seed need 32).getD o_ []) H k)) ∧ Pc w' b26 0 (bs (H.getD k [])) ∧ Pc w' b26 16 [fi (fI ((k + 1 : Nat) : Int))] ∧ Pc w' b26 17 (us (ysTo (fun o_ => (polysTo secret seed need 32).getD o_ []) (fI ((k + 1 : Nat) : Int)) (List.replicate 32 0) o)) ∧ w12.heap.size ≤ b26 ∧ b26 < w'.heap.size ∧ Pc w' b10 0 vs ∧ PolOk (fun b_ => w4.heap.size ≤ b_ ∧ b_ < w7.heap.size) w' vs (polysTo secret seed need 32) ∧ w7.heap.size ≤ b10 ∧ b10 < w12.heap.size ∧ w12.heap.size ≤ w'.heap.size ∧ Chg no w w') (fun (o : Nat) => 32 - o) 0 ?_ ?_
  ·exact ⟨rfl, by omega, by omega, ho10, p29, p30, p31, by omega, by omega, hP9, hpol, by omega, by omega, by omega, C_w28⟩
  rintro o f33 w32 ⟨e34, ho, hB_ho10, ho10, pH13, pX13, pY13, hu13, hu13b, hP9, hpol, hu9, hu9b, hcw, C_w32⟩
  have ob_36 : ∃ g_, f33 = upd g_ 30 (i64 (o : Nat)) := ⟨f33, upd_id e34⟩
  obtain ⟨f35, rfl⟩ := ob_36
  clear e34
  have hs_w32 : w.heap.size ≤ w32.heap.size := Chg.size C_w32
  have hlH_ := h16.get (k := k) (by omega)
  refine go_seq ?_
  refine go_region 1 rfl rfl ?_
  refine s_val rfl rfl (r_lss rfl rfl) rfl ?_
  refine s_end ?_
  refine go_seq ?_
  refine go_ifb _ rfl (fun h2 => ?_) (fun h2 => ?_)
  ·first | replace h2 := dcT h2 | replace h2 := dcF (nt h2) | skip
   refine go_skip ?_
   refine go_seq ?_
   refine go_block ?_
   refine go_seq ?_
   refine go_region 2 rfl rfl ?_
   refine s_val rfl rfl (r_move) rfl ?_
   refine s_val rfl rfl (r_assign) rfl ?_
   refine s_end ?_
   refine go_region 11 rfl rfl ?_
   refine s_val rfl rfl (r_move) rfl ?_
   refine s_val rfl rfl (r_move) rfl ?_
   refine s_val rfl rfl (r_indexArr (k := o) Tryz.runUnderlying64 Tryz.sizeOf63 rfl rfl (by first | rfl | omega) (by first | decide | omega)) rfl ?_
   have hp_ := hpol.2 o (by rw [polysTo_len]; omega)
   obtain ⟨ak, nk, ck, hvk, hlk, hck, hqk, hak⟩ := hp_
   have hlk2 : nk = need := by rw [← hlk, polysTo_get secret seed need o (by omega) 32 (by omega)]; exact polyL_length hs h0 (by omega)
   refine s_val rfl rfl (r_load1 Tryz.isAgg63 rfl (Rd.at1 hP9.rd hvk)) rfl ?_
   refine s_val rfl rfl (r_move) rfl ?_
   refine s_val rfl rfl (r_addi rfl rfl (by omega)) rfl ?_
   have hcall_ : Rtn Tryz.prog 25 [Value.slice ak nk ck, i64 ((k + 1 : Nat) : Int)].toArray w32 (fun v w' => v = fi (ev ((fun o_ => (polysTo secret seed need 32).getD o_ []) o) (fI ((k + 1 : Nat) : Int))) ∧ Kept w32 w') := by
    have h_ := valueOf_spec ((fun o_ => (polysTo secret seed need 32).getD o_ []) o) ak nk ck (fI ((k + 1 : Nat) : Int)) w32 hlk (by omega) hak
    have e_ : fi (fI ((k + 1 : Nat) : Int)) = i64 ((k + 1 : Nat) : Int) := congrArg (fun m_ : Nat => i64 (m_ : Int)) (fI_small (n := k + 1) (by omega))
    rw [e_] at h_
    exact h_
   refine s_do rfl rfl (w_call Tryz.call25 rfl hcall_) rfl ?_
   rintro _ w37 ⟨rfl, c_w37⟩
   clear hcall_
   have hs_w37 : w32.heap.size ≤ w37.heap.size := Chg.size c_w37
   replace ho10 := ho10.k c_w37
   replace pH13 := pH13.k c_w37
   replace pX13 := pX13.k c_w37
   replace pY13 := pY13.k c_w37
   replace hP9 := hP9.k c_w37
   replace hpol := hpol.k c_w37
   have C_w37 := Chg.pure C_w32 c_w37
   refine s_val rfl rfl (r_conv_u16F Tryz.runUnderlying3 Tryz.runUnderlying25 rfl) rfl ?_
   refine s_val rfl rfl (r_fieldAddr Tryz.runUnderlying40 rfl Tryz.sizeOf38 rfl rfl) rfl ?_
   refine s_val rfl rfl (r_indexArr (k := o) Tryz.runUnderlying38 Tryz.sizeOf25 rfl rfl (by first | rfl | omega) (by first | decide | omega)) rfl ?_
   refine s_do rfl rfl (w_set_u (o := 17) (k := o) (v := (ev ((fun o_ => (polysTo secret seed need 32).getD o_ []) o) (fI ((k + 1 : Nat) : Int)))) (l := (ysTo (fun o_ => (polysTo secret seed need 32).getD o_ []) (fI ((k + 1 : Nat) : Int)) (List.replicate 32 0) o)) Tryz.sizeOf25 rfl rfl pY13 (by first | omega | (simp; try omega))) rfl ?_
   rintro _ w38 ⟨q_w38, c_w38⟩
   have hs_w38 : w37.heap.size ≤ w38.heap.size := Chg.size c_w38
   replace ho10 := ho10.kb c_w38 ne_b26_ho10
   replace pH13 := pH13.ko c_w38 (by first | omega | exact ko_bs (by omega) | (simp only [List.length_cons, List.length_nil]; omega) | (rw [bs_length]; omega) | (simp only [List.length_cons, List.length_nil, bs_length]; omega) | (simp [bs_length]; done) | (simp [bs_length]; omega) | (simp; done) | (simp; omega))
   replace pX13 := pX13.ko c_w38 (by first | omega | exact ko_bs (by omega) | (simp only [List.length_cons, List.length_nil]; omega) | (rw [bs_length]; omega) | (simp only [List.length_cons, List.length_nil, bs_length]; omega) | (simp [bs_length]; done) | (simp [bs_length]; omega) | (simp; done) | (simp; omega))
   replace hP9 := hP9.kb c_w38 (by omega)
   replace hpol := hpol.kb c_w38 (fun h_ => by first | omega | (simp only at h_; omega))
   have C_w38 := Chg.newRng C_w37 c_w38 (by omega)
   have pY13 := q_w38
   refine s_end ?_
   refine go_nil (block_normal ?_)
   refine go_region 2 rfl rfl ?_
   refine s_val rfl rfl (r_addi rfl rfl (by omega)) rfl ?_
   refine s_val rfl rfl (r_move) rfl ?_
   refine s_end ?_
   refine go_nil (loop_normal ⟨⟨(o + 1), by first | omega | (dsimp only; omega), ⟨rfl, by omega, by omega, ho10, pH13, pX13, pY13, by omega, by omega, hP9, hpol, by omega, by omega, by omega, C_w38⟩⟩, (by repeat (first | exact same_refl | exact same_over | refine same_upd rfl ?_ | refine same_over2 rfl ?_))⟩)
  ·first | replace h2 := dcF h2 | replace h2 := dcT (nf h2) | skip
   have ho32 : o = 32 := by omega
   refine go_exit (loop_exit (block_hit ?_))
   refine go_region 5 rfl rfl ?_
   refine s_val rfl rfl (r_move) rfl ?_
   refine s_val rfl rfl (r_loadN Tryz.isAgg40 Tryz.sizeOf40 rfl (Rd.shrAll (sok_mk (h16.get (by omega)) (by simp)) pH13.rd pX13.rd pY13.rd) (scell_len (sok_mk (h16.get (by omega)) (by simp)))) rfl ?_
   refine s_do rfl rfl (w_buildA1 (E := 40) (sz := 49) Tryz.underlying26 (i := Tryz.t40) (by kernel_rfl) rfl rfl rfl rfl rfl rfl (scell_len (sok_mk (h16.get (by omega)) (by simp)))) rfl ?_
   rintro _ w39 ⟨b40, rfl, hl_b40, hu_b40, o42, p41, c_w39⟩
   have ne_b40_ho10 := Owns.ne_ge ho10 hl_b40
   have hs_w39 : w32.heap.size ≤ w39.heap.size := Chg.size c_w39
   replace ho10 := ho10.k c_w39
   replace pH13 := pH13.k c_w39
   replace pX13 := pX13.k c_w39
   replace pY13 := pY13.k c_w39
   replace hP9 := hP9.k c_w39
   replace hpol := hpol.k c_w39
   have C_w39 := Chg.pure C_w32 c_w39
   have hn_b40 : w.heap.size ≤ b40 := by have := Chg.size C_w39; omega
   refine s_do rfl rfl (w_append (E := 40) (sz := 49) Tryz.underlying26 rfl (i := Tryz.t40) (by kernel_rfl) rfl rfl rfl rfl (by rfl) ho10 rfl (SlAt.some p41.rd) (by rw [scell_len (sok_mk (h16.get (by omega)) (by simp))]) (by first | exact polFlat hpol | exact flat_scell _) (by omega) (by show _ * 88 ≤ _; omega) (by omega)) rfl ?_
   rintro v47 w43 ⟨o44, c_w43⟩
   have hs_w43 : w39.heap.size ≤ w43.heap.size := Chg.size c_w43
   replace pH13 := pH13.kob c_w43 ne_b26_ho10
   replace pX13 := pX13.kob c_w43 ne_b26_ho10
   replace pY13 := pY13.kob c_w43 ne_b26_ho10
   replace hP9 := hP9.kob c_w43 (Owns.ne_lt ho10 (by omega))
   replace hpol := hpol.kob c_w43 (fun b_ h_ => Owns.ne_lt ho10 (by first | omega | (simp only at h_; omega)))
   replace p41 := p41.kob c_w43 ne_b40_ho10
   have C_w43 := Chg.newOb C_w39 c_w43 ho10 (by omega)
   have hfo_o44 := Owns.form2 o44
   obtain ⟨A45, cap46, e_o44, hc_cap46⟩ := hfo_o44
   subst e_o44
   replace o44 := Owns.appSh o44
   refine s_val rfl rfl (r_assign) rfl ?_
   refine s_end ?_
   refine go_nil (block_normal ?_)
   refine go_region 2 rfl rfl ?_
   refine s_val rfl rfl (r_addi rfl rfl (by omega)) rfl ?_
   refine s_val rfl rfl (r_move) rfl ?_
   refine s_end ?_
   refine go_nil (loop_normal ⟨⟨(k + 1, A45, cap46), by first | omega | (dsimp only; omega), ⟨rfl, rfl, by omega, by omega, by rw [sharesTo_next ho32]; exact o44, by omega, hP9, hpol, by omega, by omega, by omega, C_w43⟩⟩, (by repeat (first | exact same_refl | exact same_over | refine same_upd rfl ?_ | refine same_over2 rfl ?_))⟩)
 ·first | replace h1 := dcF h1 | replace h1 := dcT (nf h1) | skip
  have ob_48 : n = k := by omega
  obtain rfl := ob_48
  refine go_exit (loop_exit (block_hit ?_))
  refine go_seq ?_
  refine go_region 2 rfl rfl ?_
  refine s_val rfl rfl (r_move) rfl ?_
  refine s_val rfl rfl (r_assign) rfl ?_
  refine s_end ?_
  refine go_ret ?_
  refine ⟨_, .cons rfl (.nil), ?_⟩
  exact ⟨aO, cO, rfl, by omega, (Owns.sl ho10).shv (sharesTo_val secret seed need n H), C_w13⟩
end Go.Proofs.YtippcmedgfmgbaaGreat
end
section
open Go Go.Eng Go.Proofs
namespace Go.Proofs.YtippcmedgfmgbaaGreat
theorem inR_spec (x a b : Int) (w : World) (ha : a ≤ x) (hb : x ≤ b) :
  Rtn Tryz.prog 17 [i64 x, i64 a, i64 b].toArray w (fun v w' => v = .bool true ∧ Kept w w') := by
 refine fn_body (l := [i64 x, i64 a, i64 b]) 15 [.tmp 6] Tryz.func17 rfl Tryz.ntmps17 (Nat.le_of_ble_eq_true rfl) (by rw [Tryz.results17]) ?_
 refine go_seq ?_
 refine go_region 1 rfl rfl ?_
 refine s_val rfl rfl (r_assign) rfl ?_
 refine s_end ?_
 refine go_seq ?_
 refine go_region 9 rfl rfl ?_
 refine s_val rfl rfl (r_move) rfl ?_
 refine s_val rfl rfl (r_move) rfl ?_
 refine s_val rfl rfl (r_geq rfl rfl) rfl ?_
 refine s_valB rfl rfl (r_move) rfl (fun h1 => ?_) (fun h1 => ?_)
 ·first | replace h1 := dcT h1 | replace h1 := dcF (nt h1) | skip
  refine s_val_g rfl rfl (r_move) rfl ?_
  refine s_val_g rfl rfl (r_move) rfl ?_
  refine s_val_g rfl rfl (r_leq rfl rfl) rfl ?_
  refine s_val rfl rfl (r_pick true rfl) rfl ?_
  refine s_val rfl rfl (r_assign) rfl ?_
  refine s_end ?_
  refine go_ret ?_
  refine ⟨_, .cons rfl (.nil), ?_⟩
  exact ⟨by first | (exact congrArg Value.bool (decide_eq_true (by omega))) | (exfalso; omega), (Chg.refl no w)⟩
 ·first | replace h1 := dcF h1 | replace h1 := dcT (nf h1) | skip
  refine s_val_not rfl rfl ?_
  refine s_val_not rfl rfl ?_
  refine s_val_not rfl rfl ?_
  refine s_val rfl rfl (r_pick false rfl) rfl ?_
  refine s_val rfl rfl (r_assign) rfl ?_
  refine s_end ?_
  refine go_ret ?_
  refine ⟨_, .cons rfl (.nil), ?_⟩
  exact ⟨by first | (exact congrArg Value.bool (decide_eq_true (by omega))) | (exfalso; omega), (Chg.refl no w)⟩
end Go.Proofs.YtippcmedgfmgbaaGreat
end
section
open Go Go.Eng Go.Proofs
namespace Go.Proofs.YtippcmedgfmgbaaGreat
theorem badEpoch_spec (n : Int) (w : World) :
  Rtn Tryz.prog 36 [i64 n].toArray w (fun v w' => v = .bool (decide (n < 0 ∨ 4294967295 < n)) ∧ Kept w w') := by
 refine fn_body (l := [i64 n]) 9 [.tmp 2] Tryz.func36 rfl Tryz.ntmps36 (Nat.le_of_ble_eq_true rfl) (by rw [Tryz.results36]) ?_
 refine go_seq ?_
 refine go_region 1 rfl rfl ?_
 refine s_val rfl rfl (r_assign) rfl ?_
 refine s_end ?_
 refine go_seq ?_
 refine go_region 7 rfl rfl ?_
 refine s_val rfl rfl (r_move) rfl ?_
 refine s_val rfl rfl (r_lss rfl rfl) rfl ?_
 refine s_valB rfl rfl (r_move) rfl (fun h1 => ?_) (fun h1 => ?_)
 ·first | replace h1 := dcT h1 | replace h1 := dcF (nt h1) | skip
  have h1_ := h1
  refine s_val_not rfl rfl ?_
  refine s_val_not rfl rfl ?_
  refine s_val rfl rfl (r_pick true rfl) rfl ?_
  refine s_val rfl rfl (r_assign) rfl ?_
  refine s_end ?_
  refine go_ret ?_
  refine ⟨_, .cons rfl (.nil), ?_⟩
  exact ⟨congrArg Value.bool (decide_eq_true (.inl h1_)).symm, (Chg.refl no w)⟩
 ·first | replace h1 := dcF h1 | replace h1 := dcT (nf h1) | skip
  have h1_ := h1
  refine s_val_g rfl rfl (r_move) rfl ?_
  refine s_val_g rfl rfl (r_gtr rfl rfl) rfl ?_
  refine s_val rfl rfl (r_pick false rfl) rfl ?_
  refine s_val rfl rfl (r_assign) rfl ?_
  refine s_end ?_
  refine go_ret ?_
  refine ⟨_, .cons rfl (.nil), ?_⟩
  exact ⟨congrArg Value.bool (decide_eq_decide.2 ⟨.inr, fun h_ => h_.resolve_left h1_⟩), (Chg.refl no w)⟩
end Go.Proofs.YtippcmedgfmgbaaGreat
end
section
open Go Go.Eng Go.Proofs
namespace Go.Proofs.YtippcmedgfmgbaaGreat
open Go.Lib
def alphaS : ByteArray := ⟨#[97, 98, 99, 100, 101, 102, 103, 104, 105, 106, 107, 108, 109, 110, 111, 112, 113, 114, 115, 116, 117, 118, 119, 120, 121, 122, 48, 49, 50, 51, 52, 53, 54, 55, 56, 57, 45, 46, 95]⟩
def rootS : ByteArray := ⟨#[114, 111, 111, 116]⟩
set_option maxHeartbeats 1000000 in
set_option maxRecDepth 100000 in
theorem ib93 (s : ByteArray) (b : Int) (w : World) :
    Calls Tryz.prog 93 #[.string s, .int .u8 b] w fun e w' => e = .returned (.int .i64 (Lib.indexByte s.data.toList b.toNat.toUInt8)) ∧ w' = w := by
  have hr := run_indexByteString (P := Tryz.prog) s b w
  go_enter Tryz.func93, Tryz.ntmps93
  go_wp2
  rw [run_callFunc_extern Tryz.func117 (by kernel_rfl) (by kernel_rfl) (by kernel_rfl) (e := Extern.BytealgIndexByte.indexByte) (by kernel_rfl), hr]
  simp only [Result.andThen]
  rw [Oper.upon_value]
  go_wp2
  go_ret
  exact ⟨rfl, rfl⟩
end Go.Proofs.YtippcmedgfmgbaaGreat
end
section
open Go Go.Eng Go.Proofs
namespace Go.Proofs.YtippcmedgfmgbaaGreat
open Go.Lib
set_option maxHeartbeats 1000000 in
set_option maxRecDepth 100000 in
theorem ir72 (s : ByteArray) (r : Int) (w : World) (h0 : 0 ≤ r) (h1 : r < 128) :
    Calls Tryz.prog 72 #[.string s, .int .i32 r] w fun e w' => e = .returned (.int .i64 (Lib.indexByte s.data.toList r.toNat.toUInt8)) ∧ w' = w := by
  go_enter Tryz.func72, Tryz.ntmps72
  go_wp2_with (go_at_call 93; refine (ib93 _ _ _).mono ?_; rintro e w' ⟨rfl, hw⟩; rw [hw])
  go_ret
  exact ⟨rfl, rfl⟩
set_option maxHeartbeats 1000000 in
set_option maxRecDepth 100000 in
theorem cr45 (s : ByteArray) (r : Int) (w : World) (h0 : 0 ≤ r) (h1 : r < 128) :
    Calls Tryz.prog 45 #[.string s, .int .i32 r] w fun e w' => e = .returned (.bool (decide (0 ≤ Lib.indexByte s.data.toList r.toNat.toUInt8))) ∧ w' = w := by
  go_enter Tryz.func45, Tryz.ntmps45
  go_wp2_with (go_at_call 72; refine (ir72 _ _ _ h0 h1).mono ?_; rintro e w' ⟨rfl, hw⟩; rw [hw])
  go_ret
  exact ⟨rfl, rfl⟩
set_option maxHeartbeats 1000000 in
set_option maxRecDepth 100000 in
theorem nm44 (r : Int) (w : World) (h0 : 0 ≤ r) (h1 : r < 128) (hin : decide (0 ≤ Lib.indexByte alphaS.data.toList r.toNat.toUInt8) = true) :
    Calls Tryz.prog 44 #[.int .i32 r] w fun e w' => e = .returned (.bool false) ∧ w' = w := by
  have hc : Calls Tryz.prog 45 #[.string alphaS, .int .i32 r] w fun e w' => e = .returned (.bool true) ∧ w' = w := by
    have h := cr45 alphaS r w h0 h1
    rw [hin] at h
    exact h
  go_enter Tryz.func44, Tryz.ntmps44
  go_wp2_with (go_at_call 45; refine hc.mono ?_; rintro e w' ⟨rfl, hw⟩; rw [hw])
  go_ret
  exact ⟨rfl, rfl⟩
end Go.Proofs.YtippcmedgfmgbaaGreat
end
section
open Go Go.Eng Go.Proofs Go.RowKit
namespace Go.Proofs.YtippcmedgfmgbaaGreat
open Go.Lib
theorem rootS_ie : rootS.toList.isEmpty = false := by decide +kernel
theorem rootS_ne : rootS.toList ≠ [] := fun h => by have := rootS_ie; rw [h] at this; cases this
theorem root_runes (pos : Nat) (h : pos < 4) : ∃ r : Nat, Utf8.decode rootS pos = (r, 1) ∧ r < 128 ∧ decide (0 ≤ Lib.indexByte alphaS.data.toList (r : Int).toNat.toUInt8) = true := by
  rcases pos with _ | _ | _ | _ | pos
  · exact ⟨114, by decide +kernel, by decide, by decide +kernel⟩
  · exact ⟨111, by decide +kernel, by decide, by decide +kernel⟩
  · exact ⟨111, by decide +kernel, by decide, by decide +kernel⟩
  · exact ⟨116, by decide +kernel, by decide, by decide +kernel⟩
  · omega
set_option maxHeartbeats 2000000 in
set_option maxRecDepth 1000000 in
theorem nm92 (w : World) : Calls Tryz.prog 92 #[.string rootS, .func (.func 44) #[] #[], .bool true] w fun e w' => e = .returned (.int .i64 (-1)) ∧ Below w.heap.size w w' := by
  go_enter Tryz.func92, Tryz.ntmps92
  go_wp2
  go_loopg [] 4 (fun gf wx => ∃ pos : Nat, wx.heap[w.heap.size]? = some (.stringIter rootS pos) ∧ Below w.heap.size w wx ∧ pos + gf = 4)
  case atStart => exact ⟨0, World.iter_heap w rootS 0, (Below.refl _ w).alloc (Nat.le_refl _) _, rfl⟩
  case round =>
    obtain ⟨pos, hit, hbw, hfu⟩ := hrel
    have hsz : rootS.size = 4 := rfl
    by_cases hps : pos < rootS.size
    · obtain ⟨g', rfl⟩ : ∃ g', gk = g' + 1 := ⟨gk - 1, by omega⟩
      obtain ⟨R, hdec, hR, hin⟩ := root_runes pos (by omega)
      have hnx : ∀ ty, (Instr.next (.pointer (some ⟨w.heap.size, 0, none⟩)) true ty).run Tryz.prog wr = _ := fun ty => Lib.run_next_any_at wr w.heap.size rootS pos ty hit hps
      rw [hdec] at hnx
      have hit2 := Lib.iterAt_heap wr w.heap.size rootS pos (pos + 1) hit
      have hbw2 := Lib.below_iterAt hbw (k := w.heap.size) (Nat.le_refl _) rootS (pos + 1)
      obtain ⟨W, hWd⟩ : ∃ W, wr.iterAt w.heap.size rootS (pos + 1) = W := ⟨_, rfl⟩
      rw [hWd] at hnx hit2 hbw2
      have cS := nm44 (R : Int) W (by omega) (by omega) hin
      go_wp2_with (go_at_call 44; refine cS.mono ?_; rintro e W' ⟨rfl, hw⟩; rw [hw])
      go_roundg g'
      case measure => omega
      case rel => exact ⟨pos + 1, hit2, hbw2, by omega⟩
    · have hnx : ∀ ty, (Instr.next (.pointer (some ⟨w.heap.size, 0, none⟩)) true ty).run Tryz.prog wr = _ := fun ty => Lib.run_next_end_at wr w.heap.size rootS pos ty hit hps
      go_wp2
      go_ret
      exact ⟨rfl, hbw⟩
set_option maxHeartbeats 1000000 in
set_option maxRecDepth 100000 in
theorem nm71 (w : World) : Calls Tryz.prog 71 #[.string rootS, .func (.func 44) #[] #[]] w fun e w' => e = .returned (.int .i64 (-1)) ∧ Below w.heap.size w w' := by
  go_enter Tryz.func71, Tryz.ntmps71
  go_wp2_with (go_at_call 92; refine (nm92 w).mono ?_; rintro e w' ⟨rfl, hb⟩)
  go_ret
  exact ⟨rfl, hb⟩
set_option maxHeartbeats 1000000 in
set_option maxRecDepth 100000 in
theorem nm43 (w : World) : Calls Tryz.prog 43 #[.string rootS, .func (.func 44) #[] #[]] w fun e w' => e = .returned (.bool false) ∧ Below w.heap.size w w' := by
  go_enter Tryz.func43, Tryz.ntmps43
  go_wp2_with (go_at_call 71; refine (nm71 w).mono ?_; rintro e w' ⟨rfl, hb⟩)
  go_ret
  exact ⟨rfl, hb⟩
set_option maxHeartbeats 1000000 in
set_option maxRecDepth 100000 in
theorem nm20 (w : World) : Calls Tryz.prog 20 #[.string rootS] w fun e w' => e = .returned (.bool true) ∧ Below w.heap.size w w' := by
  go_enter Tryz.func20, Tryz.ntmps20
  go_wp2_with (go_at_call 43; refine (nm43 w).mono ?_; rintro e w' ⟨rfl, hb⟩)
  · rename_i h
    exact absurd h rootS_ne
  · go_ret
    exact ⟨congrArg (fun b_ => Ending.returned (Value.bool b_)) (by rw [rootS_ie]; rfl), hb⟩
theorem isNameR_spec (w : World) : Rtn Tryz.prog 20 [.string rootS].toArray w (fun v w' => v = .bool true ∧ Kept w w') := by
  unfold Rtn
  exact (nm20 w).mono fun e w' ⟨he, hb⟩ => ⟨_, he, rfl, Chg.of_below0 hb⟩
end Go.Proofs.YtippcmedgfmgbaaGreat
end
section
open Go Go.Eng Go.Proofs Go.RowKit
namespace Go.Proofs.YtippcmedgfmgbaaGreat
open Go.Lib
theorem root_chars (i : Nat) (h : i < rootS.size) : 97 ≤ (rootS[i]'h).toNat ∧ (rootS[i]'h).toNat ≤ 122 := by
  have h4 : i < 4 := h
  rcases i with _ | _ | _ | _ | i
  · exact (show 97 ≤ (114 : Nat) ∧ (114 : Nat) ≤ 122 by decide)
  · exact (show 97 ≤ (111 : Nat) ∧ (111 : Nat) ≤ 122 by decide)
  · exact (show 97 ≤ (111 : Nat) ∧ (111 : Nat) ≤ 122 by decide)
  · exact (show 97 ≤ (116 : Nat) ∧ (116 : Nat) ≤ 122 by decide)
  · omega
set_option maxHeartbeats 2000000 in
set_option maxRecDepth 1000000 in
theorem nm35 (w : World) : Calls Tryz.prog 35 #[.string rootS] w fun e w' => e = .returned (.bool true) ∧ Below w.heap.size w w' := by
  go_enter Tryz.func35, Tryz.ntmps35
  go_wp2
  go_loopg [3] 4 (fun gf s3 wx => ∃ i : Nat, s3 = .int .i64 i ∧ i + gf = 4 ∧ Below w.heap.size w wx)
  case atStart => exact ⟨0, rfl, rfl, Below.refl _ _⟩
  case round =>
    obtain ⟨i, rfl, hfu, hb⟩ := hrel
    have hsz : rootS.size = 4 := rfl
    by_cases hi : i < 4
    · obtain ⟨g', rfl⟩ : ∃ g', gk = g' + 1 := ⟨gk - 1, by omega⟩
      have hc := root_chars i hi
      go_wp2
      all_goals first | (exfalso; omega) | skip
      go_roundg g'
      case measure => omega
      case rel => exact ⟨i + 1, rfl, by omega, hb⟩
    · obtain rfl : i = 4 := by omega
      go_wp2
      all_goals first | (exfalso; omega) | skip
      · rename_i h
        exact absurd h rootS_ne
      · go_ret
        exact ⟨congrArg (fun b_ => Ending.returned (Value.bool b_)) (by rw [rootS_ie]; rfl), hb⟩
theorem isNameB_spec (w : World) : Rtn Tryz.prog 35 [.string rootS].toArray w (fun v w' => v = .bool true ∧ Kept w w') := by
  unfold Rtn
  exact (nm35 w).mono fun e w' ⟨he, hb⟩ => ⟨_, he, rfl, Chg.of_below0 hb⟩
end Go.Proofs.YtippcmedgfmgbaaGreat
end
section
open Go Go.Eng Go.Proofs
namespace Go.Proofs.YtippcmedgfmgbaaGreat
/-- slices of octets, some of which may be empty -/
def SlsE (w : World) (vs : List Value) (ls : List (List UInt8)) : Prop :=
  ls.length = vs.length ∧ ∀ k, k < ls.length → ∃ a n c, vs[k]? = some (.slice a n c) ∧ (ls.getD k []).length = n ∧ n ≤ c ∧ SlAt w a (bs (ls.getD k []))
theorem SlsE.two {w : World} {a a2 : Option Addr} {n c n2 c2 : Nat} {l l2 : List UInt8} (hl : l.length = n) (hc : n ≤ c) (h : SlAt w a (bs l)) (hl2 : l2.length = n2) (hc2 : n2 ≤ c2) (h2 : SlAt w a2 (bs l2)) :
    SlsE w [.slice a n c, .slice a2 n2 c2] [l, l2] :=
  ⟨rfl, fun k hk => by
    rcases k with _ | _ | k
    · exact ⟨a, n, c, rfl, hl, hc, h⟩
    · exact ⟨a2, n2, c2, rfl, hl2, hc2, h2⟩
    · simp at hk; omega⟩
theorem SlsOk.three {w : World} {a a2 a3 : Option Addr} {n c n2 c2 n3 c3 : Nat} {l l2 l3 : List UInt8} (hl : l.length = n) (h0 : 0 < n) (hc : n ≤ c) (h : SlAt w a (bs l)) (hl2 : l2.length = n2) (h02 : 0 < n2) (hc2 : n2 ≤ c2) (h2 : SlAt w a2 (bs l2))
    (hl3 : l3.length = n3) (h03 : 0 < n3) (hc3 : n3 ≤ c3) (h3 : SlAt w a3 (bs l3)) : SlsOk w [.slice a n c, .slice a2 n2 c2, .slice a3 n3 c3] [l, l2, l3] :=
  ⟨rfl, fun k hk => by
    rcases k with _ | _ | _ | k
    · exact ⟨a, n, c, rfl, hl, h0, hc, h⟩
    · exact ⟨a2, n2, c2, rfl, hl2, h02, hc2, h2⟩
    · exact ⟨a3, n3, c3, rfl, hl3, h03, hc3, h3⟩
    · simp at hk; omega⟩
end Go.Proofs.YtippcmedgfmgbaaGreat
namespace Go.Proofs.YtippcmedgfmgbaaGreat
/-- octets with their number ahead -/
def frameL (l : List UInt8) : List UInt8 := oct4 (w32 ((l.length : Nat) : Int)) ++ l
theorem frameL_length (l : List UInt8) : (frameL l).length = 4 + l.length := by rw [frameL, List.length_append, oct4_length]
theorem frm_succ {ls : List (List UInt8)} {k nk : Nat} (h : k < ls.length) (hl : (ls.getD k []).length = nk) : ((ls.map frameL).take (k + 1)).flatten = (((ls.map frameL).take k).flatten ++ oct4 (w32 ((nk : Nat) : Int))) ++ ls.getD k [] := by
  subst hl
  rw [flat_succ _ k (by rw [List.length_map]; exact h), List.append_assoc]
  congr 1
  rw [List.getD_eq_getElem?_getD, List.getElem?_map, List.getD_eq_getElem?_getD, List.getElem?_eq_getElem h]
  rfl
end Go.Proofs.YtippcmedgfmgbaaGreat
namespace Go.Proofs.YtippcmedgfmgbaaGreat
/-- the octets of the label -/
def rootL : List UInt8 := [114, 111, 111, 116]
/-- what is summed of a secret -/
def comB (secret : List UInt8) : List UInt8 := ([secret, rootL, oct8 0].map frameL).flatten
theorem comB_length {secret : List UInt8} (h : secret.length = 32) : (comB secret).length = 56 := by
  simp [comB, frameL_length, h, rootL]
end Go.Proofs.YtippcmedgfmgbaaGreat
namespace Go.Proofs.YtippcmedgfmgbaaGreat
theorem w64_nat {n : Nat} (h : n < 18446744073709551616) : (w64 ((n : Nat) : Int)).toNat = n := by rw [w64, UInt64.toNat_ofNat']; omega
end Go.Proofs.YtippcmedgfmgbaaGreat
end
section
open Go Go.Proofs
namespace Go.Eng
variable {P : Program} {w : World} {e : Env} {d : Option Nat} {ty : TypeId} {pos : String} {aft : Array Edge} {g : Option (Nat × Bool)}
/-- []byte(s) -/
theorem w_convB {src dst el : TypeId} {x : Operand} {l : List UInt8} (hs : P.underlying src = some .string) (hd : P.underlying dst = some (.slice el)) (he : P.underlying el = some (.int .u8)) (hx : ev e x = .string ⟨l.toArray⟩) :
    OpWp P ⟨d, .convert src dst x, ty, pos, aft, g⟩ e w (fun v w' => ∃ b c, v = .slice (some ⟨b, 0, none⟩) l.length c ∧ l.length ≤ c ∧ w.heap.size ≤ b ∧ b < w'.heap.size ∧ Rd w' b 0 (bs l) ∧ Kept w w') := by
  unfold OpWp
  have key := run_bytes_of_string (P := P) w src dst el ⟨l.toArray⟩ hs hd he
  have hz : (ByteArray.mk l.toArray).size = l.length := by simp [ByteArray.size]
  rw [hz] at key
  have hg := grownCap_ge w l.length 0 el
  generalize grownCap w l.length 0 el = c at key hg
  have hrun : (execOp (ev e) ⟨d, .convert src dst x, ty, pos, aft, g⟩).run P w = .ok (.value (.slice (some ⟨w.heap.size, 0, none⟩) l.length c)) (w.drew.alloc (.cells (bytesRow ⟨l.toArray⟩ c) el ((bytesRow ⟨l.toArray⟩ c).size, (bytesRow ⟨l.toArray⟩ c).size + 1))) := by
    simp only [execOp, hx, Sem.run_bind, key, Result.andThen_ok, Sem.run_pure]
  rw [hrun]
  refine ⟨w.heap.size, c, rfl, hg, Nat.le_refl _, ?_, ?_, ?_⟩
  · show w.heap.size < (w.drew.heap.push _).size
    rw [Array.size_push]
    exact Nat.lt_succ_self _
  · intro j v hj
    have hjl : j < l.length := by
      have := (List.getElem?_eq_some_iff.1 hj).1
      rwa [bs_length] at this
    have hcell := cell_of_row (w.drew.alloc (.cells (bytesRow ⟨l.toArray⟩ c) el ((bytesRow ⟨l.toArray⟩ c).size, (bytesRow ⟨l.toArray⟩ c).size + 1))) w.heap.size j _ _ _ (heap_alloc_new w.drew _)
    rw [Nat.zero_add, hcell]
    rw [bs_get hjl] at hj
    cases hj
    simp only [bytesRow]
    rw [Array.getElem?_append_left (by simp; exact hjl)]
    simp [hjl, u8, List.getD_eq_getElem?_getD]
  · exact Kept.of_drew (chg_alloc w.drew _)
end Go.Eng
end
section
open Go Go.Eng Go.Proofs
namespace Go.Proofs.YtippcmedgfmgbaaGreat
theorem short_eq {n : Nat} (h : n < 4294967296) : (longTo n 8).drop 4 = oct4 (w32 ((n : Nat) : Int)) := by
  rw [← long_eq]
  show oct4 (w32 ((w64 ((n : Nat) : Int)).toNat : Int)) = _
  rw [w64_nat (by omega)]
theorem short_eq2 {n : Nat} (h : n < 4294967296) : ((longTo n 8).drop 4).take (8 - 4) = oct4 (w32 ((n : Nat) : Int)) := by
  rw [List.take_of_length_le (by rw [List.length_drop, longTo_length]; decide), short_eq h]
theorem cutA_ge {a : Option Addr} {k m s : Nat} {B : Nat} (h : ∀ x, a = some x → B ≤ x.block) : ∀ x, cutA a k m s = some x → B ≤ x.block := fun x hx => by
  unfold cutA at hx
  split at hx
  · exact h x hx
  · cases a with
    | none => cases hx
    | some y => have h2 := h y rfl; obtain rfl := Option.some.inj hx; show B ≤ (y.add (k * s)).block; unfold Addr.add; split <;> exact h2
theorem set_rep0 (i : Nat) : (List.replicate 8 (0 : UInt8)).set i (b8 0) = List.replicate 8 0 := by
  rw [show b8 0 = 0 by decide]; exact List.set_replicate_self
theorem oct8_0 : oct8 0 = List.replicate 8 0 := by decide +kernel
end Go.Proofs.YtippcmedgfmgbaaGreat
end
section
open Go Go.Eng Go.Proofs
namespace Go.Proofs.YtippcmedgfmgbaaGreat
theorem isNaN_spec (b : UInt8) (w : World) :
  Rtn Tryz.prog 65 [u8 b].toArray w (fun v w' => v = .bool false ∧ Kept w w') := by
 refine fn_body (l := [u8 b]) 6 [.tmp 2] Tryz.func65 rfl Tryz.ntmps65 (Nat.le_of_ble_eq_true rfl) (by rw [Tryz.results65]) ?_
 refine go_seq ?_
 refine go_region 1 rfl rfl ?_
 refine s_val rfl rfl (r_assign) rfl ?_
 refine s_end ?_
 refine go_seq ?_
 refine go_region 4 rfl rfl ?_
 refine s_val rfl rfl (r_move) rfl ?_
 refine s_val rfl rfl (r_move) rfl ?_
 refine s_val rfl rfl (r_neq rfl rfl) rfl ?_
 refine s_val rfl rfl (r_assign) rfl ?_
 refine s_end ?_
 refine go_ret ?_
 refine ⟨_, .cons rfl (.nil), ?_⟩
 exact ⟨congrArg Value.bool (by simp), (Chg.refl no w)⟩
theorem cmpB_spec (a b : UInt8) (w : World) :
  Rtn Tryz.prog 39 [u8 a, u8 b].toArray w (fun v w' => v = i64 (cmpB a b) ∧ Kept w w') := by
 refine fn_body (l := [u8 a, u8 b]) 20 [.tmp 4] Tryz.func39 rfl Tryz.ntmps39 (Nat.le_of_ble_eq_true rfl) (by rw [Tryz.results39]) ?_
 refine go_seq ?_
 refine go_region 1 rfl rfl ?_
 refine s_val rfl rfl (r_assign) rfl ?_
 refine s_end ?_
 refine go_seq ?_
 refine go_region 3 rfl rfl ?_
 refine s_val rfl rfl (r_move) rfl ?_
 refine s_do rfl rfl (w_call Tryz.call65 rfl (isNaN_spec _ _)) rfl ?_
 rintro _ w1 ⟨rfl, c_w1⟩
 have hs_w1 : w.heap.size ≤ w1.heap.size := Chg.size c_w1
 have C_w1 := Chg.pure (Chg.refl no w) c_w1
 refine s_val rfl rfl (r_assign) rfl ?_
 refine s_end ?_
 refine go_seq ?_
 refine go_region 3 rfl rfl ?_
 refine s_val rfl rfl (r_move) rfl ?_
 refine s_do rfl rfl (w_call Tryz.call65 rfl (isNaN_spec _ _)) rfl ?_
 rintro _ w2 ⟨rfl, c_w2⟩
 have hs_w2 : w1.heap.size ≤ w2.heap.size := Chg.size c_w2
 have C_w2 := Chg.pure C_w1 c_w2
 refine s_val rfl rfl (r_assign) rfl ?_
 refine s_end ?_
 refine go_seq ?_
 refine go_seq ?_
 refine go_region 1 rfl rfl ?_
 refine s_val rfl rfl (r_move) rfl ?_
 refine s_end ?_
 refine go_false rfl ?_
 refine go_skip ?_
 refine go_seq ?_
 refine go_seq ?_
 refine go_region 1 rfl rfl ?_
 refine s_val rfl rfl (r_move) rfl ?_
 refine s_end ?_
 refine go_false rfl ?_
 refine go_skip ?_
 refine go_seq ?_
 refine go_seq ?_
 refine go_region 3 rfl rfl ?_
 refine s_val rfl rfl (r_move) rfl ?_
 refine s_val rfl rfl (r_move) rfl ?_
 refine s_val rfl rfl (r_lss rfl rfl) rfl ?_
 refine s_end ?_
 refine go_ifb _ rfl (fun h1 => ?_) (fun h1 => ?_)
 ·first | replace h1 := dcT h1 | replace h1 := dcF (nt h1) | skip
  refine go_seq ?_
  refine go_region 1 rfl rfl ?_
  refine s_val rfl rfl (r_assign) rfl ?_
  refine s_end ?_
  refine go_ret ?_
  refine ⟨_, .cons rfl (.nil), ?_⟩
  exact ⟨congrArg i64 (by rw [cmpB]; simp only [UInt8.lt_iff_toNat_lt]; first | (rw [if_pos (by omega)]) | (rw [if_neg (by omega), if_pos (by omega)]) | (rw [if_neg (by omega), if_neg (by omega)])), C_w2⟩
 ·first | replace h1 := dcF h1 | replace h1 := dcT (nf h1) | skip
  refine go_skip ?_
  refine go_seq ?_
  refine go_seq ?_
  refine go_region 3 rfl rfl ?_
  refine s_val rfl rfl (r_move) rfl ?_
  refine s_val rfl rfl (r_move) rfl ?_
  refine s_val rfl rfl (r_gtr rfl rfl) rfl ?_
  refine s_end ?_
  refine go_ifb _ rfl (fun h2 => ?_) (fun h2 => ?_)
  ·first | replace h2 := dcT h2 | replace h2 := dcF (nt h2) | skip
   refine go_seq ?_
   refine go_region 1 rfl rfl ?_
   refine s_val rfl rfl (r_assign) rfl ?_
   refine s_end ?_
   refine go_ret ?_
   refine ⟨_, .cons rfl (.nil), ?_⟩
   exact ⟨congrArg i64 (by rw [cmpB]; simp only [UInt8.lt_iff_toNat_lt]; first | (rw [if_pos (by omega)]) | (rw [if_neg (by omega), if_pos (by omega)]) | (rw [if_neg (by omega), if_neg (by omega)])), C_w2⟩
  ·first | replace h2 := dcF h2 | replace h2 := dcT (nf h2) | skip
   refine go_skip ?_
   refine go_seq ?_
   refine go_region 1 rfl rfl ?_
   refine s_val rfl rfl (r_assign) rfl ?_
   refine s_end ?_
   refine go_ret ?_
   refine ⟨_, .cons rfl (.nil), ?_⟩
   exact ⟨congrArg i64 (by rw [cmpB]; simp only [UInt8.lt_iff_toNat_lt]; first | (rw [if_pos (by omega)]) | (rw [if_neg (by omega), if_pos (by omega)]) | (rw [if_neg (by omega), if_neg (by omega)])), C_w2⟩
theorem cmpS_spec (A B : List UInt8) (aA aB : Option Addr) (n caA caB : Nat) (w : World) (hA : A.length = n) (hB : B.length = n) (hb : n ≤ 1000) (hsA : SlAt w aA (bs A)) (hsB : SlAt w aB (bs B)) :
  Rtn Tryz.prog 18 [Value.slice aA n caA, Value.slice aB n caB].toArray w (fun v w' => v = i64 (Go.Lib.compareBytes A B) ∧ Kept w w') := by
 refine fn_body (l := [Value.slice aA n caA, Value.slice aB n caB]) 36 [.tmp 4] Tryz.func18 rfl Tryz.ntmps18 (Nat.le_of_ble_eq_true rfl) (by rw [Tryz.results18]) ?_
 refine go_seq ?_
 refine go_region 1 rfl rfl ?_
 refine s_val rfl rfl (r_assign) rfl ?_
 refine s_end ?_
 refine go_seq ?_
 refine go_seq ?_
 refine go_region 3 rfl rfl ?_
 refine s_val rfl rfl (r_move) rfl ?_
 refine s_val rfl rfl (r_len Tryz.runUnderlying55 rfl) rfl ?_
 refine s_val rfl rfl (r_move) rfl ?_
 refine s_end ?_
 refine go_block ?_
 refine go_loopM (σ := Nat) [(4, 8), (11, 30)] (fun (k : Nat) e' w' => e' 11 = i64 (k : Nat) ∧ k ≤ n ∧ (Go.Lib.compareBytes A B) = Go.Lib.compareBytes (A.drop k) (B.drop k) ∧ Chg no w w') (fun (k : Nat) => n - k) 0 ?_ ?_
 ·exact ⟨rfl, by omega, by simp, (Chg.refl no w)⟩
 rintro k f2 w1 ⟨e3, hk, hc, C_w1⟩
 have ob_5 : ∃ g_, f2 = upd g_ 11 (i64 (k : Nat)) := ⟨f2, upd_id e3⟩
 obtain ⟨f4, rfl⟩ := ob_5
 clear e3
 have hs_w1 : w.heap.size ≤ w1.heap.size := Chg.size C_w1
 refine go_seq ?_
 refine go_region 1 rfl rfl ?_
 refine s_val rfl rfl (r_lss rfl rfl) rfl ?_
 refine s_end ?_
 refine go_seq ?_
 refine go_ifb _ rfl (fun h1 => ?_) (fun h1 => ?_)
 ·first | replace h1 := dcT h1 | replace h1 := dcF (nt h1) | skip
  refine go_skip ?_
  refine go_seq ?_
  refine go_block ?_
  refine go_seq ?_
  refine go_region 5 rfl rfl ?_
  refine s_val rfl rfl (r_move) rfl ?_
  refine s_val rfl rfl (r_indexSl (k := k) Tryz.runUnderlying55 Tryz.sizeOf5 rfl (hsA.k C_w1) (bs_ne (by omega)) rfl (by first | rfl | omega) (by omega)) rfl ?_
  refine s_val rfl rfl (r_loadSl1 Tryz.isAgg5 rfl (hsA.k C_w1) (bs_get (by first | omega | (simp; try omega)))) rfl ?_
  refine s_val rfl rfl (r_assign) rfl ?_
  refine s_val rfl rfl (r_assign) rfl ?_
  refine s_end ?_
  refine go_seq ?_
  refine go_seq ?_
  refine go_region 4 rfl rfl ?_
  refine s_val rfl rfl (r_move) rfl ?_
  refine s_val rfl rfl (r_move) rfl ?_
  refine s_val rfl rfl (r_len Tryz.runUnderlying55 rfl) rfl ?_
  refine s_val rfl rfl (r_geq rfl rfl) rfl ?_
  refine s_end ?_
  refine go_ifb _ rfl (fun h6 => ?_) (fun h6 => ?_)
  ·first | replace h6 := dcT h6 | replace h6 := dcF (nt h6) | skip
   exfalso
   omega
  ·first | replace h6 := dcF h6 | replace h6 := dcT (nf h6) | skip
   refine go_skip ?_
   refine go_seq ?_
   refine go_region 5 rfl rfl ?_
   refine s_val rfl rfl (r_move) rfl ?_
   refine s_val rfl rfl (r_move) rfl ?_
   refine s_val rfl rfl (r_indexSl (k := k) Tryz.runUnderlying55 Tryz.sizeOf5 rfl (hsB.k C_w1) (bs_ne (by omega)) rfl (by first | rfl | omega) (by omega)) rfl ?_
   refine s_val rfl rfl (r_loadSl1 Tryz.isAgg5 rfl (hsB.k C_w1) (bs_get (by first | omega | (simp; try omega)))) rfl ?_
   refine s_val rfl rfl (r_assign) rfl ?_
   refine s_end ?_
   refine go_seq ?_
   refine go_region 4 rfl rfl ?_
   refine s_val rfl rfl (r_move) rfl ?_
   refine s_val rfl rfl (r_move) rfl ?_
   refine s_do rfl rfl (w_call Tryz.call39 rfl (cmpB_spec (A.getD k 0) (B.getD k 0) _)) rfl ?_
   rintro _ w7 ⟨rfl, c_w7⟩
   have hs_w7 : w1.heap.size ≤ w7.heap.size := Chg.size c_w7
   have C_w7 := Chg.pure C_w1 c_w7
   refine s_val rfl rfl (r_assign) rfl ?_
   refine s_end ?_
   refine go_seq ?_
   refine go_region 2 rfl rfl ?_
   refine s_val rfl rfl (r_move) rfl ?_
   refine s_val rfl rfl (r_neq rfl rfl) rfl ?_
   refine s_end ?_
   refine go_ifb _ rfl (fun h2 => ?_) (fun h2 => ?_)
   ·first | replace h2 := dcT h2 | replace h2 := dcF (nt h2) | skip
    refine go_seq ?_
    refine go_region 2 rfl rfl ?_
    refine s_val rfl rfl (r_move) rfl ?_
    refine s_val rfl rfl (r_assign) rfl ?_
    refine s_end ?_
    refine go_ret (block_ret (loop_ret (block_ret ?_)))
    refine ⟨_, .cons rfl (.nil), ?_⟩
    exact ⟨congrArg i64 ((hc.trans (compare_drop (by omega) (by omega))).trans (if_neg (by omega))).symm, C_w7⟩
   ·first | replace h2 := dcF h2 | replace h2 := dcT (nf h2) | skip
    refine go_skip ?_
    refine go_nil (block_normal ?_)
    refine go_region 2 rfl rfl ?_
    refine s_val rfl rfl (r_addi rfl rfl (by omega)) rfl ?_
    refine s_val rfl rfl (r_move) rfl ?_
    refine s_end ?_
    refine go_nil (loop_normal ⟨⟨(k + 1), by first | omega | (dsimp only; omega), ⟨rfl, by omega, by rw [hc, compare_drop (by omega) (by omega), if_pos (by omega)], C_w7⟩⟩, (by repeat (first | exact same_refl | exact same_over | refine same_upd rfl ?_ | refine same_over2 rfl ?_))⟩)
 ·first | replace h1 := dcF h1 | replace h1 := dcT (nf h1) | skip
  have hz_ : (Go.Lib.compareBytes A B) = 0 := hc.trans (compare_end (by omega) (by omega))
  refine go_exit (loop_exit (block_hit ?_))
  refine go_seq ?_
  refine go_seq ?_
  refine go_region 5 rfl rfl ?_
  refine s_val rfl rfl (r_move) rfl ?_
  refine s_val rfl rfl (r_len Tryz.runUnderlying55 rfl) rfl ?_
  refine s_val rfl rfl (r_move) rfl ?_
  refine s_val rfl rfl (r_len Tryz.runUnderlying55 rfl) rfl ?_
  refine s_val rfl rfl (r_lss rfl rfl) rfl ?_
  refine s_end ?_
  refine go_ifb _ rfl (fun h8 => ?_) (fun h8 => ?_)
  ·first | replace h8 := dcT h8 | replace h8 := dcF (nt h8) | skip
   exfalso
   omega
  ·first | replace h8 := dcF h8 | replace h8 := dcT (nf h8) | skip
   refine go_skip ?_
   refine go_seq ?_
   refine go_region 1 rfl rfl ?_
   refine s_val rfl rfl (r_assign) rfl ?_
   refine s_end ?_
   refine go_ret ?_
   refine ⟨_, .cons rfl (.nil), ?_⟩
   exact ⟨congrArg i64 hz_.symm, C_w1⟩
end Go.Proofs.YtippcmedgfmgbaaGreat
end
section
open Go Go.Eng Go.Proofs
namespace Go.Proofs.YtippcmedgfmgbaaGreat
end Go.Proofs.YtippcmedgfmgbaaGreat
end
section
open Go Go.Eng Go.Proofs
namespace Go.Proofs.YtippcmedgfmgbaaGreat
theorem whenG_spec (b : Bool) (e : Int) (w : World) :
  Rtn Tryz.prog 16 [.bool b, i64 e].toArray w (fun v w' => v = i64 (if b then e else 0) ∧ Kept w w') := by
 refine fn_body (l := [.bool b, i64 e]) 7 [.tmp 4] Tryz.func16 rfl Tryz.ntmps16 (Nat.le_of_ble_eq_true rfl) (by rw [Tryz.results16]) ?_
 refine go_seq ?_
 refine go_region 1 rfl rfl ?_
 refine s_val rfl rfl (r_assign) rfl ?_
 refine s_end ?_
 refine go_seq ?_
 refine go_seq ?_
 refine go_region 1 rfl rfl ?_
 refine s_val rfl rfl (r_move) rfl ?_
 refine s_end ?_
 refine go_ifb _ rfl (fun h1 => ?_) (fun h1 => ?_)
 ·first | replace h1 := dcT h1 | replace h1 := dcF (nt h1) | skip
  refine go_seq ?_
  refine go_region 2 rfl rfl ?_
  refine s_val rfl rfl (r_move) rfl ?_
  refine s_val rfl rfl (r_assign) rfl ?_
  refine s_end ?_
  refine go_ret ?_
  refine ⟨_, .cons rfl (.nil), ?_⟩
  subst h1
  exact ⟨rfl, (Chg.refl no w)⟩
 ·first | replace h1 := dcF h1 | replace h1 := dcT (nf h1) | skip
  refine go_skip ?_
  refine go_seq ?_
  refine go_region 1 rfl rfl ?_
  refine s_val rfl rfl (r_assign) rfl ?_
  refine s_end ?_
  refine go_ret ?_
  refine ⟨_, .cons rfl (.nil), ?_⟩
  have h1' : b = false := by cases b <;> simp_all
  subst h1'
  exact ⟨rfl, (Chg.refl no w)⟩
theorem inG_spec (n lo hi : Int) (w : World) :
  Rtn Tryz.prog 17 [i64 n, i64 lo, i64 hi].toArray w (fun v w' => v = .bool (decide (lo ≤ n ∧ n ≤ hi)) ∧ Kept w w') := by
 refine fn_body (l := [i64 n, i64 lo, i64 hi]) 15 [.tmp 6] Tryz.func17 rfl Tryz.ntmps17 (Nat.le_of_ble_eq_true rfl) (by rw [Tryz.results17]) ?_
 refine go_seq ?_
 refine go_region 1 rfl rfl ?_
 refine s_val rfl rfl (r_assign) rfl ?_
 refine s_end ?_
 refine go_seq ?_
 refine go_region 9 rfl rfl ?_
 refine s_val rfl rfl (r_move) rfl ?_
 refine s_val rfl rfl (r_move) rfl ?_
 refine s_val rfl rfl (r_geq rfl rfl) rfl ?_
 refine s_valB rfl rfl (r_move) rfl (fun h1 => ?_) (fun h1 => ?_)
 ·first | replace h1 := dcT h1 | replace h1 := dcF (nt h1) | skip
  have h1 := h1
  refine s_val_g rfl rfl (r_move) rfl ?_
  refine s_val_g rfl rfl (r_move) rfl ?_
  refine s_val_g rfl rfl (r_leq rfl rfl) rfl ?_
  refine s_val rfl rfl (r_pick true rfl) rfl ?_
  refine s_val rfl rfl (r_assign) rfl ?_
  refine s_end ?_
  refine go_ret ?_
  refine ⟨_, .cons rfl (.nil), ?_⟩
  refine ⟨congrArg Value.bool ?_, (Chg.refl no w)⟩
  first | (rw [Bool.eq_iff_iff]; simp only [decide_eq_true_eq]; omega) | (symm; apply decide_eq_false; omega)
 ·first | replace h1 := dcF h1 | replace h1 := dcT (nf h1) | skip
  have h1 := h1
  refine s_val_not rfl rfl ?_
  refine s_val_not rfl rfl ?_
  refine s_val_not rfl rfl ?_
  refine s_val rfl rfl (r_pick false rfl) rfl ?_
  refine s_val rfl rfl (r_assign) rfl ?_
  refine s_end ?_
  refine go_ret ?_
  refine ⟨_, .cons rfl (.nil), ?_⟩
  refine ⟨congrArg Value.bool ?_, (Chg.refl no w)⟩
  first | (rw [Bool.eq_iff_iff]; simp only [decide_eq_true_eq]; omega) | (symm; apply decide_eq_false; omega)
theorem firstG_spec (es : List Int) (a : Option Addr) (n c : Nat) (w : World) (hn : es.length = n) (hnb : n < 4611686018427387904) (hsl : SlAt w a (es.map i64)) :
  Rtn Tryz.prog 15 [Value.slice a n c].toArray w (fun v w' => v = i64 (firstE es) ∧ Kept w w') := by
 have hne_ : ∀ k, k < n → es.map i64 ≠ [] := fun k hk h_ => by have := congrArg List.length h_; rw [List.length_map, List.length_nil] at this; omega
 refine fn_body (l := [Value.slice a n c]) 15 [.tmp 2] Tryz.func15 rfl Tryz.ntmps15 (Nat.le_of_ble_eq_true rfl) (by rw [Tryz.results15]) ?_
 refine go_seq ?_
 refine go_region 1 rfl rfl ?_
 refine s_val rfl rfl (r_assign) rfl ?_
 refine s_end ?_
 refine go_seq ?_
 refine go_seq ?_
 refine go_region 3 rfl rfl ?_
 refine s_val rfl rfl (r_move) rfl ?_
 refine s_val rfl rfl (r_len Tryz.runUnderlying76 rfl) rfl ?_
 refine s_val rfl rfl (r_move) rfl ?_
 refine s_end ?_
 refine go_block ?_
 refine go_loopM (σ := Nat) [(2, 2), (4, 4), (7, 14)] (fun (k : Nat) e' w' => e' 7 = i64 (k : Nat) ∧ k ≤ n ∧ firstE es = firstE (es.drop k) ∧ Chg no w w') (fun (k : Nat) => n - k) 0 ?_ ?_
 ·exact ⟨rfl, by omega, rfl, (Chg.refl no w)⟩
 rintro k f2 w1 ⟨e3, hk, hf, C_w1⟩
 have ob_5 : ∃ g_, f2 = upd g_ 7 (i64 (k : Nat)) := ⟨f2, upd_id e3⟩
 obtain ⟨f4, rfl⟩ := ob_5
 clear e3
 have hs_w1 : w.heap.size ≤ w1.heap.size := Chg.size C_w1
 refine go_seq ?_
 refine go_region 1 rfl rfl ?_
 refine s_val rfl rfl (r_lss rfl rfl) rfl ?_
 refine s_end ?_
 refine go_seq ?_
 refine go_ifb _ rfl (fun h2 => ?_) (fun h2 => ?_)
 ·first | replace h2 := dcT h2 | replace h2 := dcF (nt h2) | skip
  have hfd := firstE_drop (es := es) (k := k) (by omega)
  refine go_skip ?_
  refine go_seq ?_
  refine go_block ?_
  refine go_seq ?_
  refine go_region 3 rfl rfl ?_
  refine s_val rfl rfl (r_indexSl (k := k) Tryz.runUnderlying76 Tryz.sizeOf28 rfl (hsl.k C_w1) (by intro h_; have := congrArg List.length h_; simp at this; simp_all; omega) rfl (by first | rfl | omega) (by omega)) rfl ?_
  refine s_val rfl rfl (r_loadSl1 Tryz.isAgg28 rfl (hsl.k C_w1) (ints_get (by omega))) rfl ?_
  refine s_val rfl rfl (r_assign) rfl ?_
  refine s_end ?_
  refine go_seq ?_
  refine go_region 2 rfl rfl ?_
  refine s_val rfl rfl (r_move) rfl ?_
  refine s_val rfl rfl (r_neq rfl rfl) rfl ?_
  refine s_end ?_
  refine go_ifb _ rfl (fun h3 => ?_) (fun h3 => ?_)
  ·first | replace h3 := dcT h3 | replace h3 := dcF (nt h3) | skip
   refine go_seq ?_
   refine go_region 2 rfl rfl ?_
   refine s_val rfl rfl (r_move) rfl ?_
   refine s_val rfl rfl (r_assign) rfl ?_
   refine s_end ?_
   refine go_ret (block_ret (loop_ret (block_ret ?_)))
   refine ⟨_, .cons rfl (.nil), ?_⟩
   rw [hf, hfd, if_pos (by omega)]
   exact ⟨rfl, C_w1⟩
  ·first | replace h3 := dcF h3 | replace h3 := dcT (nf h3) | skip
   refine go_skip ?_
   refine go_nil (block_normal ?_)
   refine go_region 2 rfl rfl ?_
   refine s_val rfl rfl (r_addi rfl rfl (by omega)) rfl ?_
   refine s_val rfl rfl (r_move) rfl ?_
   refine s_end ?_
   refine go_nil (loop_normal ⟨⟨(k + 1), by first | omega | (dsimp only; omega), ⟨rfl, by omega, by rw [hf, hfd, if_neg (by omega)], C_w1⟩⟩, (by repeat (first | exact same_refl | exact same_over | refine same_upd rfl ?_ | refine same_over2 rfl ?_))⟩)
 ·first | replace h2 := dcF h2 | replace h2 := dcT (nf h2) | skip
  have hf0 : es.drop k = [] := List.drop_eq_nil_of_le (by omega)
  refine go_exit (loop_exit (block_hit ?_))
  refine go_seq ?_
  refine go_region 1 rfl rfl ?_
  refine s_val rfl rfl (r_assign) rfl ?_
  refine s_end ?_
  refine go_ret ?_
  refine ⟨_, .cons rfl (.nil), ?_⟩
  rw [hf, hf0]
  exact ⟨rfl, C_w1⟩
set_option maxHeartbeats 4000000 in
theorem holdG_spec (need : Int) (H : List (List UInt8)) (aH : Option Addr) (n cH : Nat) (w : World) (hn0 : 0 < n) (hnb : n ≤ 9223372036854775807) (hH : H.length = n) (h16 : All16 H) (hslH : SlAt w aH (bs H.flatten)) :
  Rtn Tryz.prog 5 [i64 need, Value.slice aH n cH].toArray w (fun v w' => v = i64 (hErrTo need n H n) ∧ Kept w w') := by
 obtain ⟨bH, oH, rfl, hrdH⟩ := SlAt.pos hslH (bs_ne (by rw [h16.len]; omega))
 refine fn_body (l := [i64 need, Value.slice (some ⟨bH, oH, none⟩) n cH]) 47 [.tmp 4] Tryz.func5 rfl Tryz.ntmps5 (Nat.le_of_ble_eq_true rfl) (by rw [Tryz.results5]) ?_
 refine go_seq ?_
 refine go_region 1 rfl rfl ?_
 refine s_val rfl rfl (r_assign) rfl ?_
 refine s_end ?_
 refine go_seq ?_
 refine go_region 16 rfl rfl ?_
 refine s_val rfl rfl (r_move) rfl ?_
 refine s_do rfl rfl (w_call Tryz.call17 rfl (inG_spec _ _ _ _)) rfl ?_
 rintro _ w1 ⟨rfl, c_w1⟩
 have hs_w1 : w.heap.size ≤ w1.heap.size := Chg.size c_w1
 have C_w1 := Chg.pure (Chg.refl no w) c_w1
 refine s_val rfl rfl (r_not rfl) rfl ?_
 refine s_do rfl rfl (w_call Tryz.call16 rfl (whenG_spec _ _ _)) rfl ?_
 rintro _ w2 ⟨rfl, c_w2⟩
 have hs_w2 : w1.heap.size ≤ w2.heap.size := Chg.size c_w2
 have C_w2 := Chg.pure C_w1 c_w2
 refine s_val rfl rfl (r_move) rfl ?_
 refine s_val rfl rfl (r_len Tryz.runUnderlying24 rfl) rfl ?_
 refine s_val rfl rfl (r_gtr rfl rfl) rfl ?_
 refine s_do rfl rfl (w_call Tryz.call16 rfl (whenG_spec _ _ _)) rfl ?_
 rintro _ w3 ⟨rfl, c_w3⟩
 have hs_w3 : w2.heap.size ≤ w3.heap.size := Chg.size c_w3
 have C_w3 := Chg.pure C_w2 c_w3
 refine s_val rfl rfl (r_move) rfl ?_
 refine s_val rfl rfl (r_len Tryz.runUnderlying24 rfl) rfl ?_
 refine s_val rfl rfl (r_move) rfl ?_
 refine s_val rfl rfl (r_lss rfl rfl) rfl ?_
 refine s_do rfl rfl (w_call Tryz.call16 rfl (whenG_spec _ _ _)) rfl ?_
 rintro _ w4 ⟨rfl, c_w4⟩
 have hs_w4 : w3.heap.size ≤ w4.heap.size := Chg.size c_w4
 have C_w4 := Chg.pure C_w3 c_w4
 refine s_do rfl rfl (w_build3 (E := 28) Tryz.underlying76 (i := Tryz.t28) (by kernel_rfl) rfl rfl rfl rfl rfl rfl rfl rfl rfl) rfl ?_
 rintro _ w5 ⟨b6, rfl, hl_b6, hu_b6, o8, p7, c_w5⟩
 have hs_w5 : w4.heap.size ≤ w5.heap.size := Chg.size c_w5
 have C_w5 := Chg.pure C_w4 c_w5
 have hn_b6 : w.heap.size ≤ b6 := by have := Chg.size C_w5; omega
 clear o8
 replace p7 : Pc w5 b6 0 [(i64 ((if (!decide (1 ≤ need ∧ need ≤ 32)) = true then 4 else 0))), (i64 ((if decide ((32 : Int) < (n : Nat)) = true then 5 else 0))), (i64 ((if decide (((n : Nat) : Int) < need) = true then 18 else 0)))] := p7
 have hcall_ := firstG_spec [(if (!decide (1 ≤ need ∧ need ≤ 32)) = true then 4 else 0), (if decide ((32 : Int) < (n : Nat)) = true then 5 else 0), (if decide (((n : Nat) : Int) < need) = true then 18 else 0)] (some ⟨b6, 0, none⟩) 3 3 w5 rfl (by decide) (SlAt.some p7.rd)
 rw [hErr_first, ← hErr_start (H := H)] at hcall_
 refine s_do rfl rfl (w_call Tryz.call15 rfl hcall_) rfl ?_
 rintro _ w9 ⟨rfl, c_w9⟩
 clear hcall_
 have hs_w9 : w5.heap.size ≤ w9.heap.size := Chg.size c_w9
 replace p7 := p7.k c_w9
 have C_w9 := Chg.pure C_w5 c_w9
 refine s_val rfl rfl (r_assign) rfl ?_
 refine s_end ?_
 refine go_seq ?_
 refine go_seq ?_
 refine go_region 3 rfl rfl ?_
 refine s_val rfl rfl (r_move) rfl ?_
 refine s_val rfl rfl (r_len Tryz.runUnderlying24 rfl) rfl ?_
 refine s_val rfl rfl (r_move) rfl ?_
 refine s_end ?_
 refine go_block ?_
 refine go_loopM (σ := Nat) [(5, 6), (24, 45)] (fun (k : Nat) e' w' => e' 24 = i64 (k : Nat) ∧ e' 5 = i64 (hErrTo need n H k) ∧ k ≤ n ∧ Chg no w w') (fun (k : Nat) => n - k) 0 ?_ ?_
 ·exact ⟨rfl, rfl, by omega, C_w9⟩
 rintro k f11 w10 ⟨e12, e13, hk, C_w10⟩
 have ob_15 : ∃ g_, f11 = upd g_ 24 (i64 (k : Nat)) := ⟨f11, upd_id e12⟩
 obtain ⟨f14, rfl⟩ := ob_15
 have ob_17 : ∃ g_, f14 = upd g_ 5 (i64 (hErrTo need n H k)) := ⟨f14, upd_id e13⟩
 obtain ⟨f16, rfl⟩ := ob_17
 clear e12 e13
 have hs_w10 : w.heap.size ≤ w10.heap.size := Chg.size C_w10
 refine go_seq ?_
 refine go_region 1 rfl rfl ?_
 refine s_val rfl rfl (r_lss rfl rfl) rfl ?_
 refine s_end ?_
 refine go_seq ?_
 refine go_ifb _ rfl (fun h1 => ?_) (fun h1 => ?_)
 ·first | replace h1 := dcT h1 | replace h1 := dcF (nt h1) | skip
  refine go_skip ?_
  refine go_seq ?_
  refine go_block ?_
  refine go_seq ?_
  refine go_region 2 rfl rfl ?_
  refine s_val rfl rfl (r_move) rfl ?_
  refine s_val rfl rfl (r_assign) rfl ?_
  refine s_end ?_
  refine go_seq ?_
  refine go_drawsE 12 (.take 0 (.take 1 (.take 2 (.take 3 (.take 4 (.take 5 (.take 6 (.take 7 (.take 8 (.take 9 (.take 10 (.take 11 (.eff 12 (.eff 13 (.eff 14 .done))))))))))))))) (by kernel_rfl) (by kernel_rfl) fun w18 c_w18 => ?_
  have hs_w18 : w10.heap.size ≤ w18.heap.size := Chg.size c_w18
  have C_w18 := Chg.pure C_w10 c_w18
  refine s_takeE rfl rfl (r_move) ?_
  refine s_takeE rfl rfl (r_gtr rfl rfl) ?_
  refine s_takeB rfl rfl (by intro x_ hx_; (try subst hx_); exact r_move) (fun h19 => ?_) (fun h19 => ?_)
  ·first | replace h19 := dcT h19 | replace h19 := dcF (nt h19) | skip
   have hk0 := h19
   refine s_takeEg rfl rfl (r_move) ?_
   refine s_takeEg rfl rfl (r_move) ?_
   refine s_takeEg rfl rfl (r_subi rfl rfl (by omega)) ?_
   refine s_takeEg rfl rfl (r_indexSlQ (k := (k - 1)) Tryz.runUnderlying24 Tryz.sizeOf37 rfl rfl (by first | rfl | omega) (by omega)) ?_
   refine s_takeEg rfl rfl (r_sliceA (l := 0) (h := 16) (m := 16) Tryz.runUnderlying37 Tryz.sizeOf5 rfl rfl rfl rfl (by first | decide | (intro h_; cases h_)) (by decide) (by first | decide | (intro _; decide)) (by decide) (by decide)) ?_
   refine s_takeEg rfl rfl (r_move) ?_
   refine s_takeEg rfl rfl (r_move) ?_
   refine s_takeEg rfl rfl (r_indexSlQ (k := k) Tryz.runUnderlying24 Tryz.sizeOf37 rfl rfl (by first | rfl | omega) (by omega)) ?_
   refine s_takeEg rfl rfl (r_sliceA (l := 0) (h := 16) (m := 16) Tryz.runUnderlying37 Tryz.sizeOf5 rfl rfl rfl rfl (by first | decide | (intro h_; cases h_)) (by decide) (by first | decide | (intro _; decide)) (by decide) (by decide)) ?_
   have hrA_ : Rd w18 bH (oH + (k - 1) * 16 + 0 * 1) (bs (H.getD (k - 1) [])) := by rw [Nat.zero_mul, Nat.add_zero]; exact Rd.hold (hrdH.k C_w18) h16 (by omega)
   have hrB_ : Rd w18 bH (oH + k * 16 + 0 * 1) (bs (H.getD k [])) := by rw [Nat.zero_mul, Nat.add_zero]; exact Rd.hold (hrdH.k C_w18) h16 (by omega)
   have hcall_ := cmpS_spec (H.getD (k - 1) []) (H.getD k []) (some ⟨bH, _, none⟩) (some ⟨bH, _, none⟩) 16 (16 - 0) (16 - 0) w18 (h16.get (by omega)) (h16.get (by omega)) (by omega) (SlAt.some hrA_) (SlAt.some hrB_)
   clear hrA_ hrB_
   refine s_do_g rfl rfl (w_call Tryz.call18 rfl hcall_) rfl ?_
   rintro _ w20 ⟨rfl, c_w20⟩
   clear hcall_
   have hs_w20 : w18.heap.size ≤ w20.heap.size := Chg.size c_w20
   have C_w20 := Chg.pure C_w18 c_w20
   refine s_val_g rfl rfl (r_geq rfl rfl) rfl ?_
   refine s_val rfl rfl (r_pick true rfl) rfl ?_
   refine s_end ?_
   refine go_ifb _ rfl (fun h4 => ?_) (fun h4 => ?_)
   ·first | replace h4 := dcT h4 | replace h4 := dcF (nt h4) | skip
    refine go_region 4 rfl rfl ?_
    refine s_val rfl rfl (r_move) rfl ?_
    refine s_do rfl rfl (w_build2 (E := 28) Tryz.underlying76 (i := Tryz.t28) (by kernel_rfl) rfl rfl rfl rfl rfl rfl rfl) rfl ?_
    rintro _ w21 ⟨b22, rfl, hl_b22, hu_b22, o24, p23, c_w21⟩
    have hs_w21 : w20.heap.size ≤ w21.heap.size := Chg.size c_w21
    have C_w21 := Chg.pure C_w20 c_w21
    have hn_b22 : w.heap.size ≤ b22 := by have := Chg.size C_w21; omega
    clear o24
    replace p23 : Pc w21 b22 0 [(i64 ((hErrTo need n H k))), (i64 (9))] := p23
    have hcall_ := firstG_spec [hErrTo need n H k, 9] (some ⟨b22, 0, none⟩) 2 2 w21 rfl (by decide) (SlAt.some p23.rd)
    refine s_do rfl rfl (w_call Tryz.call15 rfl hcall_) rfl ?_
    rintro _ w25 ⟨rfl, c_w25⟩
    clear hcall_
    have hs_w25 : w21.heap.size ≤ w25.heap.size := Chg.size c_w25
    replace p23 := p23.k c_w25
    have C_w25 := Chg.pure C_w21 c_w25
    refine s_val rfl rfl (r_assign) rfl ?_
    refine s_end ?_
    refine go_nil (block_normal ?_)
    refine go_region 2 rfl rfl ?_
    refine s_val rfl rfl (r_addi rfl rfl (by omega)) rfl ?_
    refine s_val rfl rfl (r_move) rfl ?_
    refine s_end ?_
    refine go_nil (loop_normal ⟨⟨(k + 1), by first | omega | (dsimp only; omega), ⟨rfl, congrArg i64 (hErr_hit (by omega) (by omega)).symm, by omega, C_w25⟩⟩, (by repeat (first | exact same_refl | exact same_over | refine same_upd rfl ?_ | refine same_over2 rfl ?_))⟩)
   ·first | replace h4 := dcF h4 | replace h4 := dcT (nf h4) | skip
    refine go_skip ?_
    refine go_nil (block_normal ?_)
    refine go_region 2 rfl rfl ?_
    refine s_val rfl rfl (r_addi rfl rfl (by omega)) rfl ?_
    refine s_val rfl rfl (r_move) rfl ?_
    refine s_end ?_
    refine go_nil (loop_normal ⟨⟨(k + 1), by first | omega | (dsimp only; omega), ⟨rfl, congrArg i64 (hErr_miss (.inr (by omega))).symm, by omega, C_w20⟩⟩, (by repeat (first | exact same_refl | exact same_over | refine same_upd rfl ?_ | refine same_over2 rfl ?_))⟩)
  ·first | replace h19 := dcF h19 | replace h19 := dcT (nf h19) | skip
   have hk0 := h19
   refine s_take_not rfl rfl ?_
   refine s_take_not rfl rfl ?_
   refine s_take_not rfl rfl ?_
   refine s_take_not rfl rfl ?_
   refine s_take_not rfl rfl ?_
   refine s_take_not rfl rfl ?_
   refine s_take_not rfl rfl ?_
   refine s_take_not rfl rfl ?_
   refine s_take_not rfl rfl ?_
   refine s_val_not rfl rfl ?_
   refine s_val_not rfl rfl ?_
   refine s_val rfl rfl (r_pick false rfl) rfl ?_
   refine s_end ?_
   refine go_false rfl ?_
   refine go_skip ?_
   refine go_nil (block_normal ?_)
   refine go_region 2 rfl rfl ?_
   refine s_val rfl rfl (r_addi rfl rfl (by omega)) rfl ?_
   refine s_val rfl rfl (r_move) rfl ?_
   refine s_end ?_
   refine go_nil (loop_normal ⟨⟨(k + 1), by first | omega | (dsimp only; omega), ⟨rfl, congrArg i64 (hErr_miss (.inl (by omega))).symm, by omega, C_w18⟩⟩, (by repeat (first | exact same_refl | exact same_over | refine same_upd rfl ?_ | refine same_over2 rfl ?_))⟩)
 ·first | replace h1 := dcF h1 | replace h1 := dcT (nf h1) | skip
  have ob_26 : n = k := by omega
  obtain rfl := ob_26
  refine go_exit (loop_exit (block_hit ?_))
  refine go_seq ?_
  refine go_region 2 rfl rfl ?_
  refine s_val rfl rfl (r_move) rfl ?_
  refine s_val rfl rfl (r_assign) rfl ?_
  refine s_end ?_
  refine go_ret ?_
  refine ⟨_, .cons rfl (.nil), ?_⟩
  exact ⟨rfl, C_w10⟩
set_option maxHeartbeats 4000000 in
theorem holdG0_spec (need : Int) (aH : Option Addr) (cH : Nat) (w : World) :
  Rtn Tryz.prog 5 [i64 need, Value.slice aH 0 cH].toArray w (fun v w' => v = i64 (hErrB need 0) ∧ Kept w w') := by
 refine fn_body (l := [i64 need, Value.slice aH 0 cH]) 47 [.tmp 4] Tryz.func5 rfl Tryz.ntmps5 (Nat.le_of_ble_eq_true rfl) (by rw [Tryz.results5]) ?_
 refine go_seq ?_
 refine go_region 1 rfl rfl ?_
 refine s_val rfl rfl (r_assign) rfl ?_
 refine s_end ?_
 refine go_seq ?_
 refine go_region 16 rfl rfl ?_
 refine s_val rfl rfl (r_move) rfl ?_
 refine s_do rfl rfl (w_call Tryz.call17 rfl (inG_spec _ _ _ _)) rfl ?_
 rintro _ w1 ⟨rfl, c_w1⟩
 have hs_w1 : w.heap.size ≤ w1.heap.size := Chg.size c_w1
 have C_w1 := Chg.pure (Chg.refl no w) c_w1
 refine s_val rfl rfl (r_not rfl) rfl ?_
 refine s_do rfl rfl (w_call Tryz.call16 rfl (whenG_spec _ _ _)) rfl ?_
 rintro _ w2 ⟨rfl, c_w2⟩
 have hs_w2 : w1.heap.size ≤ w2.heap.size := Chg.size c_w2
 have C_w2 := Chg.pure C_w1 c_w2
 refine s_val rfl rfl (r_move) rfl ?_
 refine s_val rfl rfl (r_len Tryz.runUnderlying24 rfl) rfl ?_
 refine s_val rfl rfl (r_gtr rfl rfl) rfl ?_
 refine s_do rfl rfl (w_call Tryz.call16 rfl (whenG_spec _ _ _)) rfl ?_
 rintro _ w3 ⟨rfl, c_w3⟩
 have hs_w3 : w2.heap.size ≤ w3.heap.size := Chg.size c_w3
 have C_w3 := Chg.pure C_w2 c_w3
 refine s_val rfl rfl (r_move) rfl ?_
 refine s_val rfl rfl (r_len Tryz.runUnderlying24 rfl) rfl ?_
 refine s_val rfl rfl (r_move) rfl ?_
 refine s_val rfl rfl (r_lss rfl rfl) rfl ?_
 refine s_do rfl rfl (w_call Tryz.call16 rfl (whenG_spec _ _ _)) rfl ?_
 rintro _ w4 ⟨rfl, c_w4⟩
 have hs_w4 : w3.heap.size ≤ w4.heap.size := Chg.size c_w4
 have C_w4 := Chg.pure C_w3 c_w4
 refine s_do rfl rfl (w_build3 (E := 28) Tryz.underlying76 (i := Tryz.t28) (by kernel_rfl) rfl rfl rfl rfl rfl rfl rfl rfl rfl) rfl ?_
 rintro _ w5 ⟨b6, rfl, hl_b6, hu_b6, o8, p7, c_w5⟩
 have hs_w5 : w4.heap.size ≤ w5.heap.size := Chg.size c_w5
 have C_w5 := Chg.pure C_w4 c_w5
 have hn_b6 : w.heap.size ≤ b6 := by have := Chg.size C_w5; omega
 clear o8
 replace p7 : Pc w5 b6 0 [(i64 ((if (!decide (1 ≤ need ∧ need ≤ 32)) = true then 4 else 0))), (i64 ((if decide ((32 : Int) < (0 : Nat)) = true then 5 else 0))), (i64 ((if decide (((0 : Nat) : Int) < need) = true then 18 else 0)))] := p7
 have hcall_ := firstG_spec [(if (!decide (1 ≤ need ∧ need ≤ 32)) = true then 4 else 0), (if decide ((32 : Int) < (0 : Nat)) = true then 5 else 0), (if decide (((0 : Nat) : Int) < need) = true then 18 else 0)] (some ⟨b6, 0, none⟩) 3 3 w5 rfl (by decide) (SlAt.some p7.rd)
 rw [hErr_first] at hcall_
 refine s_do rfl rfl (w_call Tryz.call15 rfl hcall_) rfl ?_
 rintro _ w9 ⟨rfl, c_w9⟩
 clear hcall_
 have hs_w9 : w5.heap.size ≤ w9.heap.size := Chg.size c_w9
 replace p7 := p7.k c_w9
 have C_w9 := Chg.pure C_w5 c_w9
 refine s_val rfl rfl (r_assign) rfl ?_
 refine s_end ?_
 refine go_seq ?_
 refine go_seq ?_
 refine go_region 3 rfl rfl ?_
 refine s_val rfl rfl (r_move) rfl ?_
 refine s_val rfl rfl (r_len Tryz.runUnderlying24 rfl) rfl ?_
 refine s_val rfl rfl (r_move) rfl ?_
 refine s_end ?_
 refine go_block ?_
 refine go_loopM (σ := Unit) [(5, 6), (24, 45)] (fun (x_ : Unit) e' w' => match x_ with | () => e' 24 = i64 0 ∧ e' 5 = i64 (hErrB need 0) ∧ Chg no w w') (fun (x_ : Unit) => match x_ with | () => 0) () ?_ ?_
 ·exact ⟨rfl, rfl, C_w9⟩
 rintro ⟨⟩ f11 w10 ⟨e12, e13, C_w10⟩
 have ob_15 : ∃ g_, f11 = upd g_ 24 (i64 0) := ⟨f11, upd_id e12⟩
 obtain ⟨f14, rfl⟩ := ob_15
 have ob_17 : ∃ g_, f14 = upd g_ 5 (i64 (hErrB need 0)) := ⟨f14, upd_id e13⟩
 obtain ⟨f16, rfl⟩ := ob_17
 clear e12 e13
 have hs_w10 : w.heap.size ≤ w10.heap.size := Chg.size C_w10
 refine go_seq ?_
 refine go_region 1 rfl rfl ?_
 refine s_val rfl rfl (r_lss rfl rfl) rfl ?_
 refine s_end ?_
 refine go_seq ?_
 refine go_ifb _ rfl (fun h18 => ?_) (fun h18 => ?_)
 ·first | replace h18 := dcT h18 | replace h18 := dcF (nt h18) | skip
  exfalso
  omega
 ·first | replace h18 := dcF h18 | replace h18 := dcT (nf h18) | skip
  refine go_exit (loop_exit (block_hit ?_))
  refine go_seq ?_
  refine go_region 2 rfl rfl ?_
  refine s_val rfl rfl (r_move) rfl ?_
  refine s_val rfl rfl (r_assign) rfl ?_
  refine s_end ?_
  refine go_ret ?_
  refine ⟨_, .cons rfl (.nil), ?_⟩
  exact ⟨rfl, C_w10⟩
end Go.Proofs.YtippcmedgfmgbaaGreat
end
