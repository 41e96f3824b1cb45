/- YtippcmedgfmgbaaGreatP15: a calculus of walks, plain facts of the numbers that are shared, and contracts of functions of the program: called in any world that meets a contract's premises, a function returns what the contract says and changes no more than it says. -/
import Derived.Test.YtippcmedgfmgbaaGreatP02
import Derived.Test.YtippcmedgfmgbaaGreatP09
import Derived.Test.YtippcmedgfmgbaaGreatP10
import Derived.Test.YtippcmedgfmgbaaGreatP14
import Derived.Test.YtippcmedgfmgbaaGreatChecked
import Derived.OpenVars
import Derived.Below
import Derived.ChangeSame
import Derived.OpenShut
import Derived.JoinedCond
import Derived.DataReads
import Derived.Deep.Slices
section
open Go Go.Eng Go.Proofs
namespace Go.Proofs.YtippcmedgfmgbaaGreat
set_option maxHeartbeats 8000000 in
set_option maxRecDepth 100000 in
theorem law7_spec (secret seed : List UInt8) (need : Nat) (H : List (List UInt8)) (aH : Option Addr) (n cH : Nat) (at_ oct by_ : Int) (w : World) (hk : secret.length = 32) (hs : seed.length = 32) (hH : H.length = n) (hA16 : All16 H) (hby : 0 ≤ by_) (h0 : 0 < need) (hnn : need ≤ n) (hb : n ≤ 32) (hord : ordTo H n = false) (h7 : 7 < n) (hslH : SlAt w aH (bs H.flatten)) :
  Rtn Tryz.prog 3 [.agg (bs secret).toArray, i64 (need : Nat), Value.slice aH n cH, .agg (bs seed).toArray, i64 at_, i64 oct, .int .u16 by_].toArray w (fun v w' => v = .bool true ∧ Kept w w') := by
 refine fn_body (l := [.agg (bs secret).toArray, i64 (need : Nat), Value.slice aH n cH, .agg (bs seed).toArray, i64 at_, i64 oct, .int .u16 by_]) 170 [.tmp 14] Tryz.func3 rfl Tryz.ntmps3 (Nat.le_of_ble_eq_true rfl) (by rw [Tryz.results3]) ?_
 refine go_seq ?_
 refine go_region 3 rfl rfl ?_
 refine s_do rfl rfl (w_boxA rfl) rfl ?_
 rintro _ w1 ⟨b2, rfl, hl_b2, hu_b2, p3, c_w1⟩
 have hs_w1 : w.heap.size ≤ w1.heap.size := Chg.size c_w1
 have C_w1 := Chg.pure (Chg.refl no w) c_w1
 have hn_b2 : w.heap.size ≤ b2 := by have := Chg.size C_w1; omega
 refine s_do rfl rfl (w_boxA rfl) rfl ?_
 rintro _ w4 ⟨b5, rfl, hl_b5, hu_b5, p6, c_w4⟩
 have hs_w4 : w1.heap.size ≤ w4.heap.size := Chg.size c_w4
 replace p3 := p3.k c_w4
 have C_w4 := Chg.pure C_w1 c_w4
 have hn_b5 : w.heap.size ≤ b5 := by have := Chg.size C_w4; omega
 refine s_val rfl rfl (r_assign) rfl ?_
 refine s_end ?_
 refine go_seq ?_
 refine go_region 13 rfl rfl ?_
 refine s_val rfl rfl (r_loadN Tryz.isAgg23 Tryz.sizeOf23 rfl p3.rd (bs_len (by first | omega | (simp; try omega)))) rfl ?_
 refine s_val rfl rfl (r_move) rfl ?_
 refine s_val rfl rfl (r_move) rfl ?_
 refine s_val rfl rfl (r_loadN Tryz.isAgg23 Tryz.sizeOf23 rfl p6.rd (bs_len (by first | omega | (simp; try omega)))) rfl ?_
 have hcall_ := splitRoot_spec secret seed need H aH n cH w4 hk hs h0 hnn hb hH hA16 hord (hslH.k C_w4)
 have hhc_ := hashB_length 7 (comB secret)
 refine s_do rfl rfl (w_call Tryz.call4 rfl hcall_) rfl ?_
 rintro _ w7 ⟨bS, rfl, hl_bS, hu_bS, hS, c_w7⟩
 clear hcall_
 have hs_w7 : w4.heap.size ≤ w7.heap.size := Chg.size c_w7
 replace p3 := p3.k c_w7
 replace p6 := p6.k c_w7
 have C_w7 := Chg.pure C_w4 c_w7
 have hn_bS : w.heap.size ≤ bS := by have := Chg.size C_w7; omega
 refine s_val rfl rfl (r_move) rfl ?_
 refine s_val rfl rfl (r_extract rfl rfl) rfl ?_
 refine s_val rfl rfl (r_extract rfl rfl) rfl ?_
 refine s_val rfl rfl (r_extract rfl rfl) rfl ?_
 refine s_do rfl rfl (w_alloc (bs (List.replicate 32 0)) Tryz.zeroValue27 (by kernel_rfl)) rfl ?_
 rintro _ w8 ⟨b9, rfl, hl_b9, hu_b9, p10, c_w8⟩
 have hs_w8 : w7.heap.size ≤ w8.heap.size := Chg.size c_w8
 replace p3 := p3.k c_w8
 replace p6 := p6.k c_w8
 replace hS := hS.k c_w8
 have C_w8 := Chg.pure C_w7 c_w8
 have hn_b9 : w.heap.size ≤ b9 := by have := Chg.size C_w8; omega
 refine s_val rfl rfl (r_assign) rfl ?_
 refine s_do rfl rfl (w_storeA (o := 0) Tryz.sizeOf27 rfl rfl (bs_len (by first | omega | (simp; try omega))) (flat_bs _) p10 (bs_len (by first | omega | (simp; try omega)))) rfl ?_
 rintro _ w11 ⟨q_w11, c_w11⟩
 have hs_w11 : w8.heap.size ≤ w11.heap.size := Chg.size c_w11
 replace p3 := p3.kb c_w11 (by omega)
 replace p6 := p6.kb c_w11 (by omega)
 replace hS := hS.kb c_w11 (by omega)
 have C_w11 := Chg.newRng C_w8 c_w11 (by omega)
 have p10 := q_w11
 refine s_val rfl rfl (r_assign) rfl ?_
 refine s_end ?_
 refine go_seq ?_
 refine go_region 4 rfl rfl ?_
 refine s_val rfl rfl (r_move) rfl ?_
 refine s_val rfl rfl (r_move) rfl ?_
 have hcall_ := holdE_spec ((need : Nat) : Int) H aH n cH w11 (by omega) hH hA16 (hslH.k C_w11)
 rw [show hErrTo ((need : Nat) : Int) n H n = 0 from hErr_ok h0 hnn hb hord] at hcall_
 refine s_do rfl rfl (w_call Tryz.call5 rfl hcall_) rfl ?_
 rintro _ w12 ⟨rfl, c_w12⟩
 clear hcall_
 have hs_w12 : w11.heap.size ≤ w12.heap.size := Chg.size c_w12
 replace p3 := p3.k c_w12
 replace p6 := p6.k c_w12
 replace hS := hS.k c_w12
 replace p10 := p10.k c_w12
 have C_w12 := Chg.pure C_w11 c_w12
 refine s_val rfl rfl (r_assign) rfl ?_
 refine s_end ?_
 refine go_seq ?_
 refine go_seq ?_
 refine go_region 6 rfl rfl ?_
 refine s_do rfl rfl (w_call Tryz.call6 rfl (vaults_spec _)) rfl ?_
 rintro _ w13 ⟨rfl, c_w13⟩
 have hs_w13 : w12.heap.size ≤ w13.heap.size := Chg.size c_w13
 replace p3 := p3.k c_w13
 replace p6 := p6.k c_w13
 replace hS := hS.k c_w13
 replace p10 := p10.k c_w13
 have C_w13 := Chg.pure C_w12 c_w13
 refine s_val rfl rfl (r_not rfl) rfl ?_
 refine s_val rfl rfl (r_move) rfl ?_
 refine s_val_g rfl rfl (r_move) rfl ?_
 refine s_val_g rfl rfl (r_neq rfl rfl) rfl ?_
 refine s_val rfl rfl (r_pick false rfl) rfl ?_
 refine s_end ?_
 refine go_ifb _ rfl (fun h14 => ?_) (fun h14 => ?_)
 ·first | replace h14 := dcT h14 | replace h14 := dcF (nt h14) | skip
  exfalso
  omega
 ·first | replace h14 := dcF h14 | replace h14 := dcT (nf h14) | skip
  refine go_skip ?_
  refine go_seq ?_
  refine go_region 8 rfl rfl ?_
  refine s_val rfl rfl (r_loadN Tryz.isAgg23 Tryz.sizeOf23 rfl p3.rd (bs_len (by first | omega | (simp; try omega)))) rfl ?_
  have hhr_w15 := hashB_length 7 (comB secret)
  refine s_do rfl rfl (w_call Tryz.call7 rfl (commitR_spec secret _ hk)) rfl ?_
  rintro _ w15 ⟨rfl, c_w15⟩
  have hs_w15 : w13.heap.size ≤ w15.heap.size := Chg.size c_w15
  replace p3 := p3.k c_w15
  replace p6 := p6.k c_w15
  replace hS := hS.k c_w15
  replace p10 := p10.k c_w15
  have C_w15 := Chg.pure C_w13 c_w15
  refine s_val rfl rfl (r_move) rfl ?_
  refine s_val rfl rfl (r_extract rfl rfl) rfl ?_
  refine s_val rfl rfl (r_extract rfl rfl) rfl ?_
  refine s_do rfl rfl (w_alloc (bs (List.replicate 32 0)) Tryz.zeroValue27 (by kernel_rfl)) rfl ?_
  rintro _ w16 ⟨b17, rfl, hl_b17, hu_b17, p18, c_w16⟩
  have hs_w16 : w15.heap.size ≤ w16.heap.size := Chg.size c_w16
  replace p3 := p3.k c_w16
  replace p6 := p6.k c_w16
  replace hS := hS.k c_w16
  replace p10 := p10.k c_w16
  have C_w16 := Chg.pure C_w15 c_w16
  have hn_b17 : w.heap.size ≤ b17 := by have := Chg.size C_w16; omega
  refine s_do rfl rfl (w_storeA (o := 0) Tryz.sizeOf27 rfl rfl (bs_len (by first | omega | (simp; try omega))) (flat_bs _) p18 (bs_len (by first | omega | (simp; try omega)))) rfl ?_
  rintro _ w19 ⟨q_w19, c_w19⟩
  have hs_w19 : w16.heap.size ≤ w19.heap.size := Chg.size c_w19
  replace p3 := p3.kb c_w19 (by omega)
  replace p6 := p6.kb c_w19 (by omega)
  replace hS := hS.kb c_w19 (by omega)
  replace p10 := p10.kb c_w19 (by omega)
  have C_w19 := Chg.newRng C_w16 c_w19 (by omega)
  have p18 := q_w19
  refine s_val rfl rfl (r_assign) rfl ?_
  refine s_end ?_
  refine go_seq ?_
  refine go_seq ?_
  refine go_region 17 rfl rfl ?_
  refine s_val rfl rfl (r_move) rfl ?_
  refine s_val rfl rfl (r_neq rfl rfl) rfl ?_
  refine s_valB rfl rfl (r_move) rfl (fun h20 => ?_) (fun h20 => ?_)
  ·first | replace h20 := dcT h20 | replace h20 := dcF (nt h20) | skip
   exfalso
   omega
  ·first | replace h20 := dcF h20 | replace h20 := dcT (nf h20) | skip
   refine s_val_g rfl rfl (r_loadN Tryz.isAgg27 Tryz.sizeOf27 rfl p10.rd (bs_len (by first | omega | (simp; try omega)))) rfl ?_
   refine s_val_g rfl rfl (r_loadN Tryz.isAgg27 Tryz.sizeOf27 rfl p18.rd (bs_len (by first | omega | (simp; try omega)))) rfl ?_
   refine s_val_g rfl rfl (r_neqArr Tryz.underlying27 Tryz.underlying5 Tryz.sizeOf5 rfl rfl hhc_ hhc_ (by kernel_rfl)) rfl ?_
   refine s_val rfl rfl (r_pick false rfl) rfl ?_
   refine s_valB rfl rfl (r_move) rfl (fun h21 => ?_) (fun h21 => ?_)
   ·first | replace h21 := dcT h21 | replace h21 := dcF (nt h21) | skip
    exfalso
    exact h21 rfl
   ·first | replace h21 := dcF h21 | replace h21 := dcT (nf h21) | skip
    refine s_val_g rfl rfl (r_move) rfl ?_
    refine s_val_g rfl rfl (r_loadN Tryz.isAgg23 Tryz.sizeOf23 rfl p3.rd (bs_len (by first | omega | (simp; try omega)))) rfl ?_
    refine s_val_g rfl rfl (r_move) rfl ?_
    refine s_val_g rfl rfl (r_move) rfl ?_
    refine s_val_g rfl rfl (r_loadN Tryz.isAgg23 Tryz.sizeOf23 rfl p6.rd (bs_len (by first | omega | (simp; try omega)))) rfl ?_
    have hcall_ := splitOf_spec secret seed need H aH n cH w19 hk hs h0 hnn hb hH hA16 (hslH.k C_w19)
    refine s_do_g rfl rfl (w_call Tryz.call9 rfl hcall_) rfl ?_
    rintro _ w22 ⟨aO, cO, rfl, hcO, hO, c_w22⟩
    clear hcall_
    replace hO : SlAt w22 aO (scells (valS secret seed need n H)) := hO
    have hs_w22 : w19.heap.size ≤ w22.heap.size := Chg.size c_w22
    replace p3 := p3.k c_w22
    replace p6 := p6.k c_w22
    replace hS := hS.k c_w22
    replace p10 := p10.k c_w22
    replace p18 := p18.k c_w22
    have C_w22 := Chg.pure C_w19 c_w22
    refine s_do_g rfl rfl (w_call Tryz.call8 rfl (eqSh_spec (valS secret seed need n H) _ _ n _ _ _ valS_len (by omega) (valS_ok hA16 hH) (SlAt.some hS.rd) hO)) rfl ?_
    rintro _ w23 ⟨rfl, c_w23⟩
    have hs_w23 : w22.heap.size ≤ w23.heap.size := Chg.size c_w23
    replace p3 := p3.k c_w23
    replace p6 := p6.k c_w23
    replace hS := hS.k c_w23
    replace p10 := p10.k c_w23
    replace p18 := p18.k c_w23
    have C_w23 := Chg.pure C_w22 c_w23
    refine s_val_g rfl rfl (r_not rfl) rfl ?_
    refine s_val rfl rfl (r_pick false rfl) rfl ?_
    refine s_end ?_
    refine go_false rfl ?_
    refine go_skip ?_
    refine go_seq ?_
    refine go_seq ?_
    refine go_region 3 rfl rfl ?_
    refine s_val rfl rfl (r_move) rfl ?_
    refine s_val rfl rfl (r_len Tryz.runUnderlying26 rfl) rfl ?_
    refine s_val rfl rfl (r_gtr rfl rfl) rfl ?_
    refine s_end ?_
    refine go_ifb _ rfl (fun h24 => ?_) (fun h24 => ?_)
    ·first | replace h24 := dcT h24 | replace h24 := dcF (nt h24) | skip
     refine go_seq ?_
     refine go_region 1 rfl rfl ?_
     refine s_val rfl rfl (r_assign) rfl ?_
     refine s_end ?_
     refine go_ret ?_
     refine ⟨_, .cons rfl (.nil), ?_⟩
     exact ⟨rfl, C_w23⟩
    ·first | replace h24 := dcF h24 | replace h24 := dcT (nf h24) | skip
     exfalso
     omega
end Go.Proofs.YtippcmedgfmgbaaGreat
end
section
open Go Go.Eng Go.Proofs
namespace Go.Proofs.YtippcmedgfmgbaaGreat
set_option maxHeartbeats 8000000 in
set_option maxRecDepth 100000 in
theorem lawN_spec (secret seed : List UInt8) (need : Nat) (H : List (List UInt8)) (aH : Option Addr) (n cH : Nat) (at_ oct by_ : Int) (w : World) (hk : secret.length = 32) (hs : seed.length = 32) (hH : H.length = n) (hA16 : All16 H) (hby : 0 ≤ by_) (h0 : 0 < need) (hnn : need ≤ n) (hb : n ≤ 32) (hord : ordTo H n = false) (h7 : ¬ 7 < n) (hm : mendP need (chgS secret seed need n H at_ oct by_) = none) (hslH : SlAt w aH (bs H.flatten)) :
  Rtn Tryz.prog 3 [.agg (bs secret).toArray, i64 (need : Nat), Value.slice aH n cH, .agg (bs seed).toArray, i64 at_, i64 oct, .int .u16 by_].toArray w (fun v w' => v = .bool true ∧ Kept w w') := by
 have hi_ := idxN_lt at_ (n := n) (by omega)
 have ho_ := idxN_lt oct (n := 32) (by decide)
 have hxn_ := chgS_xn (secret := secret) (seed := seed) (need := need) (H := H) (at_ := at_) (oct := oct) (by_ := by_) (show 0 < n by omega) hb
 have hhz_ := hashB_length 7 (comB (List.replicate 32 0))
 refine fn_body (l := [.agg (bs secret).toArray, i64 (need : Nat), Value.slice aH n cH, .agg (bs seed).toArray, i64 at_, i64 oct, .int .u16 by_]) 170 [.tmp 14] Tryz.func3 rfl Tryz.ntmps3 (Nat.le_of_ble_eq_true rfl) (by rw [Tryz.results3]) ?_
 refine go_seq ?_
 refine go_region 3 rfl rfl ?_
 refine s_do rfl rfl (w_boxA rfl) rfl ?_
 rintro _ w1 ⟨b2, rfl, hl_b2, hu_b2, p3, c_w1⟩
 have hs_w1 : w.heap.size ≤ w1.heap.size := Chg.size c_w1
 have C_w1 := Chg.pure (Chg.refl no w) c_w1
 have hn_b2 : w.heap.size ≤ b2 := by have := Chg.size C_w1; omega
 refine s_do rfl rfl (w_boxA rfl) rfl ?_
 rintro _ w4 ⟨b5, rfl, hl_b5, hu_b5, p6, c_w4⟩
 have hs_w4 : w1.heap.size ≤ w4.heap.size := Chg.size c_w4
 replace p3 := p3.k c_w4
 have C_w4 := Chg.pure C_w1 c_w4
 have hn_b5 : w.heap.size ≤ b5 := by have := Chg.size C_w4; omega
 refine s_val rfl rfl (r_assign) rfl ?_
 refine s_end ?_
 refine go_seq ?_
 refine go_region 13 rfl rfl ?_
 refine s_val rfl rfl (r_loadN Tryz.isAgg23 Tryz.sizeOf23 rfl p3.rd (bs_len (by first | omega | (simp; try omega)))) rfl ?_
 refine s_val rfl rfl (r_move) rfl ?_
 refine s_val rfl rfl (r_move) rfl ?_
 refine s_val rfl rfl (r_loadN Tryz.isAgg23 Tryz.sizeOf23 rfl p6.rd (bs_len (by first | omega | (simp; try omega)))) rfl ?_
 have hcall_ := splitRoot_spec secret seed need H aH n cH w4 hk hs h0 hnn hb hH hA16 hord (hslH.k C_w4)
 have hhc_ := hashB_length 7 (comB secret)
 refine s_do rfl rfl (w_call Tryz.call4 rfl hcall_) rfl ?_
 rintro _ w7 ⟨bS, rfl, hl_bS, hu_bS, hS, c_w7⟩
 clear hcall_
 have hs_w7 : w4.heap.size ≤ w7.heap.size := Chg.size c_w7
 replace p3 := p3.k c_w7
 replace p6 := p6.k c_w7
 have C_w7 := Chg.pure C_w4 c_w7
 have hn_bS : w.heap.size ≤ bS := by have := Chg.size C_w7; omega
 refine s_val rfl rfl (r_move) rfl ?_
 refine s_val rfl rfl (r_extract rfl rfl) rfl ?_
 refine s_val rfl rfl (r_extract rfl rfl) rfl ?_
 refine s_val rfl rfl (r_extract rfl rfl) rfl ?_
 refine s_do rfl rfl (w_alloc (bs (List.replicate 32 0)) Tryz.zeroValue27 (by kernel_rfl)) rfl ?_
 rintro _ w8 ⟨b9, rfl, hl_b9, hu_b9, p10, c_w8⟩
 have hs_w8 : w7.heap.size ≤ w8.heap.size := Chg.size c_w8
 replace p3 := p3.k c_w8
 replace p6 := p6.k c_w8
 replace hS := hS.k c_w8
 have C_w8 := Chg.pure C_w7 c_w8
 have hn_b9 : w.heap.size ≤ b9 := by have := Chg.size C_w8; omega
 refine s_val rfl rfl (r_assign) rfl ?_
 refine s_do rfl rfl (w_storeA (o := 0) Tryz.sizeOf27 rfl rfl (bs_len (by first | omega | (simp; try omega))) (flat_bs _) p10 (bs_len (by first | omega | (simp; try omega)))) rfl ?_
 rintro _ w11 ⟨q_w11, c_w11⟩
 have hs_w11 : w8.heap.size ≤ w11.heap.size := Chg.size c_w11
 replace p3 := p3.kb c_w11 (by omega)
 replace p6 := p6.kb c_w11 (by omega)
 replace hS := hS.kb c_w11 (by omega)
 have C_w11 := Chg.newRng C_w8 c_w11 (by omega)
 have p10 := q_w11
 refine s_val rfl rfl (r_assign) rfl ?_
 refine s_end ?_
 refine go_seq ?_
 refine go_region 4 rfl rfl ?_
 refine s_val rfl rfl (r_move) rfl ?_
 refine s_val rfl rfl (r_move) rfl ?_
 have hcall_ := holdE_spec ((need : Nat) : Int) H aH n cH w11 (by omega) hH hA16 (hslH.k C_w11)
 rw [show hErrTo ((need : Nat) : Int) n H n = 0 from hErr_ok h0 hnn hb hord] at hcall_
 refine s_do rfl rfl (w_call Tryz.call5 rfl hcall_) rfl ?_
 rintro _ w12 ⟨rfl, c_w12⟩
 clear hcall_
 have hs_w12 : w11.heap.size ≤ w12.heap.size := Chg.size c_w12
 replace p3 := p3.k c_w12
 replace p6 := p6.k c_w12
 replace hS := hS.k c_w12
 replace p10 := p10.k c_w12
 have C_w12 := Chg.pure C_w11 c_w12
 refine s_val rfl rfl (r_assign) rfl ?_
 refine s_end ?_
 refine go_seq ?_
 refine go_seq ?_
 refine go_region 6 rfl rfl ?_
 refine s_do rfl rfl (w_call Tryz.call6 rfl (vaults_spec _)) rfl ?_
 rintro _ w13 ⟨rfl, c_w13⟩
 have hs_w13 : w12.heap.size ≤ w13.heap.size := Chg.size c_w13
 replace p3 := p3.k c_w13
 replace p6 := p6.k c_w13
 replace hS := hS.k c_w13
 replace p10 := p10.k c_w13
 have C_w13 := Chg.pure C_w12 c_w13
 refine s_val rfl rfl (r_not rfl) rfl ?_
 refine s_val rfl rfl (r_move) rfl ?_
 refine s_val_g rfl rfl (r_move) rfl ?_
 refine s_val_g rfl rfl (r_neq rfl rfl) rfl ?_
 refine s_val rfl rfl (r_pick false rfl) rfl ?_
 refine s_end ?_
 refine go_ifb _ rfl (fun h14 => ?_) (fun h14 => ?_)
 ·first | replace h14 := dcT h14 | replace h14 := dcF (nt h14) | skip
  exfalso
  omega
 ·first | replace h14 := dcF h14 | replace h14 := dcT (nf h14) | skip
  refine go_skip ?_
  refine go_seq ?_
  refine go_region 8 rfl rfl ?_
  refine s_val rfl rfl (r_loadN Tryz.isAgg23 Tryz.sizeOf23 rfl p3.rd (bs_len (by first | omega | (simp; try omega)))) rfl ?_
  have hhr_w15 := hashB_length 7 (comB secret)
  refine s_do rfl rfl (w_call Tryz.call7 rfl (commitR_spec secret _ hk)) rfl ?_
  rintro _ w15 ⟨rfl, c_w15⟩
  have hs_w15 : w13.heap.size ≤ w15.heap.size := Chg.size c_w15
  replace p3 := p3.k c_w15
  replace p6 := p6.k c_w15
  replace hS := hS.k c_w15
  replace p10 := p10.k c_w15
  have C_w15 := Chg.pure C_w13 c_w15
  refine s_val rfl rfl (r_move) rfl ?_
  refine s_val rfl rfl (r_extract rfl rfl) rfl ?_
  refine s_val rfl rfl (r_extract rfl rfl) rfl ?_
  refine s_do rfl rfl (w_alloc (bs (List.replicate 32 0)) Tryz.zeroValue27 (by kernel_rfl)) rfl ?_
  rintro _ w16 ⟨b17, rfl, hl_b17, hu_b17, p18, c_w16⟩
  have hs_w16 : w15.heap.size ≤ w16.heap.size := Chg.size c_w16
  replace p3 := p3.k c_w16
  replace p6 := p6.k c_w16
  replace hS := hS.k c_w16
  replace p10 := p10.k c_w16
  have C_w16 := Chg.pure C_w15 c_w16
  have hn_b17 : w.heap.size ≤ b17 := by have := Chg.size C_w16; omega
  refine s_do rfl rfl (w_storeA (o := 0) Tryz.sizeOf27 rfl rfl (bs_len (by first | omega | (simp; try omega))) (flat_bs _) p18 (bs_len (by first | omega | (simp; try omega)))) rfl ?_
  rintro _ w19 ⟨q_w19, c_w19⟩
  have hs_w19 : w16.heap.size ≤ w19.heap.size := Chg.size c_w19
  replace p3 := p3.kb c_w19 (by omega)
  replace p6 := p6.kb c_w19 (by omega)
  replace hS := hS.kb c_w19 (by omega)
  replace p10 := p10.kb c_w19 (by omega)
  have C_w19 := Chg.newRng C_w16 c_w19 (by omega)
  have p18 := q_w19
  refine s_val rfl rfl (r_assign) rfl ?_
  refine s_end ?_
  refine go_seq ?_
  refine go_seq ?_
  refine go_region 17 rfl rfl ?_
  refine s_val rfl rfl (r_move) rfl ?_
  refine s_val rfl rfl (r_neq rfl rfl) rfl ?_
  refine s_valB rfl rfl (r_move) rfl (fun h20 => ?_) (fun h20 => ?_)
  ·first | replace h20 := dcT h20 | replace h20 := dcF (nt h20) | skip
   exfalso
   omega
  ·first | replace h20 := dcF h20 | replace h20 := dcT (nf h20) | skip
   refine s_val_g rfl rfl (r_loadN Tryz.isAgg27 Tryz.sizeOf27 rfl p10.rd (bs_len (by first | omega | (simp; try omega)))) rfl ?_
   refine s_val_g rfl rfl (r_loadN Tryz.isAgg27 Tryz.sizeOf27 rfl p18.rd (bs_len (by first | omega | (simp; try omega)))) rfl ?_
   refine s_val_g rfl rfl (r_neqArr Tryz.underlying27 Tryz.underlying5 Tryz.sizeOf5 rfl rfl hhc_ hhc_ (by kernel_rfl)) rfl ?_
   refine s_val rfl rfl (r_pick false rfl) rfl ?_
   refine s_valB rfl rfl (r_move) rfl (fun h21 => ?_) (fun h21 => ?_)
   ·first | replace h21 := dcT h21 | replace h21 := dcF (nt h21) | skip
    exfalso
    exact h21 rfl
   ·first | replace h21 := dcF h21 | replace h21 := dcT (nf h21) | skip
    refine s_val_g rfl rfl (r_move) rfl ?_
    refine s_val_g rfl rfl (r_loadN Tryz.isAgg23 Tryz.sizeOf23 rfl p3.rd (bs_len (by first | omega | (simp; try omega)))) rfl ?_
    refine s_val_g rfl rfl (r_move) rfl ?_
    refine s_val_g rfl rfl (r_move) rfl ?_
    refine s_val_g rfl rfl (r_loadN Tryz.isAgg23 Tryz.sizeOf23 rfl p6.rd (bs_len (by first | omega | (simp; try omega)))) rfl ?_
    have hcall_ := splitOf_spec secret seed need H aH n cH w19 hk hs h0 hnn hb hH hA16 (hslH.k C_w19)
    refine s_do_g rfl rfl (w_call Tryz.call9 rfl hcall_) rfl ?_
    rintro _ w22 ⟨aO, cO, rfl, hcO, hO, c_w22⟩
    clear hcall_
    replace hO : SlAt w22 aO (scells (valS secret seed need n H)) := hO
    have hs_w22 : w19.heap.size ≤ w22.heap.size := Chg.size c_w22
    replace p3 := p3.k c_w22
    replace p6 := p6.k c_w22
    replace hS := hS.k c_w22
    replace p10 := p10.k c_w22
    replace p18 := p18.k c_w22
    have C_w22 := Chg.pure C_w19 c_w22
    refine s_do_g rfl rfl (w_call Tryz.call8 rfl (eqSh_spec (valS secret seed need n H) _ _ n _ _ _ valS_len (by omega) (valS_ok hA16 hH) (SlAt.some hS.rd) hO)) rfl ?_
    rintro _ w23 ⟨rfl, c_w23⟩
    have hs_w23 : w22.heap.size ≤ w23.heap.size := Chg.size c_w23
    replace p3 := p3.k c_w23
    replace p6 := p6.k c_w23
    replace hS := hS.k c_w23
    replace p10 := p10.k c_w23
    replace p18 := p18.k c_w23
    have C_w23 := Chg.pure C_w22 c_w23
    refine s_val_g rfl rfl (r_not rfl) rfl ?_
    refine s_val rfl rfl (r_pick false rfl) rfl ?_
    refine s_end ?_
    refine go_false rfl ?_
    refine go_skip ?_
    refine go_seq ?_
    refine go_seq ?_
    refine go_region 3 rfl rfl ?_
    refine s_val rfl rfl (r_move) rfl ?_
    refine s_val rfl rfl (r_len Tryz.runUnderlying26 rfl) rfl ?_
    refine s_val rfl rfl (r_gtr rfl rfl) rfl ?_
    refine s_end ?_
    refine go_ifb _ rfl (fun h24 => ?_) (fun h24 => ?_)
    ·first | replace h24 := dcT h24 | replace h24 := dcF (nt h24) | skip
     exfalso
     omega
    ·first | replace h24 := dcF h24 | replace h24 := dcT (nf h24) | skip
     refine go_skip ?_
     refine go_seq ?_
     refine go_region 10 rfl rfl ?_
     refine s_val rfl rfl (r_move) rfl ?_
     refine s_val rfl rfl (r_move) rfl ?_
     refine s_val rfl rfl (r_conv_u64 Tryz.runUnderlying3 Tryz.runUnderlying43 rfl) rfl ?_
     refine s_val rfl rfl (r_move) rfl ?_
     refine s_val rfl rfl (r_len Tryz.runUnderlying26 rfl) rfl ?_
     refine s_val rfl rfl (r_conv_u64 Tryz.runUnderlying3 Tryz.runUnderlying43 rfl) rfl ?_
     refine s_val rfl rfl (r_rem64 rfl rfl (by rw [show (w64 ((n : Nat) : Int)).toNat = n from w64_toNat _ (by omega)]; omega)) rfl ?_
     refine s_val rfl rfl (r_convN (N := (idxN at_ n)) Tryz.runUnderlying43 Tryz.runUnderlying3 rfl (idx_eq _ _ (by omega)) (by omega)) rfl ?_
     refine s_val rfl rfl (r_indexSlQ (k := (idxN at_ n)) Tryz.runUnderlying26 Tryz.sizeOf40 rfl rfl (by first | rfl | omega) (by omega)) rfl ?_
     refine s_val rfl rfl (r_assign) rfl ?_
     refine s_end ?_
     refine go_seq ?_
     refine go_region 5 rfl rfl ?_
     refine s_val rfl rfl (r_move) rfl ?_
     refine s_val rfl rfl (r_conv_u64 Tryz.runUnderlying3 Tryz.runUnderlying43 rfl) rfl ?_
     refine s_val rfl rfl (r_rem64 (q := w64 ((32 : Nat) : Int)) rfl rfl (by decide)) rfl ?_
     refine s_val rfl rfl (r_convN (N := (idxN oct 32)) Tryz.runUnderlying43 Tryz.runUnderlying3 rfl (idx_eq _ 32 (by decide)) (by omega)) rfl ?_
     refine s_val rfl rfl (r_assign) rfl ?_
     refine s_end ?_
     refine go_seq ?_
     refine go_drawsE 14 (.take 0 (.take 1 (.take 2 (.take 3 (.take 4 (.take 5 (.take 6 (.take 7 (.take 8 (.take 9 (.take 10 (.take 11 (.take 12 (.take 13 (.eff 14 (.eff 15 .done)))))))))))))))) (by kernel_rfl) (by kernel_rfl) fun w25 c_w25 => ?_
     have hs_w25 : w23.heap.size ≤ w25.heap.size := Chg.size c_w25
     replace p3 := p3.k c_w25
     replace p6 := p6.k c_w25
     replace hS := hS.k c_w25
     replace p10 := p10.k c_w25
     replace p18 := p18.k c_w25
     have C_w25 := Chg.pure C_w23 c_w25
     refine s_takeE rfl rfl (r_move) ?_
     refine s_takeE rfl rfl (r_move) ?_
     refine s_takeE rfl rfl (r_move) ?_
     refine s_takeE rfl rfl (r_move) ?_
     refine s_takeE rfl rfl (r_nilCheck rfl) ?_
     refine s_takeE rfl rfl (r_fieldAddr Tryz.runUnderlying40 rfl Tryz.sizeOf38 rfl rfl) ?_
     refine s_takeE rfl rfl (r_indexArr (k := (idxN oct 32)) Tryz.runUnderlying38 Tryz.sizeOf25 rfl rfl (by first | rfl | omega) (by omega)) ?_
     refine s_takeE rfl rfl (r_load1 Tryz.isAgg25 rfl (Rd.at1 (Rd.shrY (Rd.shr hS.rd (valS_ok hA16 hH) (by rw [valS_len]; exact hi_)) ((valS_ok hA16 hH).get (idxN at_ n))) (us_get (by rw [((valS_ok hA16 hH).get (idxN at_ n)).2]; exact ho_)))) ?_
     refine s_takeE rfl rfl (r_move) ?_
     refine s_takeE rfl rfl (r_remU (z := fI by_) rfl rfl hby rfl) ?_
     refine s_takeE rfl rfl (r_addU (a := (((valS secret seed need n H).getD (idxN at_ n) shr0).y.getD (idxN oct 32) 0)) (b := fI by_) rfl rfl) ?_
     refine s_takeE rfl rfl (r_remU (z := (((valS secret seed need n H).getD (idxN at_ n) shr0).y.getD (idxN oct 32) 0) + fI by_) rfl rfl (by omega) (fI_addval _ _)) ?_
     refine s_takeE rfl rfl (r_nilCheck rfl) ?_
     refine s_takeE rfl rfl (r_fieldAddr Tryz.runUnderlying40 rfl Tryz.sizeOf38 rfl rfl) ?_
     refine s_val rfl rfl (r_indexArr (k := (idxN oct 32)) Tryz.runUnderlying38 Tryz.sizeOf25 rfl rfl (by first | rfl | omega) (by omega)) rfl ?_
     refine s_do rfl rfl (w_setShrY (k := (idxN at_ n)) (j := (idxN oct 32)) (z := ((((valS secret seed need n H).getD (idxN at_ n) shr0).y.getD (idxN oct 32) 0) + fI by_)) Tryz.sizeOf25 rfl rfl hS (valS_ok hA16 hH) (by first | omega | (simp; omega)) (by omega)) rfl ?_
     rintro _ w26 ⟨q_w26, c_w26⟩
     have hs_w26 : w25.heap.size ≤ w26.heap.size := Chg.size c_w26
     replace p3 := p3.kb c_w26 (by omega)
     replace p6 := p6.kb c_w26 (by omega)
     replace p10 := p10.kb c_w26 (by omega)
     replace p18 := p18.kb c_w26 (by omega)
     have C_w26 := Chg.newRng C_w25 c_w26 (by omega)
     have hS := q_w26
     replace hS : Pc w26 bS 0 (scells (chgS secret seed need n H at_ oct by_)) := hS
     refine s_end ?_
     refine go_seq ?_
     refine go_region 12 rfl rfl ?_
     refine s_val rfl rfl (r_move) rfl ?_
     refine s_val rfl rfl (r_move) rfl ?_
     refine s_val rfl rfl (r_loadN Tryz.isAgg27 Tryz.sizeOf27 rfl p10.rd (bs_len (by first | omega | (simp; try omega)))) rfl ?_
     have hcall_ := joinN_spec (chgS secret seed need n H at_ oct by_) (some ⟨bS, 0, none⟩) n n need (hashB 7 (comB secret)) w26 chgS_len h0 hb hnn (chgS_ok hA16 hH) (chgS_x0 (by omega) hb) hxn_ (chgS_hn (by omega) hH hord) hhc_ hm (SlAt.some hS.rd)
     refine s_do rfl rfl (w_call Tryz.call10 rfl hcall_) rfl ?_
     rintro _ w27 ⟨rfl, c_w27⟩
     clear hcall_
     have hs_w27 : w26.heap.size ≤ w27.heap.size := Chg.size c_w27
     replace p3 := p3.k c_w27
     replace p6 := p6.k c_w27
     replace p10 := p10.k c_w27
     replace p18 := p18.k c_w27
     replace hS := hS.k c_w27
     have C_w27 := Chg.pure C_w26 c_w27
     refine s_val rfl rfl (r_move) rfl ?_
     refine s_val rfl rfl (r_extract rfl rfl) rfl ?_
     refine s_val rfl rfl (r_extract rfl rfl) rfl ?_
     refine s_val rfl rfl (r_extract rfl rfl) rfl ?_
     refine s_do rfl rfl (w_alloc (bs (List.replicate 32 0)) Tryz.zeroValue23 (by kernel_rfl)) rfl ?_
     rintro _ w28 ⟨b29, rfl, hl_b29, hu_b29, p30, c_w28⟩
     have hs_w28 : w27.heap.size ≤ w28.heap.size := Chg.size c_w28
     replace p3 := p3.k c_w28
     replace p6 := p6.k c_w28
     replace p10 := p10.k c_w28
     replace p18 := p18.k c_w28
     replace hS := hS.k c_w28
     have C_w28 := Chg.pure C_w27 c_w28
     have hn_b29 : w.heap.size ≤ b29 := by have := Chg.size C_w28; omega
     refine s_do rfl rfl (w_storeA (o := 0) Tryz.sizeOf23 rfl rfl (bs_len (by first | omega | (simp; try omega))) (flat_bs _) p30 (bs_len (by first | omega | (simp; try omega)))) rfl ?_
     rintro _ w31 ⟨q_w31, c_w31⟩
     have hs_w31 : w28.heap.size ≤ w31.heap.size := Chg.size c_w31
     replace p3 := p3.kb c_w31 (by omega)
     replace p6 := p6.kb c_w31 (by omega)
     replace p10 := p10.kb c_w31 (by omega)
     replace p18 := p18.kb c_w31 (by omega)
     replace hS := hS.kb c_w31 (by omega)
     have C_w31 := Chg.newRng C_w28 c_w31 (by omega)
     have p30 := q_w31
     refine s_val rfl rfl (r_assign) rfl ?_
     refine s_val rfl rfl (r_assign) rfl ?_
     refine s_end ?_
     refine go_seq ?_
     refine go_region 11 rfl rfl ?_
     refine s_val rfl rfl (r_move) rfl ?_
     refine s_val rfl rfl (r_move) rfl ?_
     replace hm := (mend_eq hxn_ (by rw [chgS_len]; exact hnn)).symm.trans hm
     have hcall_ := mendR_spec (chgS secret seed need n H at_ oct by_) (some ⟨bS, 0, none⟩) n n need w31 chgS_len h0 hb hnn (chgS_ok hA16 hH) hxn_ (SlAt.some hS.rd)
     refine s_do rfl rfl (w_call Tryz.call11 rfl hcall_) rfl ?_
     rintro v33 w32 ⟨_, hpN_, c_w32⟩
     clear hcall_
     have hp_ := hpN_ hm
     clear hpN_
     subst hp_
     have hs_w32 : w31.heap.size ≤ w32.heap.size := Chg.size c_w32
     replace p3 := p3.k c_w32
     replace p6 := p6.k c_w32
     replace p10 := p10.k c_w32
     replace p18 := p18.k c_w32
     replace hS := hS.k c_w32
     replace p30 := p30.k c_w32
     have C_w32 := Chg.pure C_w31 c_w32
     refine s_val rfl rfl (r_move) rfl ?_
     refine s_val rfl rfl (r_extract rfl rfl) rfl ?_
     refine s_val rfl rfl (r_extract rfl rfl) rfl ?_
     refine s_val rfl rfl (r_extract rfl rfl) rfl ?_
     refine s_do rfl rfl (w_alloc (bs (List.replicate 32 0)) Tryz.zeroValue23 (by kernel_rfl)) rfl ?_
     rintro _ w34 ⟨b35, rfl, hl_b35, hu_b35, p36, c_w34⟩
     have hs_w34 : w32.heap.size ≤ w34.heap.size := Chg.size c_w34
     replace p3 := p3.k c_w34
     replace p6 := p6.k c_w34
     replace p10 := p10.k c_w34
     replace p18 := p18.k c_w34
     replace hS := hS.k c_w34
     replace p30 := p30.k c_w34
     have C_w34 := Chg.pure C_w32 c_w34
     have hn_b35 : w.heap.size ≤ b35 := by have := Chg.size C_w34; omega
     refine s_do rfl rfl (w_storeA (o := 0) Tryz.sizeOf23 rfl rfl (bs_len (by first | omega | (simp; try omega))) (flat_bs _) p36 (bs_len (by first | omega | (simp; try omega)))) rfl ?_
     rintro _ w37 ⟨q_w37, c_w37⟩
     have hs_w37 : w34.heap.size ≤ w37.heap.size := Chg.size c_w37
     replace p3 := p3.kb c_w37 (by omega)
     replace p6 := p6.kb c_w37 (by omega)
     replace p10 := p10.kb c_w37 (by omega)
     replace p18 := p18.kb c_w37 (by omega)
     replace hS := hS.kb c_w37 (by omega)
     replace p30 := p30.kb c_w37 (by omega)
     have C_w37 := Chg.newRng C_w34 c_w37 (by omega)
     have p36 := q_w37
     refine s_val rfl rfl (r_assign) rfl ?_
     refine s_val rfl rfl (r_assign) rfl ?_
     refine s_end ?_
     refine go_seq ?_
     refine go_seq ?_
     refine go_region 8 rfl rfl ?_
     refine s_val rfl rfl (r_loadN Tryz.isAgg23 Tryz.sizeOf23 rfl p36.rd (bs_len (by first | omega | (simp; try omega)))) rfl ?_
     have hhr_w38 := hashB_length 7 (comB (List.replicate 32 0))
     refine s_do rfl rfl (w_call Tryz.call7 rfl (commitR_spec (List.replicate 32 0) _ List.length_replicate)) rfl ?_
     rintro _ w38 ⟨rfl, c_w38⟩
     have hs_w38 : w37.heap.size ≤ w38.heap.size := Chg.size c_w38
     replace p3 := p3.k c_w38
     replace p6 := p6.k c_w38
     replace p10 := p10.k c_w38
     replace p18 := p18.k c_w38
     replace hS := hS.k c_w38
     replace p30 := p30.k c_w38
     replace p36 := p36.k c_w38
     have C_w38 := Chg.pure C_w37 c_w38
     refine s_val rfl rfl (r_move) rfl ?_
     refine s_val rfl rfl (r_extract rfl rfl) rfl ?_
     refine s_val rfl rfl (r_extract rfl rfl) rfl ?_
     refine s_do rfl rfl (w_alloc (bs (List.replicate 32 0)) Tryz.zeroValue27 (by kernel_rfl)) rfl ?_
     rintro _ w39 ⟨b40, rfl, hl_b40, hu_b40, p41, c_w39⟩
     have hs_w39 : w38.heap.size ≤ w39.heap.size := Chg.size c_w39
     replace p3 := p3.k c_w39
     replace p6 := p6.k c_w39
     replace p10 := p10.k c_w39
     replace p18 := p18.k c_w39
     replace hS := hS.k c_w39
     replace p30 := p30.k c_w39
     replace p36 := p36.k c_w39
     have C_w39 := Chg.pure C_w38 c_w39
     have hn_b40 : w.heap.size ≤ b40 := by have := Chg.size C_w39; omega
     refine s_do rfl rfl (w_storeA (o := 0) Tryz.sizeOf27 rfl rfl (bs_len (by first | omega | (simp; try omega))) (flat_bs _) p41 (bs_len (by first | omega | (simp; try omega)))) rfl ?_
     rintro _ w42 ⟨q_w42, c_w42⟩
     have hs_w42 : w39.heap.size ≤ w42.heap.size := Chg.size c_w42
     replace p3 := p3.kb c_w42 (by omega)
     replace p6 := p6.kb c_w42 (by omega)
     replace p10 := p10.kb c_w42 (by omega)
     replace p18 := p18.kb c_w42 (by omega)
     replace hS := hS.kb c_w42 (by omega)
     replace p30 := p30.kb c_w42 (by omega)
     replace p36 := p36.kb c_w42 (by omega)
     have C_w42 := Chg.newRng C_w39 c_w42 (by omega)
     have p41 := q_w42
     refine s_val rfl rfl (r_assign) rfl ?_
     refine s_end ?_
     refine go_seq ?_
     refine go_region 7 rfl rfl ?_
     refine s_val rfl rfl (r_move) rfl ?_
     refine s_val rfl rfl (r_eql rfl rfl) rfl ?_
     refine s_valB rfl rfl (r_move) rfl (fun h43 => ?_) (fun h43 => ?_)
     ·first | replace h43 := dcT h43 | replace h43 := dcF (nt h43) | skip
      exfalso
      omega
     ·first | replace h43 := dcF h43 | replace h43 := dcT (nf h43) | skip
      refine s_val_not rfl rfl ?_
      refine s_val_not rfl rfl ?_
      refine s_val_not rfl rfl ?_
      refine s_val rfl rfl (r_pick false rfl) rfl ?_
      refine s_end ?_
      refine go_false rfl ?_
      refine go_skip ?_
      refine go_seq ?_
      refine go_seq ?_
      refine go_region 2 rfl rfl ?_
      refine s_val rfl rfl (r_move) rfl ?_
      refine s_val rfl rfl (r_neq rfl rfl) rfl ?_
      refine s_end ?_
      refine go_ifb _ rfl (fun h44 => ?_) (fun h44 => ?_)
      ·first | replace h44 := dcT h44 | replace h44 := dcF (nt h44) | skip
       refine go_seq ?_
       refine go_region 14 rfl rfl ?_
       refine s_val rfl rfl (r_loadN Tryz.isAgg23 Tryz.sizeOf23 rfl p30.rd (bs_len (by first | omega | (simp; try omega)))) rfl ?_
       refine s_val rfl rfl (r_buildA Tryz.zeroValue23 Tryz.runUnderlying23 Tryz.sizeOf5 (cs := bs (List.replicate 32 0)) (by kernel_rfl)) rfl ?_
       refine s_val rfl rfl (r_eqArr Tryz.underlying23 Tryz.underlying5 Tryz.sizeOf5 rfl rfl List.length_replicate List.length_replicate (by kernel_rfl)) rfl ?_
       refine s_valB rfl rfl (r_move) rfl (fun h45 => ?_) (fun h45 => ?_)
       ·first | replace h45 := dcT h45 | replace h45 := dcF (nt h45) | skip
        refine s_val_g rfl rfl (r_move) rfl ?_
        refine s_val_g rfl rfl (r_len Tryz.runUnderlying24 rfl) rfl ?_
        refine s_val_g rfl rfl (r_eql rfl rfl) rfl ?_
        refine s_val rfl rfl (r_pick true rfl) rfl ?_
        refine s_valB rfl rfl (r_move) rfl (fun h46 => ?_) (fun h46 => ?_)
        ·first | replace h46 := dcT h46 | replace h46 := dcF (nt h46) | skip
         refine s_val_g rfl rfl (r_move) rfl ?_
         refine s_val_g rfl rfl (r_move) rfl ?_
         refine s_val_g rfl rfl (r_eql rfl rfl) rfl ?_
         refine s_val rfl rfl (r_pick true rfl) rfl ?_
         refine s_val rfl rfl (r_assign) rfl ?_
         refine s_end ?_
         refine go_ret ?_
         refine ⟨_, .cons rfl (.nil), ?_⟩
         exact ⟨congrArg Value.bool (decide_eq_true rfl), C_w42⟩
        ·first | replace h46 := dcF h46 | replace h46 := dcT (nf h46) | skip
         exfalso
         omega
       ·first | replace h45 := dcF h45 | replace h45 := dcT (nf h45) | skip
        exfalso
        exact h45 rfl
      ·first | replace h44 := dcF h44 | replace h44 := dcT (nf h44) | skip
       exfalso
       omega
end Go.Proofs.YtippcmedgfmgbaaGreat
end
section
open Go Go.Eng Go.Proofs
namespace Go.Proofs.YtippcmedgfmgbaaGreat
set_option maxHeartbeats 8000000 in
set_option maxRecDepth 100000 in
theorem lawS_spec (secret seed : List UInt8) (need : Nat) (H : List (List UInt8)) (aH : Option Addr) (n cH : Nat) (at_ oct by_ : Int) (kS : List UInt8) (bad : List (List UInt8)) (w : World) (hk : secret.length = 32) (hs : seed.length = 32) (hH : H.length = n) (hA16 : All16 H) (hby : 0 ≤ by_) (h0 : 0 < need) (hnn : need ≤ n) (hb : n ≤ 32) (hord : ordTo H n = false) (h7 : ¬ 7 < n) (hm : mendP need (chgS secret seed need n H at_ oct by_) = some (kS, bad)) (hq : hashB 7 (comB kS) ≠ hashB 7 (comB secret)) (hslH : SlAt w aH (bs H.flatten)) :
  Rtn Tryz.prog 3 [.agg (bs secret).toArray, i64 (need : Nat), Value.slice aH n cH, .agg (bs seed).toArray, i64 at_, i64 oct, .int .u16 by_].toArray w (fun v w' => v = .bool true ∧ Kept w w') := by
 have hi_ := idxN_lt at_ (n := n) (by omega)
 have ho_ := idxN_lt oct (n := 32) (by decide)
 have hxn_ := chgS_xn (secret := secret) (seed := seed) (need := need) (H := H) (at_ := at_) (oct := oct) (by_ := by_) (show 0 < n by omega) hb
 have hhz_ := hashB_length 7 (comB (List.replicate 32 0))
 refine fn_body (l := [.agg (bs secret).toArray, i64 (need : Nat), Value.slice aH n cH, .agg (bs seed).toArray, i64 at_, i64 oct, .int .u16 by_]) 170 [.tmp 14] Tryz.func3 rfl Tryz.ntmps3 (Nat.le_of_ble_eq_true rfl) (by rw [Tryz.results3]) ?_
 refine go_seq ?_
 refine go_region 3 rfl rfl ?_
 refine s_do rfl rfl (w_boxA rfl) rfl ?_
 rintro _ w1 ⟨b2, rfl, hl_b2, hu_b2, p3, c_w1⟩
 have hs_w1 : w.heap.size ≤ w1.heap.size := Chg.size c_w1
 have C_w1 := Chg.pure (Chg.refl no w) c_w1
 have hn_b2 : w.heap.size ≤ b2 := by have := Chg.size C_w1; omega
 refine s_do rfl rfl (w_boxA rfl) rfl ?_
 rintro _ w4 ⟨b5, rfl, hl_b5, hu_b5, p6, c_w4⟩
 have hs_w4 : w1.heap.size ≤ w4.heap.size := Chg.size c_w4
 replace p3 := p3.k c_w4
 have C_w4 := Chg.pure C_w1 c_w4
 have hn_b5 : w.heap.size ≤ b5 := by have := Chg.size C_w4; omega
 refine s_val rfl rfl (r_assign) rfl ?_
 refine s_end ?_
 refine go_seq ?_
 refine go_region 13 rfl rfl ?_
 refine s_val rfl rfl (r_loadN Tryz.isAgg23 Tryz.sizeOf23 rfl p3.rd (bs_len (by first | omega | (simp; try omega)))) rfl ?_
 refine s_val rfl rfl (r_move) rfl ?_
 refine s_val rfl rfl (r_move) rfl ?_
 refine s_val rfl rfl (r_loadN Tryz.isAgg23 Tryz.sizeOf23 rfl p6.rd (bs_len (by first | omega | (simp; try omega)))) rfl ?_
 have hcall_ := splitRoot_spec secret seed need H aH n cH w4 hk hs h0 hnn hb hH hA16 hord (hslH.k C_w4)
 have hhc_ := hashB_length 7 (comB secret)
 refine s_do rfl rfl (w_call Tryz.call4 rfl hcall_) rfl ?_
 rintro _ w7 ⟨bS, rfl, hl_bS, hu_bS, hS, c_w7⟩
 clear hcall_
 have hs_w7 : w4.heap.size ≤ w7.heap.size := Chg.size c_w7
 replace p3 := p3.k c_w7
 replace p6 := p6.k c_w7
 have C_w7 := Chg.pure C_w4 c_w7
 have hn_bS : w.heap.size ≤ bS := by have := Chg.size C_w7; omega
 refine s_val rfl rfl (r_move) rfl ?_
 refine s_val rfl rfl (r_extract rfl rfl) rfl ?_
 refine s_val rfl rfl (r_extract rfl rfl) rfl ?_
 refine s_val rfl rfl (r_extract rfl rfl) rfl ?_
 refine s_do rfl rfl (w_alloc (bs (List.replicate 32 0)) Tryz.zeroValue27 (by kernel_rfl)) rfl ?_
 rintro _ w8 ⟨b9, rfl, hl_b9, hu_b9, p10, c_w8⟩
 have hs_w8 : w7.heap.size ≤ w8.heap.size := Chg.size c_w8
 replace p3 := p3.k c_w8
 replace p6 := p6.k c_w8
 replace hS := hS.k c_w8
 have C_w8 := Chg.pure C_w7 c_w8
 have hn_b9 : w.heap.size ≤ b9 := by have := Chg.size C_w8; omega
 refine s_val rfl rfl (r_assign) rfl ?_
 refine s_do rfl rfl (w_storeA (o := 0) Tryz.sizeOf27 rfl rfl (bs_len (by first | omega | (simp; try omega))) (flat_bs _) p10 (bs_len (by first | omega | (simp; try omega)))) rfl ?_
 rintro _ w11 ⟨q_w11, c_w11⟩
 have hs_w11 : w8.heap.size ≤ w11.heap.size := Chg.size c_w11
 replace p3 := p3.kb c_w11 (by omega)
 replace p6 := p6.kb c_w11 (by omega)
 replace hS := hS.kb c_w11 (by omega)
 have C_w11 := Chg.newRng C_w8 c_w11 (by omega)
 have p10 := q_w11
 refine s_val rfl rfl (r_assign) rfl ?_
 refine s_end ?_
 refine go_seq ?_
 refine go_region 4 rfl rfl ?_
 refine s_val rfl rfl (r_move) rfl ?_
 refine s_val rfl rfl (r_move) rfl ?_
 have hcall_ := holdE_spec ((need : Nat) : Int) H aH n cH w11 (by omega) hH hA16 (hslH.k C_w11)
 rw [show hErrTo ((need : Nat) : Int) n H n = 0 from hErr_ok h0 hnn hb hord] at hcall_
 refine s_do rfl rfl (w_call Tryz.call5 rfl hcall_) rfl ?_
 rintro _ w12 ⟨rfl, c_w12⟩
 clear hcall_
 have hs_w12 : w11.heap.size ≤ w12.heap.size := Chg.size c_w12
 replace p3 := p3.k c_w12
 replace p6 := p6.k c_w12
 replace hS := hS.k c_w12
 replace p10 := p10.k c_w12
 have C_w12 := Chg.pure C_w11 c_w12
 refine s_val rfl rfl (r_assign) rfl ?_
 refine s_end ?_
 refine go_seq ?_
 refine go_seq ?_
 refine go_region 6 rfl rfl ?_
 refine s_do rfl rfl (w_call Tryz.call6 rfl (vaults_spec _)) rfl ?_
 rintro _ w13 ⟨rfl, c_w13⟩
 have hs_w13 : w12.heap.size ≤ w13.heap.size := Chg.size c_w13
 replace p3 := p3.k c_w13
 replace p6 := p6.k c_w13
 replace hS := hS.k c_w13
 replace p10 := p10.k c_w13
 have C_w13 := Chg.pure C_w12 c_w13
 refine s_val rfl rfl (r_not rfl) rfl ?_
 refine s_val rfl rfl (r_move) rfl ?_
 refine s_val_g rfl rfl (r_move) rfl ?_
 refine s_val_g rfl rfl (r_neq rfl rfl) rfl ?_
 refine s_val rfl rfl (r_pick false rfl) rfl ?_
 refine s_end ?_
 refine go_ifb _ rfl (fun h14 => ?_) (fun h14 => ?_)
 ·first | replace h14 := dcT h14 | replace h14 := dcF (nt h14) | skip
  exfalso
  omega
 ·first | replace h14 := dcF h14 | replace h14 := dcT (nf h14) | skip
  refine go_skip ?_
  refine go_seq ?_
  refine go_region 8 rfl rfl ?_
  refine s_val rfl rfl (r_loadN Tryz.isAgg23 Tryz.sizeOf23 rfl p3.rd (bs_len (by first | omega | (simp; try omega)))) rfl ?_
  have hhr_w15 := hashB_length 7 (comB secret)
  refine s_do rfl rfl (w_call Tryz.call7 rfl (commitR_spec secret _ hk)) rfl ?_
  rintro _ w15 ⟨rfl, c_w15⟩
  have hs_w15 : w13.heap.size ≤ w15.heap.size := Chg.size c_w15
  replace p3 := p3.k c_w15
  replace p6 := p6.k c_w15
  replace hS := hS.k c_w15
  replace p10 := p10.k c_w15
  have C_w15 := Chg.pure C_w13 c_w15
  refine s_val rfl rfl (r_move) rfl ?_
  refine s_val rfl rfl (r_extract rfl rfl) rfl ?_
  refine s_val rfl rfl (r_extract rfl rfl) rfl ?_
  refine s_do rfl rfl (w_alloc (bs (List.replicate 32 0)) Tryz.zeroValue27 (by kernel_rfl)) rfl ?_
  rintro _ w16 ⟨b17, rfl, hl_b17, hu_b17, p18, c_w16⟩
  have hs_w16 : w15.heap.size ≤ w16.heap.size := Chg.size c_w16
  replace p3 := p3.k c_w16
  replace p6 := p6.k c_w16
  replace hS := hS.k c_w16
  replace p10 := p10.k c_w16
  have C_w16 := Chg.pure C_w15 c_w16
  have hn_b17 : w.heap.size ≤ b17 := by have := Chg.size C_w16; omega
  refine s_do rfl rfl (w_storeA (o := 0) Tryz.sizeOf27 rfl rfl (bs_len (by first | omega | (simp; try omega))) (flat_bs _) p18 (bs_len (by first | omega | (simp; try omega)))) rfl ?_
  rintro _ w19 ⟨q_w19, c_w19⟩
  have hs_w19 : w16.heap.size ≤ w19.heap.size := Chg.size c_w19
  replace p3 := p3.kb c_w19 (by omega)
  replace p6 := p6.kb c_w19 (by omega)
  replace hS := hS.kb c_w19 (by omega)
  replace p10 := p10.kb c_w19 (by omega)
  have C_w19 := Chg.newRng C_w16 c_w19 (by omega)
  have p18 := q_w19
  refine s_val rfl rfl (r_assign) rfl ?_
  refine s_end ?_
  refine go_seq ?_
  refine go_seq ?_
  refine go_region 17 rfl rfl ?_
  refine s_val rfl rfl (r_move) rfl ?_
  refine s_val rfl rfl (r_neq rfl rfl) rfl ?_
  refine s_valB rfl rfl (r_move) rfl (fun h20 => ?_) (fun h20 => ?_)
  ·first | replace h20 := dcT h20 | replace h20 := dcF (nt h20) | skip
   exfalso
   omega
  ·first | replace h20 := dcF h20 | replace h20 := dcT (nf h20) | skip
   refine s_val_g rfl rfl (r_loadN Tryz.isAgg27 Tryz.sizeOf27 rfl p10.rd (bs_len (by first | omega | (simp; try omega)))) rfl ?_
   refine s_val_g rfl rfl (r_loadN Tryz.isAgg27 Tryz.sizeOf27 rfl p18.rd (bs_len (by first | omega | (simp; try omega)))) rfl ?_
   refine s_val_g rfl rfl (r_neqArr Tryz.underlying27 Tryz.underlying5 Tryz.sizeOf5 rfl rfl hhc_ hhc_ (by kernel_rfl)) rfl ?_
   refine s_val rfl rfl (r_pick false rfl) rfl ?_
   refine s_valB rfl rfl (r_move) rfl (fun h21 => ?_) (fun h21 => ?_)
   ·first | replace h21 := dcT h21 | replace h21 := dcF (nt h21) | skip
    exfalso
    exact h21 rfl
   ·first | replace h21 := dcF h21 | replace h21 := dcT (nf h21) | skip
    refine s_val_g rfl rfl (r_move) rfl ?_
    refine s_val_g rfl rfl (r_loadN Tryz.isAgg23 Tryz.sizeOf23 rfl p3.rd (bs_len (by first | omega | (simp; try omega)))) rfl ?_
    refine s_val_g rfl rfl (r_move) rfl ?_
    refine s_val_g rfl rfl (r_move) rfl ?_
    refine s_val_g rfl rfl (r_loadN Tryz.isAgg23 Tryz.sizeOf23 rfl p6.rd (bs_len (by first | omega | (simp; try omega)))) rfl ?_
    have hcall_ := splitOf_spec secret seed need H aH n cH w19 hk hs h0 hnn hb hH hA16 (hslH.k C_w19)
    refine s_do_g rfl rfl (w_call Tryz.call9 rfl hcall_) rfl ?_
    rintro _ w22 ⟨aO, cO, rfl, hcO, hO, c_w22⟩
    clear hcall_
    replace hO : SlAt w22 aO (scells (valS secret seed need n H)) := hO
    have hs_w22 : w19.heap.size ≤ w22.heap.size := Chg.size c_w22
    replace p3 := p3.k c_w22
    replace p6 := p6.k c_w22
    replace hS := hS.k c_w22
    replace p10 := p10.k c_w22
    replace p18 := p18.k c_w22
    have C_w22 := Chg.pure C_w19 c_w22
    refine s_do_g rfl rfl (w_call Tryz.call8 rfl (eqSh_spec (valS secret seed need n H) _ _ n _ _ _ valS_len (by omega) (valS_ok hA16 hH) (SlAt.some hS.rd) hO)) rfl ?_
    rintro _ w23 ⟨rfl, c_w23⟩
    have hs_w23 : w22.heap.size ≤ w23.heap.size := Chg.size c_w23
    replace p3 := p3.k c_w23
    replace p6 := p6.k c_w23
    replace hS := hS.k c_w23
    replace p10 := p10.k c_w23
    replace p18 := p18.k c_w23
    have C_w23 := Chg.pure C_w22 c_w23
    refine s_val_g rfl rfl (r_not rfl) rfl ?_
    refine s_val rfl rfl (r_pick false rfl) rfl ?_
    refine s_end ?_
    refine go_false rfl ?_
    refine go_skip ?_
    refine go_seq ?_
    refine go_seq ?_
    refine go_region 3 rfl rfl ?_
    refine s_val rfl rfl (r_move) rfl ?_
    refine s_val rfl rfl (r_len Tryz.runUnderlying26 rfl) rfl ?_
    refine s_val rfl rfl (r_gtr rfl rfl) rfl ?_
    refine s_end ?_
    refine go_ifb _ rfl (fun h24 => ?_) (fun h24 => ?_)
    ·first | replace h24 := dcT h24 | replace h24 := dcF (nt h24) | skip
     exfalso
     omega
    ·first | replace h24 := dcF h24 | replace h24 := dcT (nf h24) | skip
     refine go_skip ?_
     refine go_seq ?_
     refine go_region 10 rfl rfl ?_
     refine s_val rfl rfl (r_move) rfl ?_
     refine s_val rfl rfl (r_move) rfl ?_
     refine s_val rfl rfl (r_conv_u64 Tryz.runUnderlying3 Tryz.runUnderlying43 rfl) rfl ?_
     refine s_val rfl rfl (r_move) rfl ?_
     refine s_val rfl rfl (r_len Tryz.runUnderlying26 rfl) rfl ?_
     refine s_val rfl rfl (r_conv_u64 Tryz.runUnderlying3 Tryz.runUnderlying43 rfl) rfl ?_
     refine s_val rfl rfl (r_rem64 rfl rfl (by rw [show (w64 ((n : Nat) : Int)).toNat = n from w64_toNat _ (by omega)]; omega)) rfl ?_
     refine s_val rfl rfl (r_convN (N := (idxN at_ n)) Tryz.runUnderlying43 Tryz.runUnderlying3 rfl (idx_eq _ _ (by omega)) (by omega)) rfl ?_
     refine s_val rfl rfl (r_indexSlQ (k := (idxN at_ n)) Tryz.runUnderlying26 Tryz.sizeOf40 rfl rfl (by first | rfl | omega) (by omega)) rfl ?_
     refine s_val rfl rfl (r_assign) rfl ?_
     refine s_end ?_
     refine go_seq ?_
     refine go_region 5 rfl rfl ?_
     refine s_val rfl rfl (r_move) rfl ?_
     refine s_val rfl rfl (r_conv_u64 Tryz.runUnderlying3 Tryz.runUnderlying43 rfl) rfl ?_
     refine s_val rfl rfl (r_rem64 (q := w64 ((32 : Nat) : Int)) rfl rfl (by decide)) rfl ?_
     refine s_val rfl rfl (r_convN (N := (idxN oct 32)) Tryz.runUnderlying43 Tryz.runUnderlying3 rfl (idx_eq _ 32 (by decide)) (by omega)) rfl ?_
     refine s_val rfl rfl (r_assign) rfl ?_
     refine s_end ?_
     refine go_seq ?_
     refine go_drawsE 14 (.take 0 (.take 1 (.take 2 (.take 3 (.take 4 (.take 5 (.take 6 (.take 7 (.take 8 (.take 9 (.take 10 (.take 11 (.take 12 (.take 13 (.eff 14 (.eff 15 .done)))))))))))))))) (by kernel_rfl) (by kernel_rfl) fun w25 c_w25 => ?_
     have hs_w25 : w23.heap.size ≤ w25.heap.size := Chg.size c_w25
     replace p3 := p3.k c_w25
     replace p6 := p6.k c_w25
     replace hS := hS.k c_w25
     replace p10 := p10.k c_w25
     replace p18 := p18.k c_w25
     have C_w25 := Chg.pure C_w23 c_w25
     refine s_takeE rfl rfl (r_move) ?_
     refine s_takeE rfl rfl (r_move) ?_
     refine s_takeE rfl rfl (r_move) ?_
     refine s_takeE rfl rfl (r_move) ?_
     refine s_takeE rfl rfl (r_nilCheck rfl) ?_
     refine s_takeE rfl rfl (r_fieldAddr Tryz.runUnderlying40 rfl Tryz.sizeOf38 rfl rfl) ?_
     refine s_takeE rfl rfl (r_indexArr (k := (idxN oct 32)) Tryz.runUnderlying38 Tryz.sizeOf25 rfl rfl (by first | rfl | omega) (by omega)) ?_
     refine s_takeE rfl rfl (r_load1 Tryz.isAgg25 rfl (Rd.at1 (Rd.shrY (Rd.shr hS.rd (valS_ok hA16 hH) (by rw [valS_len]; exact hi_)) ((valS_ok hA16 hH).get (idxN at_ n))) (us_get (by rw [((valS_ok hA16 hH).get (idxN at_ n)).2]; exact ho_)))) ?_
     refine s_takeE rfl rfl (r_move) ?_
     refine s_takeE rfl rfl (r_remU (z := fI by_) rfl rfl hby rfl) ?_
     refine s_takeE rfl rfl (r_addU (a := (((valS secret seed need n H).getD (idxN at_ n) shr0).y.getD (idxN oct 32) 0)) (b := fI by_) rfl rfl) ?_
     refine s_takeE rfl rfl (r_remU (z := (((valS secret seed need n H).getD (idxN at_ n) shr0).y.getD (idxN oct 32) 0) + fI by_) rfl rfl (by omega) (fI_addval _ _)) ?_
     refine s_takeE rfl rfl (r_nilCheck rfl) ?_
     refine s_takeE rfl rfl (r_fieldAddr Tryz.runUnderlying40 rfl Tryz.sizeOf38 rfl rfl) ?_
     refine s_val rfl rfl (r_indexArr (k := (idxN oct 32)) Tryz.runUnderlying38 Tryz.sizeOf25 rfl rfl (by first | rfl | omega) (by omega)) rfl ?_
     refine s_do rfl rfl (w_setShrY (k := (idxN at_ n)) (j := (idxN oct 32)) (z := ((((valS secret seed need n H).getD (idxN at_ n) shr0).y.getD (idxN oct 32) 0) + fI by_)) Tryz.sizeOf25 rfl rfl hS (valS_ok hA16 hH) (by first | omega | (simp; omega)) (by omega)) rfl ?_
     rintro _ w26 ⟨q_w26, c_w26⟩
     have hs_w26 : w25.heap.size ≤ w26.heap.size := Chg.size c_w26
     replace p3 := p3.kb c_w26 (by omega)
     replace p6 := p6.kb c_w26 (by omega)
     replace p10 := p10.kb c_w26 (by omega)
     replace p18 := p18.kb c_w26 (by omega)
     have C_w26 := Chg.newRng C_w25 c_w26 (by omega)
     have hS := q_w26
     replace hS : Pc w26 bS 0 (scells (chgS secret seed need n H at_ oct by_)) := hS
     refine s_end ?_
     refine go_seq ?_
     refine go_region 12 rfl rfl ?_
     refine s_val rfl rfl (r_move) rfl ?_
     refine s_val rfl rfl (r_move) rfl ?_
     refine s_val rfl rfl (r_loadN Tryz.isAgg27 Tryz.sizeOf27 rfl p10.rd (bs_len (by first | omega | (simp; try omega)))) rfl ?_
     have hcall_ := joinS_spec (chgS secret seed need n H at_ oct by_) (some ⟨bS, 0, none⟩) n n need (hashB 7 (comB secret)) kS bad w26 chgS_len h0 hb hnn (chgS_ok hA16 hH) (chgS_x0 (by omega) hb) hxn_ (chgS_hn (by omega) hH hord) hhc_ hm hq (SlAt.some hS.rd)
     refine s_do rfl rfl (w_call Tryz.call10 rfl hcall_) rfl ?_
     rintro _ w27 ⟨rfl, c_w27⟩
     clear hcall_
     have hs_w27 : w26.heap.size ≤ w27.heap.size := Chg.size c_w27
     replace p3 := p3.k c_w27
     replace p6 := p6.k c_w27
     replace p10 := p10.k c_w27
     replace p18 := p18.k c_w27
     replace hS := hS.k c_w27
     have C_w27 := Chg.pure C_w26 c_w27
     refine s_val rfl rfl (r_move) rfl ?_
     refine s_val rfl rfl (r_extract rfl rfl) rfl ?_
     refine s_val rfl rfl (r_extract rfl rfl) rfl ?_
     refine s_val rfl rfl (r_extract rfl rfl) rfl ?_
     refine s_do rfl rfl (w_alloc (bs (List.replicate 32 0)) Tryz.zeroValue23 (by kernel_rfl)) rfl ?_
     rintro _ w28 ⟨b29, rfl, hl_b29, hu_b29, p30, c_w28⟩
     have hs_w28 : w27.heap.size ≤ w28.heap.size := Chg.size c_w28
     replace p3 := p3.k c_w28
     replace p6 := p6.k c_w28
     replace p10 := p10.k c_w28
     replace p18 := p18.k c_w28
     replace hS := hS.k c_w28
     have C_w28 := Chg.pure C_w27 c_w28
     have hn_b29 : w.heap.size ≤ b29 := by have := Chg.size C_w28; omega
     refine s_do rfl rfl (w_storeA (o := 0) Tryz.sizeOf23 rfl rfl (bs_len (by first | omega | (simp; try omega))) (flat_bs _) p30 (bs_len (by first | omega | (simp; try omega)))) rfl ?_
     rintro _ w31 ⟨q_w31, c_w31⟩
     have hs_w31 : w28.heap.size ≤ w31.heap.size := Chg.size c_w31
     replace p3 := p3.kb c_w31 (by omega)
     replace p6 := p6.kb c_w31 (by omega)
     replace p10 := p10.kb c_w31 (by omega)
     replace p18 := p18.kb c_w31 (by omega)
     replace hS := hS.kb c_w31 (by omega)
     have C_w31 := Chg.newRng C_w28 c_w31 (by omega)
     have p30 := q_w31
     refine s_val rfl rfl (r_assign) rfl ?_
     refine s_val rfl rfl (r_assign) rfl ?_
     refine s_end ?_
     refine go_seq ?_
     refine go_region 11 rfl rfl ?_
     refine s_val rfl rfl (r_move) rfl ?_
     refine s_val rfl rfl (r_move) rfl ?_
     replace hm := (mend_eq hxn_ (by rw [chgS_len]; exact hnn)).symm.trans hm
     have hcall_ := mendR_spec (chgS secret seed need n H at_ oct by_) (some ⟨bS, 0, none⟩) n n need w31 chgS_len h0 hb hnn (chgS_ok hA16 hH) hxn_ (SlAt.some hS.rd)
     refine s_do rfl rfl (w_call Tryz.call11 rfl hcall_) rfl ?_
     rintro v33 w32 ⟨hpS_, _, c_w32⟩
     clear hcall_
     have hp_ := hpS_ _ hm
     clear hpS_
     obtain ⟨aB2, cB2, hv_, hcB2, hkS2, hB2, hloB2⟩ := hp_
     subst hv_
     replace hkS2 : kS.length = 32 := hkS2
     replace hB2 : SlAt w32 aB2 (bs bad.flatten) := hB2
     replace hcB2 : bad.length ≤ cB2 := hcB2
     have hs_w32 : w31.heap.size ≤ w32.heap.size := Chg.size c_w32
     replace p3 := p3.k c_w32
     replace p6 := p6.k c_w32
     replace p10 := p10.k c_w32
     replace p18 := p18.k c_w32
     replace hS := hS.k c_w32
     replace p30 := p30.k c_w32
     have C_w32 := Chg.pure C_w31 c_w32
     have hhiB2 := SlAt.blk hB2
     refine s_val rfl rfl (r_move) rfl ?_
     refine s_val rfl rfl (r_extract rfl rfl) rfl ?_
     refine s_val rfl rfl (r_extract rfl rfl) rfl ?_
     refine s_val rfl rfl (r_extract rfl rfl) rfl ?_
     refine s_do rfl rfl (w_alloc (bs (List.replicate 32 0)) Tryz.zeroValue23 (by kernel_rfl)) rfl ?_
     rintro _ w34 ⟨b35, rfl, hl_b35, hu_b35, p36, c_w34⟩
     have hs_w34 : w32.heap.size ≤ w34.heap.size := Chg.size c_w34
     replace p3 := p3.k c_w34
     replace p6 := p6.k c_w34
     replace p10 := p10.k c_w34
     replace p18 := p18.k c_w34
     replace hS := hS.k c_w34
     replace p30 := p30.k c_w34
     replace hB2 := hB2.k c_w34
     have C_w34 := Chg.pure C_w32 c_w34
     have hn_b35 : w.heap.size ≤ b35 := by have := Chg.size C_w34; omega
     refine s_do rfl rfl (w_storeA (o := 0) Tryz.sizeOf23 rfl rfl (bs_len (by first | omega | (simp; try omega))) (flat_bs _) p36 (bs_len (by first | omega | (simp; try omega)))) rfl ?_
     rintro _ w37 ⟨q_w37, c_w37⟩
     have hs_w37 : w34.heap.size ≤ w37.heap.size := Chg.size c_w37
     replace p3 := p3.kb c_w37 (by omega)
     replace p6 := p6.kb c_w37 (by omega)
     replace p10 := p10.kb c_w37 (by omega)
     replace p18 := p18.kb c_w37 (by omega)
     replace hS := hS.kb c_w37 (by omega)
     replace p30 := p30.kb c_w37 (by omega)
     replace hB2 := SlAt.keptE hB2 c_w37 (fun hc_ b_ o_ ha_ o2_ m_ => by have h1_ := hhiB2 hc_ _ ha_; have h3_ := hloB2 _ ha_; have h2_ : b_ = b35 := m_.1; simp only at h1_ h3_; omega)
     have C_w37 := Chg.newRng C_w34 c_w37 (by omega)
     have p36 := q_w37
     refine s_val rfl rfl (r_assign) rfl ?_
     refine s_val rfl rfl (r_assign) rfl ?_
     refine s_end ?_
     refine go_seq ?_
     refine go_seq ?_
     refine go_region 8 rfl rfl ?_
     refine s_val rfl rfl (r_loadN Tryz.isAgg23 Tryz.sizeOf23 rfl p36.rd (bs_len (by first | omega | (simp; try omega)))) rfl ?_
     have hhr_w38 := hashB_length 7 (comB kS)
     have hhk_ := hashB_length 7 (comB kS)
     refine s_do rfl rfl (w_call Tryz.call7 rfl (commitR_spec kS _ hkS2)) rfl ?_
     rintro _ w38 ⟨rfl, c_w38⟩
     have hs_w38 : w37.heap.size ≤ w38.heap.size := Chg.size c_w38
     replace p3 := p3.k c_w38
     replace p6 := p6.k c_w38
     replace p10 := p10.k c_w38
     replace p18 := p18.k c_w38
     replace hS := hS.k c_w38
     replace p30 := p30.k c_w38
     replace hB2 := hB2.k c_w38
     replace p36 := p36.k c_w38
     have C_w38 := Chg.pure C_w37 c_w38
     refine s_val rfl rfl (r_move) rfl ?_
     refine s_val rfl rfl (r_extract rfl rfl) rfl ?_
     refine s_val rfl rfl (r_extract rfl rfl) rfl ?_
     refine s_do rfl rfl (w_alloc (bs (List.replicate 32 0)) Tryz.zeroValue27 (by kernel_rfl)) rfl ?_
     rintro _ w39 ⟨b40, rfl, hl_b40, hu_b40, p41, c_w39⟩
     have hs_w39 : w38.heap.size ≤ w39.heap.size := Chg.size c_w39
     replace p3 := p3.k c_w39
     replace p6 := p6.k c_w39
     replace p10 := p10.k c_w39
     replace p18 := p18.k c_w39
     replace hS := hS.k c_w39
     replace p30 := p30.k c_w39
     replace hB2 := hB2.k c_w39
     replace p36 := p36.k c_w39
     have C_w39 := Chg.pure C_w38 c_w39
     have hn_b40 : w.heap.size ≤ b40 := by have := Chg.size C_w39; omega
     refine s_do rfl rfl (w_storeA (o := 0) Tryz.sizeOf27 rfl rfl (bs_len (by first | omega | (simp; try omega))) (flat_bs _) p41 (bs_len (by first | omega | (simp; try omega)))) rfl ?_
     rintro _ w42 ⟨q_w42, c_w42⟩
     have hs_w42 : w39.heap.size ≤ w42.heap.size := Chg.size c_w42
     replace p3 := p3.kb c_w42 (by omega)
     replace p6 := p6.kb c_w42 (by omega)
     replace p10 := p10.kb c_w42 (by omega)
     replace p18 := p18.kb c_w42 (by omega)
     replace hS := hS.kb c_w42 (by omega)
     replace p30 := p30.kb c_w42 (by omega)
     replace hB2 := SlAt.keptE hB2 c_w42 (fun hc_ b_ o_ ha_ o2_ m_ => by have h1_ := hhiB2 hc_ _ ha_; have h3_ := hloB2 _ ha_; have h2_ : b_ = b40 := m_.1; simp only at h1_ h3_; omega)
     replace p36 := p36.kb c_w42 (by omega)
     have C_w42 := Chg.newRng C_w39 c_w42 (by omega)
     have p41 := q_w42
     refine s_val rfl rfl (r_assign) rfl ?_
     refine s_end ?_
     refine go_seq ?_
     refine go_region 7 rfl rfl ?_
     refine s_val rfl rfl (r_move) rfl ?_
     refine s_val rfl rfl (r_eql rfl rfl) rfl ?_
     refine s_valB rfl rfl (r_move) rfl (fun h43 => ?_) (fun h43 => ?_)
     ·first | replace h43 := dcT h43 | replace h43 := dcF (nt h43) | skip
      refine s_val_g rfl rfl (r_loadN Tryz.isAgg27 Tryz.sizeOf27 rfl p41.rd (bs_len (by first | omega | (simp; try omega)))) rfl ?_
      refine s_val_g rfl rfl (r_loadN Tryz.isAgg27 Tryz.sizeOf27 rfl p10.rd (bs_len (by first | omega | (simp; try omega)))) rfl ?_
      refine s_val_g rfl rfl (r_neqArr Tryz.underlying27 Tryz.underlying5 Tryz.sizeOf5 rfl rfl hhk_ hhc_ (by kernel_rfl)) rfl ?_
      refine s_val rfl rfl (r_pick true rfl) rfl ?_
      refine s_end ?_
      refine go_ifb _ rfl (fun h44 => ?_) (fun h44 => ?_)
      ·first | replace h44 := dcT h44 | replace h44 := dcF (nt h44) | skip
       refine go_region 1 rfl rfl ?_
       refine s_val rfl rfl (r_assign) rfl ?_
       refine s_end ?_
       refine go_seq ?_
       refine go_seq ?_
       refine go_region 2 rfl rfl ?_
       refine s_val rfl rfl (r_move) rfl ?_
       refine s_val rfl rfl (r_neq rfl rfl) rfl ?_
       refine s_end ?_
       refine go_ifb _ rfl (fun h45 => ?_) (fun h45 => ?_)
       ·first | replace h45 := dcT h45 | replace h45 := dcF (nt h45) | skip
        refine go_seq ?_
        refine go_region 14 rfl rfl ?_
        refine s_val rfl rfl (r_loadN Tryz.isAgg23 Tryz.sizeOf23 rfl p30.rd (bs_len (by first | omega | (simp; try omega)))) rfl ?_
        refine s_val rfl rfl (r_buildA Tryz.zeroValue23 Tryz.runUnderlying23 Tryz.sizeOf5 (cs := bs (List.replicate 32 0)) (by kernel_rfl)) rfl ?_
        refine s_val rfl rfl (r_eqArr Tryz.underlying23 Tryz.underlying5 Tryz.sizeOf5 rfl rfl List.length_replicate List.length_replicate (by kernel_rfl)) rfl ?_
        refine s_valB rfl rfl (r_move) rfl (fun h46 => ?_) (fun h46 => ?_)
        ·first | replace h46 := dcT h46 | replace h46 := dcF (nt h46) | skip
         refine s_val_g rfl rfl (r_move) rfl ?_
         refine s_val_g rfl rfl (r_len Tryz.runUnderlying24 rfl) rfl ?_
         refine s_val_g rfl rfl (r_eql rfl rfl) rfl ?_
         refine s_val rfl rfl (r_pick true rfl) rfl ?_
         refine s_valB rfl rfl (r_move) rfl (fun h47 => ?_) (fun h47 => ?_)
         ·first | replace h47 := dcT h47 | replace h47 := dcF (nt h47) | skip
          refine s_val_g rfl rfl (r_move) rfl ?_
          refine s_val_g rfl rfl (r_move) rfl ?_
          refine s_val_g rfl rfl (r_eql rfl rfl) rfl ?_
          refine s_val rfl rfl (r_pick true rfl) rfl ?_
          refine s_val rfl rfl (r_assign) rfl ?_
          refine s_end ?_
          refine go_ret ?_
          refine ⟨_, .cons rfl (.nil), ?_⟩
          exact ⟨congrArg Value.bool (decide_eq_true rfl), C_w42⟩
         ·first | replace h47 := dcF h47 | replace h47 := dcT (nf h47) | skip
          exfalso
          omega
        ·first | replace h46 := dcF h46 | replace h46 := dcT (nf h46) | skip
         exfalso
         exact h46 rfl
       ·first | replace h45 := dcF h45 | replace h45 := dcT (nf h45) | skip
        exfalso
        omega
      ·first | replace h44 := dcF h44 | replace h44 := dcT (nf h44) | skip
       exfalso
       exact h44 hq
     ·first | replace h43 := dcF h43 | replace h43 := dcT (nf h43) | skip
      exfalso
      omega
end Go.Proofs.YtippcmedgfmgbaaGreat
end
section
open Go Go.Eng Go.Proofs
namespace Go.Proofs.YtippcmedgfmgbaaGreat
set_option maxHeartbeats 8000000 in
set_option maxRecDepth 100000 in
theorem lawO_spec (secret seed : List UInt8) (need : Nat) (H : List (List UInt8)) (aH : Option Addr) (n cH : Nat) (at_ oct by_ : Int) (kS : List UInt8) (bad : List (List UInt8)) (w : World) (hk : secret.length = 32) (hs : seed.length = 32) (hH : H.length = n) (hA16 : All16 H) (hby : 0 ≤ by_) (h0 : 0 < need) (hnn : need ≤ n) (hb : n ≤ 32) (hord : ordTo H n = false) (h7 : ¬ 7 < n) (hm : mendP need (chgS secret seed need n H at_ oct by_) = some (kS, bad)) (hq : hashB 7 (comB kS) = hashB 7 (comB secret)) (hslH : SlAt w aH (bs H.flatten)) :
  Rtn Tryz.prog 3 [.agg (bs secret).toArray, i64 (need : Nat), Value.slice aH n cH, .agg (bs seed).toArray, i64 at_, i64 oct, .int .u16 by_].toArray w (fun v w' => v = .bool true ∧ Kept w w') := by
 have hi_ := idxN_lt at_ (n := n) (by omega)
 have ho_ := idxN_lt oct (n := 32) (by decide)
 have hxn_ := chgS_xn (secret := secret) (seed := seed) (need := need) (H := H) (at_ := at_) (oct := oct) (by_ := by_) (show 0 < n by omega) hb
 have hhz_ := hashB_length 7 (comB (List.replicate 32 0))
 have hkS0 := mendR_len ((mend_eq hxn_ (by rw [chgS_len]; exact hnn)).symm.trans hm)
 refine fn_body (l := [.agg (bs secret).toArray, i64 (need : Nat), Value.slice aH n cH, .agg (bs seed).toArray, i64 at_, i64 oct, .int .u16 by_]) 170 [.tmp 14] Tryz.func3 rfl Tryz.ntmps3 (Nat.le_of_ble_eq_true rfl) (by rw [Tryz.results3]) ?_
 refine go_seq ?_
 refine go_region 3 rfl rfl ?_
 refine s_do rfl rfl (w_boxA rfl) rfl ?_
 rintro _ w1 ⟨b2, rfl, hl_b2, hu_b2, p3, c_w1⟩
 have hs_w1 : w.heap.size ≤ w1.heap.size := Chg.size c_w1
 have C_w1 := Chg.pure (Chg.refl no w) c_w1
 have hn_b2 : w.heap.size ≤ b2 := by have := Chg.size C_w1; omega
 refine s_do rfl rfl (w_boxA rfl) rfl ?_
 rintro _ w4 ⟨b5, rfl, hl_b5, hu_b5, p6, c_w4⟩
 have hs_w4 : w1.heap.size ≤ w4.heap.size := Chg.size c_w4
 replace p3 := p3.k c_w4
 have C_w4 := Chg.pure C_w1 c_w4
 have hn_b5 : w.heap.size ≤ b5 := by have := Chg.size C_w4; omega
 refine s_val rfl rfl (r_assign) rfl ?_
 refine s_end ?_
 refine go_seq ?_
 refine go_region 13 rfl rfl ?_
 refine s_val rfl rfl (r_loadN Tryz.isAgg23 Tryz.sizeOf23 rfl p3.rd (bs_len (by first | omega | (simp; try omega)))) rfl ?_
 refine s_val rfl rfl (r_move) rfl ?_
 refine s_val rfl rfl (r_move) rfl ?_
 refine s_val rfl rfl (r_loadN Tryz.isAgg23 Tryz.sizeOf23 rfl p6.rd (bs_len (by first | omega | (simp; try omega)))) rfl ?_
 have hcall_ := splitRoot_spec secret seed need H aH n cH w4 hk hs h0 hnn hb hH hA16 hord (hslH.k C_w4)
 have hhc_ := hashB_length 7 (comB secret)
 refine s_do rfl rfl (w_call Tryz.call4 rfl hcall_) rfl ?_
 rintro _ w7 ⟨bS, rfl, hl_bS, hu_bS, hS, c_w7⟩
 clear hcall_
 have hs_w7 : w4.heap.size ≤ w7.heap.size := Chg.size c_w7
 replace p3 := p3.k c_w7
 replace p6 := p6.k c_w7
 have C_w7 := Chg.pure C_w4 c_w7
 have hn_bS : w.heap.size ≤ bS := by have := Chg.size C_w7; omega
 refine s_val rfl rfl (r_move) rfl ?_
 refine s_val rfl rfl (r_extract rfl rfl) rfl ?_
 refine s_val rfl rfl (r_extract rfl rfl) rfl ?_
 refine s_val rfl rfl (r_extract rfl rfl) rfl ?_
 refine s_do rfl rfl (w_alloc (bs (List.replicate 32 0)) Tryz.zeroValue27 (by kernel_rfl)) rfl ?_
 rintro _ w8 ⟨b9, rfl, hl_b9, hu_b9, p10, c_w8⟩
 have hs_w8 : w7.heap.size ≤ w8.heap.size := Chg.size c_w8
 replace p3 := p3.k c_w8
 replace p6 := p6.k c_w8
 replace hS := hS.k c_w8
 have C_w8 := Chg.pure C_w7 c_w8
 have hn_b9 : w.heap.size ≤ b9 := by have := Chg.size C_w8; omega
 refine s_val rfl rfl (r_assign) rfl ?_
 refine s_do rfl rfl (w_storeA (o := 0) Tryz.sizeOf27 rfl rfl (bs_len (by first | omega | (simp; try omega))) (flat_bs _) p10 (bs_len (by first | omega | (simp; try omega)))) rfl ?_
 rintro _ w11 ⟨q_w11, c_w11⟩
 have hs_w11 : w8.heap.size ≤ w11.heap.size := Chg.size c_w11
 replace p3 := p3.kb c_w11 (by omega)
 replace p6 := p6.kb c_w11 (by omega)
 replace hS := hS.kb c_w11 (by omega)
 have C_w11 := Chg.newRng C_w8 c_w11 (by omega)
 have p10 := q_w11
 refine s_val rfl rfl (r_assign) rfl ?_
 refine s_end ?_
 refine go_seq ?_
 refine go_region 4 rfl rfl ?_
 refine s_val rfl rfl (r_move) rfl ?_
 refine s_val rfl rfl (r_move) rfl ?_
 have hcall_ := holdE_spec ((need : Nat) : Int) H aH n cH w11 (by omega) hH hA16 (hslH.k C_w11)
 rw [show hErrTo ((need : Nat) : Int) n H n = 0 from hErr_ok h0 hnn hb hord] at hcall_
 refine s_do rfl rfl (w_call Tryz.call5 rfl hcall_) rfl ?_
 rintro _ w12 ⟨rfl, c_w12⟩
 clear hcall_
 have hs_w12 : w11.heap.size ≤ w12.heap.size := Chg.size c_w12
 replace p3 := p3.k c_w12
 replace p6 := p6.k c_w12
 replace hS := hS.k c_w12
 replace p10 := p10.k c_w12
 have C_w12 := Chg.pure C_w11 c_w12
 refine s_val rfl rfl (r_assign) rfl ?_
 refine s_end ?_
 refine go_seq ?_
 refine go_seq ?_
 refine go_region 6 rfl rfl ?_
 refine s_do rfl rfl (w_call Tryz.call6 rfl (vaults_spec _)) rfl ?_
 rintro _ w13 ⟨rfl, c_w13⟩
 have hs_w13 : w12.heap.size ≤ w13.heap.size := Chg.size c_w13
 replace p3 := p3.k c_w13
 replace p6 := p6.k c_w13
 replace hS := hS.k c_w13
 replace p10 := p10.k c_w13
 have C_w13 := Chg.pure C_w12 c_w13
 refine s_val rfl rfl (r_not rfl) rfl ?_
 refine s_val rfl rfl (r_move) rfl ?_
 refine s_val_g rfl rfl (r_move) rfl ?_
 refine s_val_g rfl rfl (r_neq rfl rfl) rfl ?_
 refine s_val rfl rfl (r_pick false rfl) rfl ?_
 refine s_end ?_
 refine go_ifb _ rfl (fun h14 => ?_) (fun h14 => ?_)
 ·first | replace h14 := dcT h14 | replace h14 := dcF (nt h14) | skip
  exfalso
  omega
 ·first | replace h14 := dcF h14 | replace h14 := dcT (nf h14) | skip
  refine go_skip ?_
  refine go_seq ?_
  refine go_region 8 rfl rfl ?_
  refine s_val rfl rfl (r_loadN Tryz.isAgg23 Tryz.sizeOf23 rfl p3.rd (bs_len (by first | omega | (simp; try omega)))) rfl ?_
  have hhr_w15 := hashB_length 7 (comB secret)
  refine s_do rfl rfl (w_call Tryz.call7 rfl (commitR_spec secret _ hk)) rfl ?_
  rintro _ w15 ⟨rfl, c_w15⟩
  have hs_w15 : w13.heap.size ≤ w15.heap.size := Chg.size c_w15
  replace p3 := p3.k c_w15
  replace p6 := p6.k c_w15
  replace hS := hS.k c_w15
  replace p10 := p10.k c_w15
  have C_w15 := Chg.pure C_w13 c_w15
  refine s_val rfl rfl (r_move) rfl ?_
  refine s_val rfl rfl (r_extract rfl rfl) rfl ?_
  refine s_val rfl rfl (r_extract rfl rfl) rfl ?_
  refine s_do rfl rfl (w_alloc (bs (List.replicate 32 0)) Tryz.zeroValue27 (by kernel_rfl)) rfl ?_
  rintro _ w16 ⟨b17, rfl, hl_b17, hu_b17, p18, c_w16⟩
  have hs_w16 : w15.heap.size ≤ w16.heap.size := Chg.size c_w16
  replace p3 := p3.k c_w16
  replace p6 := p6.k c_w16
  replace hS := hS.k c_w16
  replace p10 := p10.k c_w16
  have C_w16 := Chg.pure C_w15 c_w16
  have hn_b17 : w.heap.size ≤ b17 := by have := Chg.size C_w16; omega
  refine s_do rfl rfl (w_storeA (o := 0) Tryz.sizeOf27 rfl rfl (bs_len (by first | omega | (simp; try omega))) (flat_bs _) p18 (bs_len (by first | omega | (simp; try omega)))) rfl ?_
  rintro _ w19 ⟨q_w19, c_w19⟩
  have hs_w19 : w16.heap.size ≤ w19.heap.size := Chg.size c_w19
  replace p3 := p3.kb c_w19 (by omega)
  replace p6 := p6.kb c_w19 (by omega)
  replace hS := hS.kb c_w19 (by omega)
  replace p10 := p10.kb c_w19 (by omega)
  have C_w19 := Chg.newRng C_w16 c_w19 (by omega)
  have p18 := q_w19
  refine s_val rfl rfl (r_assign) rfl ?_
  refine s_end ?_
  refine go_seq ?_
  refine go_seq ?_
  refine go_region 17 rfl rfl ?_
  refine s_val rfl rfl (r_move) rfl ?_
  refine s_val rfl rfl (r_neq rfl rfl) rfl ?_
  refine s_valB rfl rfl (r_move) rfl (fun h20 => ?_) (fun h20 => ?_)
  ·first | replace h20 := dcT h20 | replace h20 := dcF (nt h20) | skip
   exfalso
   omega
  ·first | replace h20 := dcF h20 | replace h20 := dcT (nf h20) | skip
   refine s_val_g rfl rfl (r_loadN Tryz.isAgg27 Tryz.sizeOf27 rfl p10.rd (bs_len (by first | omega | (simp; try omega)))) rfl ?_
   refine s_val_g rfl rfl (r_loadN Tryz.isAgg27 Tryz.sizeOf27 rfl p18.rd (bs_len (by first | omega | (simp; try omega)))) rfl ?_
   refine s_val_g rfl rfl (r_neqArr Tryz.underlying27 Tryz.underlying5 Tryz.sizeOf5 rfl rfl hhc_ hhc_ (by kernel_rfl)) rfl ?_
   refine s_val rfl rfl (r_pick false rfl) rfl ?_
   refine s_valB rfl rfl (r_move) rfl (fun h21 => ?_) (fun h21 => ?_)
   ·first | replace h21 := dcT h21 | replace h21 := dcF (nt h21) | skip
    exfalso
    exact h21 rfl
   ·first | replace h21 := dcF h21 | replace h21 := dcT (nf h21) | skip
    refine s_val_g rfl rfl (r_move) rfl ?_
    refine s_val_g rfl rfl (r_loadN Tryz.isAgg23 Tryz.sizeOf23 rfl p3.rd (bs_len (by first | omega | (simp; try omega)))) rfl ?_
    refine s_val_g rfl rfl (r_move) rfl ?_
    refine s_val_g rfl rfl (r_move) rfl ?_
    refine s_val_g rfl rfl (r_loadN Tryz.isAgg23 Tryz.sizeOf23 rfl p6.rd (bs_len (by first | omega | (simp; try omega)))) rfl ?_
    have hcall_ := splitOf_spec secret seed need H aH n cH w19 hk hs h0 hnn hb hH hA16 (hslH.k C_w19)
    refine s_do_g rfl rfl (w_call Tryz.call9 rfl hcall_) rfl ?_
    rintro _ w22 ⟨aO, cO, rfl, hcO, hO, c_w22⟩
    clear hcall_
    replace hO : SlAt w22 aO (scells (valS secret seed need n H)) := hO
    have hs_w22 : w19.heap.size ≤ w22.heap.size := Chg.size c_w22
    replace p3 := p3.k c_w22
    replace p6 := p6.k c_w22
    replace hS := hS.k c_w22
    replace p10 := p10.k c_w22
    replace p18 := p18.k c_w22
    have C_w22 := Chg.pure C_w19 c_w22
    refine s_do_g rfl rfl (w_call Tryz.call8 rfl (eqSh_spec (valS secret seed need n H) _ _ n _ _ _ valS_len (by omega) (valS_ok hA16 hH) (SlAt.some hS.rd) hO)) rfl ?_
    rintro _ w23 ⟨rfl, c_w23⟩
    have hs_w23 : w22.heap.size ≤ w23.heap.size := Chg.size c_w23
    replace p3 := p3.k c_w23
    replace p6 := p6.k c_w23
    replace hS := hS.k c_w23
    replace p10 := p10.k c_w23
    replace p18 := p18.k c_w23
    have C_w23 := Chg.pure C_w22 c_w23
    refine s_val_g rfl rfl (r_not rfl) rfl ?_
    refine s_val rfl rfl (r_pick false rfl) rfl ?_
    refine s_end ?_
    refine go_false rfl ?_
    refine go_skip ?_
    refine go_seq ?_
    refine go_seq ?_
    refine go_region 3 rfl rfl ?_
    refine s_val rfl rfl (r_move) rfl ?_
    refine s_val rfl rfl (r_len Tryz.runUnderlying26 rfl) rfl ?_
    refine s_val rfl rfl (r_gtr rfl rfl) rfl ?_
    refine s_end ?_
    refine go_ifb _ rfl (fun h24 => ?_) (fun h24 => ?_)
    ·first | replace h24 := dcT h24 | replace h24 := dcF (nt h24) | skip
     exfalso
     omega
    ·first | replace h24 := dcF h24 | replace h24 := dcT (nf h24) | skip
     refine go_skip ?_
     refine go_seq ?_
     refine go_region 10 rfl rfl ?_
     refine s_val rfl rfl (r_move) rfl ?_
     refine s_val rfl rfl (r_move) rfl ?_
     refine s_val rfl rfl (r_conv_u64 Tryz.runUnderlying3 Tryz.runUnderlying43 rfl) rfl ?_
     refine s_val rfl rfl (r_move) rfl ?_
     refine s_val rfl rfl (r_len Tryz.runUnderlying26 rfl) rfl ?_
     refine s_val rfl rfl (r_conv_u64 Tryz.runUnderlying3 Tryz.runUnderlying43 rfl) rfl ?_
     refine s_val rfl rfl (r_rem64 rfl rfl (by rw [show (w64 ((n : Nat) : Int)).toNat = n from w64_toNat _ (by omega)]; omega)) rfl ?_
     refine s_val rfl rfl (r_convN (N := (idxN at_ n)) Tryz.runUnderlying43 Tryz.runUnderlying3 rfl (idx_eq _ _ (by omega)) (by omega)) rfl ?_
     refine s_val rfl rfl (r_indexSlQ (k := (idxN at_ n)) Tryz.runUnderlying26 Tryz.sizeOf40 rfl rfl (by first | rfl | omega) (by omega)) rfl ?_
     refine s_val rfl rfl (r_assign) rfl ?_
     refine s_end ?_
     refine go_seq ?_
     refine go_region 5 rfl rfl ?_
     refine s_val rfl rfl (r_move) rfl ?_
     refine s_val rfl rfl (r_conv_u64 Tryz.runUnderlying3 Tryz.runUnderlying43 rfl) rfl ?_
     refine s_val rfl rfl (r_rem64 (q := w64 ((32 : Nat) : Int)) rfl rfl (by decide)) rfl ?_
     refine s_val rfl rfl (r_convN (N := (idxN oct 32)) Tryz.runUnderlying43 Tryz.runUnderlying3 rfl (idx_eq _ 32 (by decide)) (by omega)) rfl ?_
     refine s_val rfl rfl (r_assign) rfl ?_
     refine s_end ?_
     refine go_seq ?_
     refine go_drawsE 14 (.take 0 (.take 1 (.take 2 (.take 3 (.take 4 (.take 5 (.take 6 (.take 7 (.take 8 (.take 9 (.take 10 (.take 11 (.take 12 (.take 13 (.eff 14 (.eff 15 .done)))))))))))))))) (by kernel_rfl) (by kernel_rfl) fun w25 c_w25 => ?_
     have hs_w25 : w23.heap.size ≤ w25.heap.size := Chg.size c_w25
     replace p3 := p3.k c_w25
     replace p6 := p6.k c_w25
     replace hS := hS.k c_w25
     replace p10 := p10.k c_w25
     replace p18 := p18.k c_w25
     have C_w25 := Chg.pure C_w23 c_w25
     refine s_takeE rfl rfl (r_move) ?_
     refine s_takeE rfl rfl (r_move) ?_
     refine s_takeE rfl rfl (r_move) ?_
     refine s_takeE rfl rfl (r_move) ?_
     refine s_takeE rfl rfl (r_nilCheck rfl) ?_
     refine s_takeE rfl rfl (r_fieldAddr Tryz.runUnderlying40 rfl Tryz.sizeOf38 rfl rfl) ?_
     refine s_takeE rfl rfl (r_indexArr (k := (idxN oct 32)) Tryz.runUnderlying38 Tryz.sizeOf25 rfl rfl (by first | rfl | omega) (by omega)) ?_
     refine s_takeE rfl rfl (r_load1 Tryz.isAgg25 rfl (Rd.at1 (Rd.shrY (Rd.shr hS.rd (valS_ok hA16 hH) (by rw [valS_len]; exact hi_)) ((valS_ok hA16 hH).get (idxN at_ n))) (us_get (by rw [((valS_ok hA16 hH).get (idxN at_ n)).2]; exact ho_)))) ?_
     refine s_takeE rfl rfl (r_move) ?_
     refine s_takeE rfl rfl (r_remU (z := fI by_) rfl rfl hby rfl) ?_
     refine s_takeE rfl rfl (r_addU (a := (((valS secret seed need n H).getD (idxN at_ n) shr0).y.getD (idxN oct 32) 0)) (b := fI by_) rfl rfl) ?_
     refine s_takeE rfl rfl (r_remU (z := (((valS secret seed need n H).getD (idxN at_ n) shr0).y.getD (idxN oct 32) 0) + fI by_) rfl rfl (by omega) (fI_addval _ _)) ?_
     refine s_takeE rfl rfl (r_nilCheck rfl) ?_
     refine s_takeE rfl rfl (r_fieldAddr Tryz.runUnderlying40 rfl Tryz.sizeOf38 rfl rfl) ?_
     refine s_val rfl rfl (r_indexArr (k := (idxN oct 32)) Tryz.runUnderlying38 Tryz.sizeOf25 rfl rfl (by first | rfl | omega) (by omega)) rfl ?_
     refine s_do rfl rfl (w_setShrY (k := (idxN at_ n)) (j := (idxN oct 32)) (z := ((((valS secret seed need n H).getD (idxN at_ n) shr0).y.getD (idxN oct 32) 0) + fI by_)) Tryz.sizeOf25 rfl rfl hS (valS_ok hA16 hH) (by first | omega | (simp; omega)) (by omega)) rfl ?_
     rintro _ w26 ⟨q_w26, c_w26⟩
     have hs_w26 : w25.heap.size ≤ w26.heap.size := Chg.size c_w26
     replace p3 := p3.kb c_w26 (by omega)
     replace p6 := p6.kb c_w26 (by omega)
     replace p10 := p10.kb c_w26 (by omega)
     replace p18 := p18.kb c_w26 (by omega)
     have C_w26 := Chg.newRng C_w25 c_w26 (by omega)
     have hS := q_w26
     replace hS : Pc w26 bS 0 (scells (chgS secret seed need n H at_ oct by_)) := hS
     refine s_end ?_
     refine go_seq ?_
     refine go_region 12 rfl rfl ?_
     refine s_val rfl rfl (r_move) rfl ?_
     refine s_val rfl rfl (r_move) rfl ?_
     refine s_val rfl rfl (r_loadN Tryz.isAgg27 Tryz.sizeOf27 rfl p10.rd (bs_len (by first | omega | (simp; try omega)))) rfl ?_
     have hcall_ := joinO_spec (chgS secret seed need n H at_ oct by_) (some ⟨bS, 0, none⟩) n n need (hashB 7 (comB secret)) kS bad w26 chgS_len h0 hb hnn (chgS_ok hA16 hH) (chgS_x0 (by omega) hb) hxn_ (chgS_hn (by omega) hH hord) hhc_ hm hq (SlAt.some hS.rd)
     refine s_do rfl rfl (w_call Tryz.call10 rfl hcall_) rfl ?_
     rintro _ w27 ⟨aB1, cB1, rfl, hcB1, hB1, hloB1, c_w27⟩
     clear hcall_
     have hhiB1 := SlAt.blk hB1
     have hs_w27 : w26.heap.size ≤ w27.heap.size := Chg.size c_w27
     replace p3 := p3.k c_w27
     replace p6 := p6.k c_w27
     replace p10 := p10.k c_w27
     replace p18 := p18.k c_w27
     replace hS := hS.k c_w27
     have C_w27 := Chg.pure C_w26 c_w27
     refine s_val rfl rfl (r_move) rfl ?_
     refine s_val rfl rfl (r_extract rfl rfl) rfl ?_
     refine s_val rfl rfl (r_extract rfl rfl) rfl ?_
     refine s_val rfl rfl (r_extract rfl rfl) rfl ?_
     refine s_do rfl rfl (w_alloc (bs (List.replicate 32 0)) Tryz.zeroValue23 (by kernel_rfl)) rfl ?_
     rintro _ w28 ⟨b29, rfl, hl_b29, hu_b29, p30, c_w28⟩
     have hs_w28 : w27.heap.size ≤ w28.heap.size := Chg.size c_w28
     replace p3 := p3.k c_w28
     replace p6 := p6.k c_w28
     replace p10 := p10.k c_w28
     replace p18 := p18.k c_w28
     replace hS := hS.k c_w28
     replace hB1 := hB1.k c_w28
     have C_w28 := Chg.pure C_w27 c_w28
     have hn_b29 : w.heap.size ≤ b29 := by have := Chg.size C_w28; omega
     refine s_do rfl rfl (w_storeA (o := 0) Tryz.sizeOf23 rfl rfl (bs_len (by first | omega | (simp; try omega))) (flat_bs _) p30 (bs_len (by first | omega | (simp; try omega)))) rfl ?_
     rintro _ w31 ⟨q_w31, c_w31⟩
     have hs_w31 : w28.heap.size ≤ w31.heap.size := Chg.size c_w31
     replace p3 := p3.kb c_w31 (by omega)
     replace p6 := p6.kb c_w31 (by omega)
     replace p10 := p10.kb c_w31 (by omega)
     replace p18 := p18.kb c_w31 (by omega)
     replace hS := hS.kb c_w31 (by omega)
     replace hB1 := SlAt.keptE hB1 c_w31 (fun hc_ b_ o_ ha_ o2_ m_ => by have h1_ := hhiB1 hc_ _ ha_; have h3_ := hloB1 _ ha_; have h2_ : b_ = b29 := m_.1; simp only at h1_ h3_; omega)
     have C_w31 := Chg.newRng C_w28 c_w31 (by omega)
     have p30 := q_w31
     refine s_val rfl rfl (r_assign) rfl ?_
     refine s_val rfl rfl (r_assign) rfl ?_
     refine s_end ?_
     refine go_seq ?_
     refine go_region 11 rfl rfl ?_
     refine s_val rfl rfl (r_move) rfl ?_
     refine s_val rfl rfl (r_move) rfl ?_
     replace hm := (mend_eq hxn_ (by rw [chgS_len]; exact hnn)).symm.trans hm
     have hcall_ := mendR_spec (chgS secret seed need n H at_ oct by_) (some ⟨bS, 0, none⟩) n n need w31 chgS_len h0 hb hnn (chgS_ok hA16 hH) hxn_ (SlAt.some hS.rd)
     refine s_do rfl rfl (w_call Tryz.call11 rfl hcall_) rfl ?_
     rintro v33 w32 ⟨hpS_, _, c_w32⟩
     clear hcall_
     have hp_ := hpS_ _ hm
     clear hpS_
     obtain ⟨aB2, cB2, hv_, hcB2, hkS2, hB2, hloB2⟩ := hp_
     subst hv_
     replace hkS2 : kS.length = 32 := hkS2
     replace hB2 : SlAt w32 aB2 (bs bad.flatten) := hB2
     replace hcB2 : bad.length ≤ cB2 := hcB2
     have hs_w32 : w31.heap.size ≤ w32.heap.size := Chg.size c_w32
     replace p3 := p3.k c_w32
     replace p6 := p6.k c_w32
     replace p10 := p10.k c_w32
     replace p18 := p18.k c_w32
     replace hS := hS.k c_w32
     replace hB1 := hB1.k c_w32
     replace p30 := p30.k c_w32
     have C_w32 := Chg.pure C_w31 c_w32
     have hhiB2 := SlAt.blk hB2
     refine s_val rfl rfl (r_move) rfl ?_
     refine s_val rfl rfl (r_extract rfl rfl) rfl ?_
     refine s_val rfl rfl (r_extract rfl rfl) rfl ?_
     refine s_val rfl rfl (r_extract rfl rfl) rfl ?_
     refine s_do rfl rfl (w_alloc (bs (List.replicate 32 0)) Tryz.zeroValue23 (by kernel_rfl)) rfl ?_
     rintro _ w34 ⟨b35, rfl, hl_b35, hu_b35, p36, c_w34⟩
     have hs_w34 : w32.heap.size ≤ w34.heap.size := Chg.size c_w34
     replace p3 := p3.k c_w34
     replace p6 := p6.k c_w34
     replace p10 := p10.k c_w34
     replace p18 := p18.k c_w34
     replace hS := hS.k c_w34
     replace hB1 := hB1.k c_w34
     replace p30 := p30.k c_w34
     replace hB2 := hB2.k c_w34
     have C_w34 := Chg.pure C_w32 c_w34
     have hn_b35 : w.heap.size ≤ b35 := by have := Chg.size C_w34; omega
     refine s_do rfl rfl (w_storeA (o := 0) Tryz.sizeOf23 rfl rfl (bs_len (by first | omega | (simp; try omega))) (flat_bs _) p36 (bs_len (by first | omega | (simp; try omega)))) rfl ?_
     rintro _ w37 ⟨q_w37, c_w37⟩
     have hs_w37 : w34.heap.size ≤ w37.heap.size := Chg.size c_w37
     replace p3 := p3.kb c_w37 (by omega)
     replace p6 := p6.kb c_w37 (by omega)
     replace p10 := p10.kb c_w37 (by omega)
     replace p18 := p18.kb c_w37 (by omega)
     replace hS := hS.kb c_w37 (by omega)
     replace hB1 := SlAt.keptE hB1 c_w37 (fun hc_ b_ o_ ha_ o2_ m_ => by have h1_ := hhiB1 hc_ _ ha_; have h3_ := hloB1 _ ha_; have h2_ : b_ = b35 := m_.1; simp only at h1_ h3_; omega)
     replace p30 := p30.kb c_w37 (by omega)
     replace hB2 := SlAt.keptE hB2 c_w37 (fun hc_ b_ o_ ha_ o2_ m_ => by have h1_ := hhiB2 hc_ _ ha_; have h3_ := hloB2 _ ha_; have h2_ : b_ = b35 := m_.1; simp only at h1_ h3_; omega)
     have C_w37 := Chg.newRng C_w34 c_w37 (by omega)
     have p36 := q_w37
     refine s_val rfl rfl (r_assign) rfl ?_
     refine s_val rfl rfl (r_assign) rfl ?_
     refine s_end ?_
     refine go_seq ?_
     refine go_seq ?_
     refine go_region 8 rfl rfl ?_
     refine s_val rfl rfl (r_loadN Tryz.isAgg23 Tryz.sizeOf23 rfl p36.rd (bs_len (by first | omega | (simp; try omega)))) rfl ?_
     have hhr_w38 := hashB_length 7 (comB kS)
     have hhk_ := hashB_length 7 (comB kS)
     refine s_do rfl rfl (w_call Tryz.call7 rfl (commitR_spec kS _ hkS2)) rfl ?_
     rintro _ w38 ⟨rfl, c_w38⟩
     have hs_w38 : w37.heap.size ≤ w38.heap.size := Chg.size c_w38
     replace p3 := p3.k c_w38
     replace p6 := p6.k c_w38
     replace p10 := p10.k c_w38
     replace p18 := p18.k c_w38
     replace hS := hS.k c_w38
     replace hB1 := hB1.k c_w38
     replace p30 := p30.k c_w38
     replace hB2 := hB2.k c_w38
     replace p36 := p36.k c_w38
     have C_w38 := Chg.pure C_w37 c_w38
     refine s_val rfl rfl (r_move) rfl ?_
     refine s_val rfl rfl (r_extract rfl rfl) rfl ?_
     refine s_val rfl rfl (r_extract rfl rfl) rfl ?_
     refine s_do rfl rfl (w_alloc (bs (List.replicate 32 0)) Tryz.zeroValue27 (by kernel_rfl)) rfl ?_
     rintro _ w39 ⟨b40, rfl, hl_b40, hu_b40, p41, c_w39⟩
     have hs_w39 : w38.heap.size ≤ w39.heap.size := Chg.size c_w39
     replace p3 := p3.k c_w39
     replace p6 := p6.k c_w39
     replace p10 := p10.k c_w39
     replace p18 := p18.k c_w39
     replace hS := hS.k c_w39
     replace hB1 := hB1.k c_w39
     replace p30 := p30.k c_w39
     replace hB2 := hB2.k c_w39
     replace p36 := p36.k c_w39
     have C_w39 := Chg.pure C_w38 c_w39
     have hn_b40 : w.heap.size ≤ b40 := by have := Chg.size C_w39; omega
     refine s_do rfl rfl (w_storeA (o := 0) Tryz.sizeOf27 rfl rfl (bs_len (by first | omega | (simp; try omega))) (flat_bs _) p41 (bs_len (by first | omega | (simp; try omega)))) rfl ?_
     rintro _ w42 ⟨q_w42, c_w42⟩
     have hs_w42 : w39.heap.size ≤ w42.heap.size := Chg.size c_w42
     replace p3 := p3.kb c_w42 (by omega)
     replace p6 := p6.kb c_w42 (by omega)
     replace p10 := p10.kb c_w42 (by omega)
     replace p18 := p18.kb c_w42 (by omega)
     replace hS := hS.kb c_w42 (by omega)
     replace hB1 := SlAt.keptE hB1 c_w42 (fun hc_ b_ o_ ha_ o2_ m_ => by have h1_ := hhiB1 hc_ _ ha_; have h3_ := hloB1 _ ha_; have h2_ : b_ = b40 := m_.1; simp only at h1_ h3_; omega)
     replace p30 := p30.kb c_w42 (by omega)
     replace hB2 := SlAt.keptE hB2 c_w42 (fun hc_ b_ o_ ha_ o2_ m_ => by have h1_ := hhiB2 hc_ _ ha_; have h3_ := hloB2 _ ha_; have h2_ : b_ = b40 := m_.1; simp only at h1_ h3_; omega)
     replace p36 := p36.kb c_w42 (by omega)
     have C_w42 := Chg.newRng C_w39 c_w42 (by omega)
     have p41 := q_w42
     refine s_val rfl rfl (r_assign) rfl ?_
     refine s_end ?_
     refine go_seq ?_
     refine go_region 7 rfl rfl ?_
     refine s_val rfl rfl (r_move) rfl ?_
     refine s_val rfl rfl (r_eql rfl rfl) rfl ?_
     refine s_valB rfl rfl (r_move) rfl (fun h43 => ?_) (fun h43 => ?_)
     ·first | replace h43 := dcT h43 | replace h43 := dcF (nt h43) | skip
      refine s_val_g rfl rfl (r_loadN Tryz.isAgg27 Tryz.sizeOf27 rfl p41.rd (bs_len (by first | omega | (simp; try omega)))) rfl ?_
      refine s_val_g rfl rfl (r_loadN Tryz.isAgg27 Tryz.sizeOf27 rfl p10.rd (bs_len (by first | omega | (simp; try omega)))) rfl ?_
      refine s_val_g rfl rfl (r_neqArr Tryz.underlying27 Tryz.underlying5 Tryz.sizeOf5 rfl rfl hhk_ hhc_ (by kernel_rfl)) rfl ?_
      refine s_val rfl rfl (r_pick true rfl) rfl ?_
      refine s_end ?_
      refine go_ifb _ rfl (fun h44 => ?_) (fun h44 => ?_)
      ·first | replace h44 := dcT h44 | replace h44 := dcF (nt h44) | skip
       exfalso
       exact h44 hq
      ·first | replace h44 := dcF h44 | replace h44 := dcT (nf h44) | skip
       refine go_skip ?_
       refine go_seq ?_
       refine go_seq ?_
       refine go_region 2 rfl rfl ?_
       refine s_val rfl rfl (r_move) rfl ?_
       refine s_val rfl rfl (r_neq rfl rfl) rfl ?_
       refine s_end ?_
       refine go_ifb _ rfl (fun h45 => ?_) (fun h45 => ?_)
       ·first | replace h45 := dcT h45 | replace h45 := dcF (nt h45) | skip
        exfalso
        omega
       ·first | replace h45 := dcF h45 | replace h45 := dcT (nf h45) | skip
        refine go_skip ?_
        refine go_seq ?_
        refine go_region 13 rfl rfl ?_
        refine s_val rfl rfl (r_move) rfl ?_
        refine s_val rfl rfl (r_eql rfl rfl) rfl ?_
        refine s_valB rfl rfl (r_move) rfl (fun h46 => ?_) (fun h46 => ?_)
        ·first | replace h46 := dcT h46 | replace h46 := dcF (nt h46) | skip
         refine s_val_g rfl rfl (r_loadN Tryz.isAgg23 Tryz.sizeOf23 rfl p30.rd (bs_len (by first | omega | (simp; try omega)))) rfl ?_
         refine s_val_g rfl rfl (r_loadN Tryz.isAgg23 Tryz.sizeOf23 rfl p36.rd (bs_len (by first | omega | (simp; try omega)))) rfl ?_
         refine s_val_g rfl rfl (r_eqArr Tryz.underlying23 Tryz.underlying5 Tryz.sizeOf5 rfl rfl hkS2 hkS2 (by kernel_rfl)) rfl ?_
         refine s_val rfl rfl (r_pick true rfl) rfl ?_
         refine s_valB rfl rfl (r_move) rfl (fun h47 => ?_) (fun h47 => ?_)
         ·first | replace h47 := dcT h47 | replace h47 := dcF (nt h47) | skip
          refine s_val_g rfl rfl (r_move) rfl ?_
          refine s_val_g rfl rfl (r_move) rfl ?_
          have hbd_ := bad_16 (chgS_ok hA16 hH) hm
          have hbl_ : bad.length ≤ 64 := Nat.le_trans hbd_.2 (by rw [chgS_len]; omega)
          refine s_do_g rfl rfl (w_call Tryz.call12 rfl (eqIds_spec bad _ _ bad.length _ _ _ hbl_ rfl hbd_.1 hB1 hB2)) rfl ?_
          rintro _ w48 ⟨rfl, c_w48⟩
          have hs_w48 : w42.heap.size ≤ w48.heap.size := Chg.size c_w48
          replace p3 := p3.k c_w48
          replace p6 := p6.k c_w48
          replace p10 := p10.k c_w48
          replace p18 := p18.k c_w48
          replace hS := hS.k c_w48
          replace hB1 := hB1.k c_w48
          replace p30 := p30.k c_w48
          replace hB2 := hB2.k c_w48
          replace p36 := p36.k c_w48
          replace p41 := p41.k c_w48
          have C_w48 := Chg.pure C_w42 c_w48
          refine s_val rfl rfl (r_pick true rfl) rfl ?_
          refine s_val rfl rfl (r_assign) rfl ?_
          refine s_end ?_
          refine go_ret ?_
          refine ⟨_, .cons rfl (.nil), ?_⟩
          exact ⟨rfl, C_w48⟩
         ·first | replace h47 := dcF h47 | replace h47 := dcT (nf h47) | skip
          exfalso
          exact h47 rfl
        ·first | replace h46 := dcF h46 | replace h46 := dcT (nf h46) | skip
         exfalso
         omega
     ·first | replace h43 := dcF h43 | replace h43 := dcT (nf h43) | skip
      exfalso
      omega
end Go.Proofs.YtippcmedgfmgbaaGreat
end
section
open Go Go.Eng
namespace Go.Eng
open Go.ChangeShapes Go.WideShapes Go.RowKit Go.WideElems
section
variable {H : Type} {enc : TypeId × Value → H} {P : Program}
/-- every type can be read and is one of the program's -/
def rowedT (P : Program) (ts : List TypeId) : Bool := ts.all fun t => P.readableRec t && decide (t < P.types.size)
theorem trodAll_later (hl : laidOutB P = true) {W W' : World} (hb : Below W.heap.size W W') {sp : Nat → Bool} :
    ∀ {ts : List TypeId} {vs : List Value} {ds : List (DataW H)} {ps : List MemPlace}, rowedT P ts = true → DataW.TrodAll enc P W 0 (fun _ => true) true ts vs ds ps → (∀ p ∈ ps, sp p.block = true) → DataW.TrodAll enc P W' 0 sp true ts vs ds ps
  | [], [], [], _, _, h, _ => h
  | [], [], _ :: _, _, _, h, _ => h.elim
  | [], _ :: _, _, _, _, h, _ => h.elim
  | _ :: _, [], _, _, _, h, _ => h.elim
  | _ :: _, _ :: _, [], _, _, h, _ => h.elim
  | t :: ts, v :: vs, d :: ds, ps, hr, h, hs => by
    have hlt := h.lt
    obtain ⟨p, q, ⟨fuel, h1⟩, h2, e⟩ := h
    simp only [rowedT, List.all_cons, Bool.and_eq_true, decide_eq_true_eq] at hr
    obtain ⟨⟨hr1, hr2⟩, hr3⟩ := hr
    have in1 : ∀ x ∈ p, x ∈ ps := fun x hx => by rw [e]; exact List.mem_append.2 (.inl hx)
    have in2 : ∀ x ∈ q, x ∈ ps := fun x hx => by rw [e]; exact List.mem_append.2 (.inr hx)
    refine ⟨p, q, ⟨fuel, DataW.trod_stays (kids_book hl hr1) (book_sized hr1) (fun h => by cases h) ⟨hr2, book_self t⟩ h1 (fun x hx => hb.same (hlt x (in1 x hx))) (fun x hx => hs x (in1 x hx))⟩, trodAll_later hl hb hr3 h2 fun x hx => hs x (in2 x hx), e⟩
/-- The row's post, where the call leaves all that was there as it was, and returns true. -/
theorem post_true {f : Func} {s : ChangeSpec} {fresh handsOn again : Bool} {W W' : World} {args : Array Value} {ds gs : List (DataW H)} {before : List MemPlace} {tb : TypeId}
    (hl : laidOutB P = true) (hr : rowedT P f.params.toList = true) (hv : s.vars = []) (ht : f.resultTypes = #[tb]) (hu : P.underlying tb = some .bool)
    (hW : DataW.Whole enc P f.params.toList s.vars false W args.toList ds gs before) (hd : (s.fn H (ds ++ gs)) = { results := [.lit (.bool true)], args := ds }) (hb : Below W.heap.size W W') :
    s.post enc P f false fresh handsOn again W args (.bool true) W' := by
  have hlt : ∀ p ∈ before, p.block < W.heap.size := fun p hp => hW.lt p hp
  have hold : ∀ p ∈ before, decide (p.block < W.heap.size) = true := fun p hp => decide_eq_true (hlt p hp)
  have hW0 := hW
  obtain ⟨p, q, hA, hV, e, hz, hn⟩ := hW
  rw [hv] at hV
  have hq : gs = [] ∧ q = [] := by
    cases gs with
    | nil => exact ⟨rfl, hV⟩
    | cons g gs => exact (hV : False).elim
  obtain ⟨rfl, rfl⟩ := hq
  rw [List.append_nil] at e
  subst e
  have hargs : ∀ sp : Nat → Bool, (∀ x ∈ before, sp x.block = true) → DataW.TrodAll enc P W' 0 sp true f.params.toList args.toList ds before := fun sp h => trodAll_later hl hb hr hA h
  have hbool : ∀ (b : Nat) (sp : Nat → Bool) (hd : Bool), DataW.Trod enc P W' b sp hd tb (.bool true) (.lit (.bool true)) [] := fun b sp hd => ⟨1, by simp [DataW.trod, Value.cells, hu]⟩
  have hres : ∀ (b : Nat) (sp : Nat → Bool) (hd : Bool), DataW.TrodAll enc P W' b sp hd f.resultTypes.toList ((Value.bool true).resultList f.resultTypes.size) [.lit (.bool true)] [] := fun b sp hd => by
    rw [ht]
    exact trodAll_cons_mk (hbool b sp hd) trodAll_mk0
  refine ⟨ds, [], before, [], before, [], hW0, ?_, ?_, ?_, World.keptBut_mono (fun x hx => ⟨hx, .inr (by simpa using hx)⟩) (hb.frame (· ∈ before)), fun _ => ?_⟩
  · rw [hd]; exact hres _ _ _
  · rw [hd]; exact hargs _ hold
  · rw [hd, hv]; rfl
  · refine ⟨?_, _, [], ([] ++ before) ++ [], ⟨[] ++ before, [], trodAll_append (hargs _ fun _ _ => rfl) (hres _ _ _), by rw [hv]; rfl, rfl, ?_, ?_⟩, ?_⟩
    · rw [ht]
      intro j t r hj hr'
      cases j with
      | zero =>
        simp at hj
        subst hj
        have : r = .bool true := by simpa [Value.resultList] using hr'.symm
        subst this
        exact okWide_bool_mk hu _
      | succ j => simp at hj
    · intro b off hp
      have hin : MemPlace.cell b off ∈ before := by simpa using hp
      rw [hb.frozen (hlt _ hin)]
      exact hz b off hin
    · intro ha
      have := hn ha
      simpa using this
    · intro x hx _
      simpa using hx
end
end Go.Eng
end
section
open Go Go.Eng
namespace Go.Eng
open Go.ChangeShapes Go.WideShapes Go.RowKit Go.WideElems
section
variable {H : Type} {enc : TypeId × Value → H} {P : Program}
/-- an octet of a cell -/
def octOf : Value → UInt8
  | .int _ n => UInt8.ofNat n.toNat
  | _ => 0
theorem bs_octs {cs : List Value} (h : ∀ i, i < cs.length → ∃ n : Int, cs[i]? = some (.int .u8 n) ∧ 0 ≤ n ∧ n ≤ 255) : bs (cs.map octOf) = cs := by
  apply List.ext_getElem
  · rw [bs_length, List.length_map]
  · intro i h1 h2
    obtain ⟨n, hn, h0, h255⟩ := h i h2
    rw [List.getElem?_eq_getElem h2] at hn
    have hv := Option.some.inj hn
    simp only [bs, List.getElem_map, hv, octOf, u8, UInt8.toNat_ofNat']
    congr 1
    omega
/-- the cells of an array of octets that came in -/
theorem cells_octs {W : World} {base : Nat} {sp : Nat → Bool} {hd : Bool} {t e : TypeId} {N fuel : Nat} {cs : List Value} {x : DataW H × List MemPlace} (ht : P.underlying t = some (.array N e)) (he : P.underlying e = some (.int .u8)) (hc : P.cellsOf e = 1) (hct : P.cellsOf t = N)
    (h : DataW.trod enc P W base sp hd fuel t cs = some x) : ∃ l : List UInt8, cs = bs l ∧ l.length = N := by
  obtain ⟨xs, m, _, _, hl, hxl, hf⟩ := DataW.trod_array ht h
  rw [hct] at hl
  refine ⟨cs.map octOf, (bs_octs fun i hi => ?_).symm, by rw [List.length_map]; exact hl⟩
  have hi' : i < N := by omega
  have h1 := hf i hi'
  rw [hc, Nat.mul_one, List.getElem?_eq_getElem (by omega)] at h1
  obtain ⟨n, h2, _, hw⟩ := DataW.trod_int he h1
  have hb := bounds_u8 hw
  refine ⟨n, ?_, hb.1, hb.2⟩
  have h3 : ((cs.drop i).take 1)[0]? = some (.int .u8 n) := by rw [h2]; rfl
  rw [List.getElem?_take_of_lt (by decide), List.getElem?_drop] at h3
  simpa using h3
/-- an array of octets that came in -/
theorem open_arr8 {W : World} {base : Nat} {t e : TypeId} {N : Nat} {v : Value} {d : DataW H} {p : List MemPlace} (ht : P.underlying t = some (.array N e)) (he : P.underlying e = some (.int .u8)) (hc : P.cellsOf e = 1) (hct : P.cellsOf t = N)
    (hval : Value.okWide P W .any base t v) (h : DataW.Trod enc P W 0 (fun _ => true) true t v d p) : ∃ l : List UInt8, v = .agg (bs l).toArray ∧ l.length = N := by
  simp only [Value.okWide, ht] at hval
  obtain ⟨cs, rfl, _, _⟩ := hval
  obtain ⟨fuel, hf⟩ := h
  obtain ⟨l, h1, h2⟩ := cells_octs ht he hc hct hf
  refine ⟨l, ?_, h2⟩
  have : cs.toList = bs l := h1
  rw [← this]
/-- a number of sixteen bits that came in -/
theorem open_u16 {W : World} {base : Nat} {t : TypeId} {v : Value} {d : DataW H} {p : List MemPlace} (ht : P.underlying t = some (.int .u16)) (hval : Value.okWide P W .any base t v) (h : DataW.Trod enc P W 0 (fun _ => true) true t v d p) : ∃ n : Int, v = .int .u16 n ∧ 0 ≤ n := by
  obtain ⟨n, rfl, _, _, hw⟩ := open_int ht hval h
  exact ⟨n, rfl, (bounds_u16 hw).1⟩
/-- a slice of arrays of sixteen octets that came in -/
theorem open_ids {W : World} {base : Nat} {t e o : TypeId} {v : Value} {d : DataW H} {p : List MemPlace} (ht : P.underlying t = some (.slice e)) (he : P.underlying e = some (.array 16 o)) (ho : P.underlying o = some (.int .u8)) (hc : P.cellsOf o = 1) (hce : P.cellsOf e = 16)
    (hval : Value.okWide P W .any base t v) (h : DataW.Trod enc P W 0 (fun _ => true) true t v d p) :
    ∃ a n c L, v = .slice a n c ∧ L.length = n ∧ n ≤ c ∧ n ≤ 9223372036854775807 ∧ All16 L ∧ SlAt W a (bs L.flatten) := by
  obtain ⟨a, len, cap, rfl⟩ := okWide_slice ht hval
  obtain ⟨fuel, hf⟩ := h
  rcases Go.Deep.open_slice ht hf with ⟨hcs, _⟩ | ⟨a', len', cap', m, nn, D, Pl, hcs, hb, hl, hm, hmm, _, hel⟩
  · simp [Value.cells] at hcs
    obtain ⟨rfl, rfl, rfl⟩ := hcs
    exact ⟨none, 0, 0, [], rfl, rfl, Nat.le_refl _, by decide, fun x hx => (by cases hx), .inl rfl⟩
  · simp [Value.cells] at hcs
    obtain ⟨rfl, rfl, rfl⟩ := hcs
    simp only [if_true] at hmm
    subst hmm
    let g : Nat → List UInt8 := fun i => ((W.cells? 0 (a'.add (i * P.cellsOf e)) (P.cellsOf e)).getD []).map octOf
    have hg : ∀ i, i < len → (g i).length = 16 ∧ ∀ j, j < 16 → W.cell? ((a'.add (i * 16)).add j) = some (u8 ((g i).getD j 0)) := by
      intro i hi
      obtain ⟨cs', h1, h2⟩ := hel i (by omega)
      obtain ⟨l, h3, h4⟩ := cells_octs he ho hc hce h2
      obtain ⟨_, h5, h6⟩ := World.cells?_some h1
      have hgi : g i = l := by
        show ((W.cells? 0 (a'.add (i * P.cellsOf e)) (P.cellsOf e)).getD []).map octOf = l
        rw [h1, Option.getD_some, h3]
        apply List.ext_getElem
        · rw [List.length_map, bs_length]
        · intro j q1 q2
          simp only [List.getElem_map, bs, u8, octOf]
          rw [Int.toNat_natCast, UInt8.ofNat_toNat]
      rw [hgi]
      refine ⟨h4, fun j hj => ?_⟩
      have := h6 j (by rw [hce]; exact hj)
      rw [hce] at this
      rw [this, h3, bs_get (by omega)]
    refine ⟨some a', len, _, (List.range len).map g, rfl, by simp, hl, by have : maxLen = 9223372036854775807 := rfl; omega, ?_, ?_⟩
    · intro x hx
      obtain ⟨i, hi, rfl⟩ := List.mem_map.1 hx
      exact (hg i (List.mem_range.1 hi)).1
    · have h16 : All16 ((List.range len).map g) := by
        intro x hx
        obtain ⟨i, hi, rfl⟩ := List.mem_map.1 hx
        exact (hg i (List.mem_range.1 hi)).1
      rcases Nat.eq_zero_or_pos len with h0 | h0
      · subst h0; exact .inl rfl
      · obtain ⟨ab, ao, spot⟩ := a'
        have hspot : spot = none := by
          have := (hg 0 h0).2 0 (by decide)
          have h2 := World.cell?_spot this
          simpa [Addr.add] using h2
        subst hspot
        refine .inr ⟨ab, ao, rfl, fun j u hj => ?_⟩
        have hjl : j < len * 16 := by
          have := (List.getElem?_eq_some_iff.1 hj).1
          rw [bs_length, h16.len, List.length_map, List.length_range] at this
          omega
        have hk : j / 16 < ((List.range len).map g).length := by rw [List.length_map, List.length_range]; omega
        have e1 := hold_get h16 hk
        have e2 : (((bs ((List.range len).map g).flatten).drop (j / 16 * 16)).take 16)[j % 16]? = some u := by
          rw [List.getElem?_take_of_lt (by omega), List.getElem?_drop, show j / 16 * 16 + j % 16 = j by omega]; exact hj
        have hgk : ((List.range len).map g).getD (j / 16) [] = g (j / 16) := by
          rw [List.getD_eq_getElem?_getD, List.getElem?_map, List.getElem?_range (by omega)]; rfl
        have hgl := hg (j / 16) (by omega)
        rw [e1, hgk, bs_get (by rw [hgl.1]; omega)] at e2
        have h3 := hgl.2 (j % 16) (by omega)
        rw [add_none, add_none] at h3
        rw [← Option.some.inj e2, ← h3]
        congr 2
        omega
end
end Go.Eng
end
