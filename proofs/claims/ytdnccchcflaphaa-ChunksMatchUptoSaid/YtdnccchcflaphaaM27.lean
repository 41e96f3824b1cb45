/- M27: contracts of functions of the program: called in any world that meets a contract's premises, the function returns what the contract says and changes no more than it says. -/
import Derived.Test.YtdnccchcflaphaaM26
import Derived.Test.YtdnccchcflaphaaEng8
import Derived.Test.YtdnccchcflaphaaEng9
import Derived.Test.YtdnccchcflaphaaEng10
import Derived.Test.YtdnccchcflaphaaEng11
import Derived.Test.YtdnccchcflaphaaEng12
import Derived.Test.YtdnccchcflaphaaChecked
open Go Go.Eng Go.Proofs
namespace Go.Proofs.Ytdnccchcflaphaa
set_option maxHeartbeats 8000000 in
set_option maxRecDepth 100000 in
theorem chunksMatchE_spec (k : Int) (order : List Int) (at_ many : Int) (by_ : UInt8) (ab ao : Option Addr) (n cb M co : Nat) (w : World) (hbad : n = 0 ∨ 1048576 < n) :
    Rtn Try.prog 3 [Value.slice ab n cb, i64 k, Value.slice ao M co, i64 at_, u8 by_, i64 many].toArray w (fun v w' => v = .bool true ∧ Kept w w') := by
  have hE0 : (if n = 0 then (10 : Int) else 5) ≠ 0 := by split <;> decide
  refine fn_body (l := [Value.slice ab n cb, i64 k, Value.slice ao M co, i64 at_, u8 by_, i64 many]) 242 [.tmp 12] Try.func3 rfl Try.ntmps3 (Nat.le_of_ble_eq_true rfl) (by rw [Try.results3]) ?_
  refine go_seq ?_
  refine go_region 1 rfl rfl ?_
  refine s_val rfl rfl (r_assign) rfl ?_
  refine s_end ?_
  refine go_seq ?_
  refine go_region 10 rfl rfl ?_
  refine s_val rfl rfl (r_move) rfl ?_
  refine s_do rfl rfl (w_call Try.call5 rfl (rootOfE_spec _ _ _ _ hbad)) rfl ?_
  rintro _ w1 ⟨rfl, c_w1⟩
  have hs_w1 : w.heap.size ≤ w1.heap.size := Chg.size c_w1
  have C_w1 := Chg.pure (Chg.refl no w) c_w1
  refine s_val rfl rfl (r_move) rfl ?_
  refine s_val rfl rfl (r_extract rfl rfl) rfl ?_
  refine s_val rfl rfl (r_extract rfl rfl) rfl ?_
  refine s_val rfl rfl (r_extract rfl rfl) rfl ?_
  refine s_do rfl rfl (w_alloc (bs (List.replicate 32 0)) Try.zeroValue25 (by kernel_rfl)) rfl ?_
  rintro _ w2 ⟨b3, rfl, hl_b3, hu_b3, p4, c_w2⟩
  have hs_w2 : w1.heap.size ≤ w2.heap.size := Chg.size c_w2
  have C_w2 := Chg.pure C_w1 c_w2
  have hn_b3 : w.heap.size ≤ b3 := by have := Chg.size C_w2; omega
  refine s_do rfl rfl (w_storeA (o := 0) Try.sizeOf25 rfl rfl (by first | exact bs_len (by omega) | exact bs_len (by simp; done) | exact bs_len (by simp; omega)) (flat_bs _) p4 (by first | exact bs_len (by omega) | exact bs_len (by simp; done) | exact bs_len (by simp; omega))) rfl ?_
  rintro _ w5 ⟨q_w5, c_w5⟩
  have hs_w5 : w2.heap.size ≤ w5.heap.size := Chg.size c_w5
  have C_w5 := Chg.newRng C_w2 c_w5 (by omega)
  have p4 := q_w5
  refine s_val rfl rfl (r_assign) rfl ?_
  refine s_val rfl rfl (r_assign) rfl ?_
  refine s_end ?_
  refine go_seq ?_
  refine go_region 11 rfl rfl ?_
  refine s_val rfl rfl (r_move) rfl ?_
  refine s_val rfl rfl (r_move) rfl ?_
  refine s_do rfl rfl (w_call Try.call6 rfl (chunkE_spec k _ _ _ _ hbad)) rfl ?_
  rintro _ w6 ⟨rfl, c_w6⟩
  have hs_w6 : w5.heap.size ≤ w6.heap.size := Chg.size c_w6
  replace p4 := p4.k c_w6
  have C_w6 := Chg.pure C_w5 c_w6
  refine s_val rfl rfl (r_move) rfl ?_
  refine s_val rfl rfl (r_extract rfl rfl) rfl ?_
  refine s_val rfl rfl (r_extract rfl rfl) rfl ?_
  refine s_val rfl rfl (r_extract rfl rfl) rfl ?_
  refine s_do rfl rfl (w_alloc ([i64 0] ++ ([i64 0] ++ ([.slice none 0 0]))) Try.zeroValue31 (by kernel_rfl)) rfl ?_
  rintro _ w7 ⟨b8, rfl, hl_b8, hu_b8, p9, c_w7⟩
  have hs_w7 : w6.heap.size ≤ w7.heap.size := Chg.size c_w7
  replace p4 := p4.k c_w7
  have C_w7 := Chg.pure C_w6 c_w7
  have hn_b8 : w.heap.size ≤ b8 := by have := Chg.size C_w7; omega
  refine s_val rfl rfl (r_assign) rfl ?_
  refine s_do rfl rfl (w_storeA (o := 0) Try.sizeOf31 rfl rfl rfl (flat_cons rfl (flat_cons rfl (flat_one rfl))) p9 rfl) rfl ?_
  rintro _ w10 ⟨q_w10, c_w10⟩
  have hs_w10 : w7.heap.size ≤ w10.heap.size := Chg.size c_w10
  replace p4 := p4.kb c_w10 (by omega)
  have C_w10 := Chg.newRng C_w7 c_w10 (by omega)
  have p9 := q_w10
  refine s_val rfl rfl (r_assign) rfl ?_
  refine s_end ?_
  refine go_seq ?_
  refine go_region 11 rfl rfl ?_
  refine s_val rfl rfl (r_move) rfl ?_
  refine s_val rfl rfl (r_len Try.runUnderlying22 rfl) rfl ?_
  refine s_val rfl rfl (r_eql rfl rfl) rfl ?_
  refine s_do rfl rfl (w_call Try.call8 rfl (when_spec (decide ((n : Int) = 0)) (10) _)) rfl ?_
  rintro _ w11 ⟨rfl, c_w11⟩
  have hs_w11 : w10.heap.size ≤ w11.heap.size := Chg.size c_w11
  replace p4 := p4.k c_w11
  replace p9 := p9.k c_w11
  have C_w11 := Chg.pure C_w10 c_w11
  refine s_val rfl rfl (r_move) rfl ?_
  refine s_val rfl rfl (r_len Try.runUnderlying22 rfl) rfl ?_
  refine s_val rfl rfl (r_gtr rfl rfl) rfl ?_
  refine s_do rfl rfl (w_call Try.call8 rfl (when_spec (decide ((1048576 : Int) < (n : Int))) (5) _)) rfl ?_
  rintro _ w12 ⟨rfl, c_w12⟩
  have hs_w12 : w11.heap.size ≤ w12.heap.size := Chg.size c_w12
  replace p4 := p4.k c_w12
  replace p9 := p9.k c_w12
  have C_w12 := Chg.pure C_w11 c_w12
  refine s_do rfl rfl (w_build2 (E := 26) Try.underlying66 (i := Try.t26) (by kernel_rfl) rfl rfl rfl rfl rfl rfl rfl) rfl ?_
  rintro _ w13 ⟨b14, rfl, hl_b14, hu_b14, o16, p15, c_w13⟩
  have hs_w13 : w12.heap.size ≤ w13.heap.size := Chg.size c_w13
  replace p4 := p4.k c_w13
  replace p9 := p9.k c_w13
  have C_w13 := Chg.pure C_w12 c_w13
  have hn_b14 : w.heap.size ≤ b14 := by have := Chg.size C_w13; omega
  clear o16
  replace p15 : Pc w13 b14 0 [(i64 ((if (decide ((n : Int) = 0)) = true then (10 : Int) else 0))), (i64 ((if (decide ((1048576 : Int) < (n : Int))) = true then (5 : Int) else 0)))] := p15
  refine s_do rfl rfl (w_call Try.call7 rfl (first_spec [(if (decide ((n : Int) = 0)) = true then (10 : Int) else 0), (if (decide ((1048576 : Int) < (n : Int))) = true then (5 : Int) else 0)] _ _ _ _ rfl (by decide) (SlAt.some p15.rd))) rfl ?_
  rintro _ w17 ⟨rfl, c_w17⟩
  have hs_w17 : w13.heap.size ≤ w17.heap.size := Chg.size c_w17
  replace p4 := p4.k c_w17
  replace p9 := p9.k c_w17
  replace p15 := p15.k c_w17
  have C_w17 := Chg.pure C_w13 c_w17
  refine s_val rfl rfl (r_assign) rfl ?_
  refine s_end ?_
  refine go_seq ?_
  refine go_seq ?_
  refine go_region 6 rfl rfl ?_
  refine s_do rfl rfl (w_call Try.call9 rfl (vaults_spec _)) rfl ?_
  rintro _ w18 ⟨rfl, c_w18⟩
  have hs_w18 : w17.heap.size ≤ w18.heap.size := Chg.size c_w18
  replace p4 := p4.k c_w18
  replace p9 := p9.k c_w18
  replace p15 := p15.k c_w18
  have C_w18 := Chg.pure C_w17 c_w18
  refine s_val rfl rfl (r_not rfl) rfl ?_
  refine s_val rfl rfl (r_move) rfl ?_
  refine s_val_g rfl rfl (r_move) rfl ?_
  refine s_val_g rfl rfl (r_neq rfl rfl) rfl ?_
  refine s_val rfl rfl (r_pick false rfl) rfl ?_
  refine s_end ?_
  refine go_ifb _ rfl (fun h19 => ?_) (fun h19 => ?_)
  · first | replace h19 := of_decide_eq_true h19 | replace h19 := of_decide_eq_false (nt h19) | skip
    have pqC := (Pc.split (Pc.split p9 (n := 1) rfl).2 (n := 1) rfl).2
    refine go_seq ?_
    refine go_region 32 rfl rfl ?_
    refine s_do rfl rfl (w_call Try.call9 rfl (vaults_spec _)) rfl ?_
    rintro _ w20 ⟨rfl, c_w20⟩
    have hs_w20 : w18.heap.size ≤ w20.heap.size := Chg.size c_w20
    replace p4 := p4.k c_w20
    replace p9 := p9.k c_w20
    replace p15 := p15.k c_w20
    replace pqC := pqC.k c_w20
    have C_w20 := Chg.pure C_w18 c_w20
    refine s_val rfl rfl (r_move) rfl ?_
    refine s_val_g rfl rfl (r_loadN Try.isAgg25 Try.sizeOf25 rfl p4.rd (by first | exact bs_len (by omega) | exact bs_len (by simp; done) | exact bs_len (by simp; omega))) rfl ?_
    refine s_val_g rfl rfl (r_buildA Try.zeroValue25 Try.runUnderlying25 Try.sizeOf5 (cs := bs (List.replicate 32 0)) (by kernel_rfl)) rfl ?_
    refine s_val_g rfl rfl (r_eqArr Try.underlying25 Try.underlying5 Try.sizeOf5 rfl rfl (by first | omega | (simp; done) | (simp; omega)) (by first | omega | (simp; done) | (simp; omega)) (by kernel_rfl)) rfl ?_
    refine s_val rfl rfl (r_pick true rfl) rfl ?_
    refine s_valB rfl rfl (r_move) rfl (fun h21 => ?_) (fun h21 => ?_)
    · first | replace h21 := of_decide_eq_true h21 | replace h21 := of_decide_eq_false (nt h21) | skip
      refine s_val_g rfl rfl (r_move) rfl ?_
      refine s_val_g rfl rfl (r_eql rfl rfl) rfl ?_
      refine s_val rfl rfl (r_pick true rfl) rfl ?_
      refine s_valB rfl rfl (r_move) rfl (fun h22 => ?_) (fun h22 => ?_)
      · first | replace h22 := of_decide_eq_true h22 | replace h22 := of_decide_eq_false (nt h22) | skip
        refine s_val_g rfl rfl (r_move) rfl ?_
        refine s_val_g rfl rfl (r_move) rfl ?_
        refine s_val_g rfl rfl (r_eql rfl rfl) rfl ?_
        refine s_val rfl rfl (r_pick true rfl) rfl ?_
        refine s_valB rfl rfl (r_move) rfl (fun h23 => ?_) (fun h23 => ?_)
        · first | replace h23 := of_decide_eq_true h23 | replace h23 := of_decide_eq_false (nt h23) | skip
          refine s_val_g rfl rfl (r_move) rfl ?_
          refine s_val_g rfl rfl (r_len Try.runUnderlying22 rfl) rfl ?_
          refine s_val_g rfl rfl (r_eql rfl rfl) rfl ?_
          refine s_val rfl rfl (r_pick true rfl) rfl ?_
          refine s_valB rfl rfl (r_move) rfl (fun h24 => ?_) (fun h24 => ?_)
          · first | replace h24 := of_decide_eq_true h24 | replace h24 := of_decide_eq_false (nt h24) | skip
            refine s_val_g rfl rfl (r_fieldAddr Try.runUnderlying31 rfl Try.sizeOf29 rfl rfl) rfl ?_
            refine s_val_g rfl rfl (r_load1 Try.isAgg29 rfl pqC.rd) rfl ?_
            refine s_val_g rfl rfl (r_len Try.runUnderlying29 rfl) rfl ?_
            refine s_val_g rfl rfl (r_eql rfl rfl) rfl ?_
            refine s_val rfl rfl (r_pick true rfl) rfl ?_
            refine s_valB rfl rfl (r_move) rfl (fun h25 => ?_) (fun h25 => ?_)
            · first | replace h25 := of_decide_eq_true h25 | replace h25 := of_decide_eq_false (nt h25) | skip
              refine s_val_g rfl rfl (r_move) rfl ?_
              refine s_val_g rfl rfl (r_move) rfl ?_
              refine s_val_g rfl rfl (r_eql rfl rfl) rfl ?_
              refine s_val rfl rfl (r_pick true rfl) rfl ?_
              refine s_val rfl rfl (r_assign) rfl ?_
              refine s_end ?_
              refine go_ret ?_
              refine ⟨_, .cons rfl (.nil), ?_⟩
              exact ⟨congrArg Value.bool (decide_eq_true (own_bad hbad).symm), C_w20⟩
            · first | replace h25 := of_decide_eq_false h25 | replace h25 := of_decide_eq_true (nf h25) | skip
              exfalso
              omega
          · first | replace h24 := of_decide_eq_false h24 | replace h24 := of_decide_eq_true (nf h24) | skip
            exfalso
            omega
        · first | replace h23 := of_decide_eq_false h23 | replace h23 := of_decide_eq_true (nf h23) | skip
          exfalso
          have hob_ := own_bad hbad
          omega
      · first | replace h22 := of_decide_eq_false h22 | replace h22 := of_decide_eq_true (nf h22) | skip
        exfalso
        omega
    · first | replace h21 := of_decide_eq_false h21 | replace h21 := of_decide_eq_true (nf h21) | skip
      exfalso
      exact h21 rfl
  · first | replace h19 := of_decide_eq_false h19 | replace h19 := of_decide_eq_true (nf h19) | skip
    exfalso
    have hob_ := own_bad hbad
    omega

end Go.Proofs.Ytdnccchcflaphaa
