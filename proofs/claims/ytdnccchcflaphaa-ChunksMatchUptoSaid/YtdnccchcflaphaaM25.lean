/- M25: contracts of functions of the program: called in any world that meets a contract's premises, the function returns what the contract says and changes no more than it says. -/
import Derived.Test.YtdnccchcflaphaaCm
import Derived.Test.YtdnccchcflaphaaEng8
import Derived.Test.YtdnccchcflaphaaEng9
import Derived.Test.YtdnccchcflaphaaEng10
import Derived.Test.YtdnccchcflaphaaEng11
import Derived.Test.YtdnccchcflaphaaEng12
import Derived.Test.YtdnccchcflaphaaChecked
open Go Go.Eng Go.Proofs
namespace Go.Proofs.Ytdnccchcflaphaa
set_option maxHeartbeats 8000000 in
set_option maxRecDepth 100000 in
theorem chunksMatchO_spec (l : List UInt8) (k : Int) (order : List Int) (at_ many : Int) (by_ : UInt8) (ab ao : Option Addr) (n cb M co : Nat) (w : World) (hn : l.length = n) (h0 : 0 < n) (hbig : n ≤ 1048576) (hc : n ≤ cb) (hM : order.length = M) (hMb : M ≤ 1048576) (hcM : M ≤ co) (hsl : SlAt w ab (bs l)) (hso : SlAt w ao (order.map i64)) (hk0 : 0 ≤ k) (hk1 : k < ((chunksL l).length : Int)) :
    Rtn Try.prog 3 [Value.slice ab n cb, i64 k, Value.slice ao M co, i64 at_, u8 by_, i64 many].toArray w (fun v w' => v = .bool true ∧ Kept w w') := by
  have hcl := (chunksL_len n l hn h0).1
  refine fn_body (l := [Value.slice ab n cb, i64 k, Value.slice ao M co, i64 at_, u8 by_, i64 many]) 242 [.tmp 12] Try.func3 rfl Try.ntmps3 (Nat.le_of_ble_eq_true rfl) (by rw [Try.results3]) ?_
  refine go_seq ?_
  refine go_region 1 rfl rfl ?_
  refine s_val rfl rfl (r_assign) rfl ?_
  refine s_end ?_
  refine go_seq ?_
  refine go_region 10 rfl rfl ?_
  refine s_val rfl rfl (r_move) rfl ?_
  refine s_do rfl rfl (w_call Try.call5 rfl (rootOf_spec l _ _ _ _ hn h0 hbig hc (hsl.k (Chg.refl no w)))) rfl ?_
  rintro _ w1 ⟨rfl, c_w1⟩
  have hs_w1 : w.heap.size ≤ w1.heap.size := Chg.size c_w1
  have C_w1 := Chg.pure (Chg.refl no w) c_w1
  have hrl : (rootH (hashB 2) ((chunksL l).map (hashB 1))).length = 32 := rootH_len (hashB_length 2) (map32 (hashB_length 1) _) (by rw [List.length_map]; omega)
  refine s_val rfl rfl (r_move) rfl ?_
  refine s_val rfl rfl (r_extract rfl rfl) rfl ?_
  refine s_val rfl rfl (r_extract rfl rfl) rfl ?_
  refine s_val rfl rfl (r_extract rfl rfl) rfl ?_
  refine s_do rfl rfl (w_alloc (bs (List.replicate 32 0)) Try.zeroValue25 (by kernel_rfl)) rfl ?_
  rintro _ w2 ⟨b3, rfl, hl_b3, hu_b3, p4, c_w2⟩
  have hs_w2 : w1.heap.size ≤ w2.heap.size := Chg.size c_w2
  have C_w2 := Chg.pure C_w1 c_w2
  have hn_b3 : w.heap.size ≤ b3 := by have := Chg.size C_w2; omega
  refine s_do rfl rfl (w_storeA (o := 0) Try.sizeOf25 rfl rfl (by first | exact bs_len (by omega) | exact bs_len (by simp; done) | exact bs_len (by simp; omega)) (flat_bs _) p4 (by first | exact bs_len (by omega) | exact bs_len (by simp; done) | exact bs_len (by simp; omega))) rfl ?_
  rintro _ w5 ⟨q_w5, c_w5⟩
  have hs_w5 : w2.heap.size ≤ w5.heap.size := Chg.size c_w5
  have C_w5 := Chg.newRng C_w2 c_w5 (by omega)
  have p4 := q_w5
  refine s_val rfl rfl (r_assign) rfl ?_
  refine s_val rfl rfl (r_assign) rfl ?_
  refine s_end ?_
  refine go_seq ?_
  refine go_region 11 rfl rfl ?_
  refine s_val rfl rfl (r_move) rfl ?_
  refine s_val rfl rfl (r_move) rfl ?_
  refine s_do rfl rfl (w_call Try.call6 rfl (chunkO_spec k l _ _ _ _ hn h0 hbig hc (hsl.k C_w5) hk0 hk1)) rfl ?_
  rintro _ w6 ⟨aC, cC, nC, aP, cP, nP, rfl, hcC, hcP, hlC, h0C, h1C, hC, hlP, hP, c_w6⟩
  have hs_w6 : w5.heap.size ≤ w6.heap.size := Chg.size c_w6
  replace p4 := p4.k c_w6
  have C_w6 := Chg.pure C_w5 c_w6
  have hiC := SlAt.blk hC
  have hiP := SlAt.blk hP
  have hpP := pathH_le (hashB 2) ((chunksL l).map (hashB 1)) k.toNat
  rw [List.length_map] at hpP
  refine s_val rfl rfl (r_move) rfl ?_
  refine s_val rfl rfl (r_extract rfl rfl) rfl ?_
  refine s_val rfl rfl (r_extract rfl rfl) rfl ?_
  refine s_val rfl rfl (r_extract rfl rfl) rfl ?_
  refine s_do rfl rfl (w_alloc ([i64 0] ++ ([i64 0] ++ ([.slice none 0 0]))) Try.zeroValue31 (by kernel_rfl)) rfl ?_
  rintro _ w7 ⟨b8, rfl, hl_b8, hu_b8, p9, c_w7⟩
  have hs_w7 : w6.heap.size ≤ w7.heap.size := Chg.size c_w7
  replace p4 := p4.k c_w7
  replace hC := hC.k c_w7
  replace hP := hP.k c_w7
  have C_w7 := Chg.pure C_w6 c_w7
  have hn_b8 : w.heap.size ≤ b8 := by have := Chg.size C_w7; omega
  refine s_val rfl rfl (r_assign) rfl ?_
  refine s_do rfl rfl (w_storeA (o := 0) Try.sizeOf31 rfl rfl rfl (flat_cons rfl (flat_cons rfl (flat_one rfl))) p9 rfl) rfl ?_
  rintro _ w10 ⟨q_w10, c_w10⟩
  have hs_w10 : w7.heap.size ≤ w10.heap.size := Chg.size c_w10
  replace p4 := p4.kb c_w10 (by omega)
  replace hC := SlAt.keptE hC c_w10 (fun hc_ b_ o_ ha_ o2_ m_ => by have h1_ := hiC hc_ _ ha_; have h2_ : b_ = b8 := m_.1; simp only at h1_; omega)
  replace hP := SlAt.keptE hP c_w10 (fun hc_ b_ o_ ha_ o2_ m_ => by have h1_ := hiP hc_ _ ha_; have h2_ : b_ = b8 := m_.1; simp only at h1_; omega)
  have C_w10 := Chg.newRng C_w7 c_w10 (by omega)
  have p9 := q_w10
  refine s_val rfl rfl (r_assign) rfl ?_
  refine s_end ?_
  refine go_seq ?_
  refine go_region 11 rfl rfl ?_
  refine s_val rfl rfl (r_move) rfl ?_
  refine s_val rfl rfl (r_len Try.runUnderlying22 rfl) rfl ?_
  refine s_val rfl rfl (r_eql rfl rfl) rfl ?_
  refine s_do rfl rfl (w_call Try.call8 rfl (when_spec (decide ((n : Int) = 0)) (10) _)) rfl ?_
  rintro _ w11 ⟨rfl, c_w11⟩
  have hs_w11 : w10.heap.size ≤ w11.heap.size := Chg.size c_w11
  replace p4 := p4.k c_w11
  replace hC := hC.k c_w11
  replace hP := hP.k c_w11
  replace p9 := p9.k c_w11
  have C_w11 := Chg.pure C_w10 c_w11
  refine s_val rfl rfl (r_move) rfl ?_
  refine s_val rfl rfl (r_len Try.runUnderlying22 rfl) rfl ?_
  refine s_val rfl rfl (r_gtr rfl rfl) rfl ?_
  refine s_do rfl rfl (w_call Try.call8 rfl (when_spec (decide ((1048576 : Int) < (n : Int))) (5) _)) rfl ?_
  rintro _ w12 ⟨rfl, c_w12⟩
  have hs_w12 : w11.heap.size ≤ w12.heap.size := Chg.size c_w12
  replace p4 := p4.k c_w12
  replace hC := hC.k c_w12
  replace hP := hP.k c_w12
  replace p9 := p9.k c_w12
  have C_w12 := Chg.pure C_w11 c_w12
  refine s_do rfl rfl (w_build2 (E := 26) Try.underlying66 (i := Try.t26) (by kernel_rfl) rfl rfl rfl rfl rfl rfl rfl) rfl ?_
  rintro _ w13 ⟨b14, rfl, hl_b14, hu_b14, o16, p15, c_w13⟩
  have hs_w13 : w12.heap.size ≤ w13.heap.size := Chg.size c_w13
  replace p4 := p4.k c_w13
  replace hC := hC.k c_w13
  replace hP := hP.k c_w13
  replace p9 := p9.k c_w13
  have C_w13 := Chg.pure C_w12 c_w13
  have hn_b14 : w.heap.size ≤ b14 := by have := Chg.size C_w13; omega
  clear o16
  replace p15 : Pc w13 b14 0 [(i64 ((if (decide ((n : Int) = 0)) = true then (10 : Int) else 0))), (i64 ((if (decide ((1048576 : Int) < (n : Int))) = true then (5 : Int) else 0)))] := p15
  refine s_do rfl rfl (w_call Try.call7 rfl (first_spec [(if (decide ((n : Int) = 0)) = true then (10 : Int) else 0), (if (decide ((1048576 : Int) < (n : Int))) = true then (5 : Int) else 0)] _ _ _ _ rfl (by decide) (SlAt.some p15.rd))) rfl ?_
  rintro _ w17 ⟨rfl, c_w17⟩
  have hs_w17 : w13.heap.size ≤ w17.heap.size := Chg.size c_w17
  replace p4 := p4.k c_w17
  replace hC := hC.k c_w17
  replace hP := hP.k c_w17
  replace p9 := p9.k c_w17
  replace p15 := p15.k c_w17
  have C_w17 := Chg.pure C_w13 c_w17
  refine s_val rfl rfl (r_assign) rfl ?_
  refine s_end ?_
  refine go_seq ?_
  refine go_seq ?_
  refine go_region 6 rfl rfl ?_
  refine s_do rfl rfl (w_call Try.call9 rfl (vaults_spec _)) rfl ?_
  rintro _ w18 ⟨rfl, c_w18⟩
  have hs_w18 : w17.heap.size ≤ w18.heap.size := Chg.size c_w18
  replace p4 := p4.k c_w18
  replace hC := hC.k c_w18
  replace hP := hP.k c_w18
  replace p9 := p9.k c_w18
  replace p15 := p15.k c_w18
  have C_w18 := Chg.pure C_w17 c_w18
  refine s_val rfl rfl (r_not rfl) rfl ?_
  refine s_val rfl rfl (r_move) rfl ?_
  refine s_val_g rfl rfl (r_move) rfl ?_
  refine s_val_g rfl rfl (r_neq rfl rfl) rfl ?_
  refine s_val rfl rfl (r_pick false rfl) rfl ?_
  refine s_end ?_
  refine go_ifb _ rfl (fun h19 => ?_) (fun h19 => ?_)
  · first | replace h19 := of_decide_eq_true h19 | replace h19 := of_decide_eq_false (nt h19) | skip
    exfalso
    rw [own_ok h0 hbig] at *; omega
  · first | replace h19 := of_decide_eq_false h19 | replace h19 := of_decide_eq_true (nf h19) | skip
    refine go_skip ?_
    refine go_seq ?_
    refine go_region 3 rfl rfl ?_
    refine s_val rfl rfl (r_move) rfl ?_
    refine s_do rfl rfl (w_call Try.call10 rfl (chunksR_spec l _ _ _ _ hn h0 hbig hc (hsl.k C_w18))) rfl ?_
    rintro _ w20 ⟨aK, cK, vK, rfl, hcK, oK, hokK, c_w20⟩
    have hs_w20 : w18.heap.size ≤ w20.heap.size := Chg.size c_w20
    replace p4 := p4.k c_w20
    replace hC := hC.k c_w20
    replace hP := hP.k c_w20
    replace p9 := p9.k c_w20
    replace p15 := p15.k c_w20
    have C_w20 := Chg.pure C_w18 c_w20
    replace hokK := hokK w hsl
    have hvK : vK.length = (chunksL l).length := hokK.1.symm
    have hK := Owns.sl oK
    have hiK := SlAt.blk hK
    clear oK
    refine s_val rfl rfl (r_assign) rfl ?_
    refine s_end ?_
    refine go_seq ?_
    refine go_region 1 rfl rfl ?_
    refine s_val rfl rfl (r_assign) rfl ?_
    refine s_end ?_
    refine go_seq ?_
    refine go_seq ?_
    refine go_region 3 rfl rfl ?_
    refine s_val rfl rfl (r_move) rfl ?_
    refine s_val rfl rfl (r_len Try.runUnderlying37 rfl) rfl ?_
    refine s_val rfl rfl (r_move) rfl ?_
    refine s_end ?_
    refine go_block ?_
    refine go_loopM (σ := Nat × Option Addr × Nat × Nat) [(21, 21), (23, 23), (93, 102)] (fun (x_ : Nat × Option Addr × Nat × Nat) e' w' => match x_ with | (j, a1, n1, c1) => e' 93 = i64 (j : Nat) ∧ e' 21 = Value.slice a1 n1 c1 ∧ j ≤ (chunksL l).length ∧ n1 = j ∧ w20.heap.size ≤ w'.heap.size ∧ Owns w' w20.heap.size 25 32 (Value.slice a1 n1 c1) n1 (bs (((chunksL l).take j).map (hashR 1)).flatten) ∧ n1 ≤ c1 ∧ w20.heap.size ≤ w'.heap.size ∧ Pc w' b3 0 (bs (rootH (hashB 2) ((chunksL l).map (hashB 1)))) ∧ b3 < w'.heap.size ∧ SlAt w' aK vK ∧ SlAt w' aC (bs ((chunksL l).getD k.toNat [])) ∧ SlAt w' aP (bs (pathH (hashB 2) ((chunksL l).map (hashB 1)) k.toNat).flatten) ∧ Pc w' b8 0 ([i64 k] ++ ([i64 ((chunksL l).length : Nat)] ++ [Value.slice aP nP cP])) ∧ b8 < w'.heap.size ∧ Chg no w w') (fun (x_ : Nat × Option Addr × Nat × Nat) => match x_ with | (j, a1, n1, c1) => (chunksL l).length - j) (0, none, 0, 0) ?_ ?_
    · exact ⟨rfl, rfl, by omega, rfl, by omega, Owns.nil _ _ _ _, by omega, by omega, p4, by omega, hK, hC, hP, p9, by omega, C_w20⟩
    rintro ⟨j, a1, n1, c1⟩ f22 w21 ⟨e23, e24, hk, hn1, hB_ho1, ho1, hc1, hB0, pr13, hub13, hK, hC, hP, pq17, hub17, C_w21⟩
    have ob_26 : ∃ g_, f22 = upd g_ 93 (i64 (j : Nat)) := ⟨f22, upd_id e23⟩
    obtain ⟨f25, rfl⟩ := ob_26
    have ob_28 : ∃ g_, f25 = upd g_ 21 (Value.slice a1 n1 c1) := ⟨f25, upd_id e24⟩
    obtain ⟨f27, rfl⟩ := ob_28
    clear e23 e24
    have hs_w21 : w.heap.size ≤ w21.heap.size := Chg.size C_w21
    refine go_seq ?_
    refine go_region 1 rfl rfl ?_
    refine s_val rfl rfl (r_lss rfl rfl) rfl ?_
    refine s_end ?_
    refine go_seq ?_
    refine go_ifb _ rfl (fun hjl => ?_) (fun hjl => ?_)
    · first | replace hjl := of_decide_eq_true hjl | replace hjl := of_decide_eq_false (nt hjl) | skip
      have ob_29 := hokK.2 j (by omega)
      obtain ⟨ak, nk, ck, hvk, hlk, h0k, hck, hak⟩ := ob_29
      have hlb := chunksL_small hn (by omega) j
      refine go_skip ?_
      refine go_seq ?_
      refine go_block ?_
      refine go_seq ?_
      refine go_region 3 rfl rfl ?_
      refine s_val rfl rfl (r_indexSl (k := j) Try.runUnderlying37 Try.sizeOf22 rfl hK (by intro h_; rw [h_, List.length_nil] at hvK; omega) rfl (by first | rfl | omega) (by omega)) rfl ?_
      refine s_val rfl rfl (r_loadSl1 Try.isAgg22 rfl hK hvk) rfl ?_
      refine s_val rfl rfl (r_assign) rfl ?_
      refine s_end ?_
      refine go_region 6 rfl rfl ?_
      refine s_val rfl rfl (r_move) rfl ?_
      refine s_val rfl rfl (r_move) rfl ?_
      refine s_do rfl rfl (w_call Try.call11 rfl (leafR_h ((chunksL l).getD j []) _ _ _ _ (by first | omega | (simp; done) | (simp; omega)) (by first | omega | (simp; done) | (simp; omega)) (by first | omega | (simp; done) | (simp; omega)) (hak.k C_w21))) rfl ?_
      rintro _ w30 ⟨rfl, c_w30⟩
      have hs_w30 : w21.heap.size ≤ w30.heap.size := Chg.size c_w30
      replace ho1 := ho1.k c_w30
      replace pr13 := pr13.k c_w30
      replace hK := hK.k c_w30
      replace hC := hC.k c_w30
      replace hP := hP.k c_w30
      replace pq17 := pq17.k c_w30
      have C_w30 := Chg.pure C_w21 c_w30
      refine s_do rfl rfl (w_buildA1 (E := 25) (sz := 32) Try.underlying29 (i := Try.t25) (by kernel_rfl) rfl rfl rfl rfl rfl rfl (by first | exact bs_len (by omega) | exact bs_len (by simp; done) | exact bs_len (by simp; omega))) rfl ?_
      rintro _ w31 ⟨b32, rfl, hl_b32, hu_b32, o34, p33, c_w31⟩
      have ne_b32_ho1 := Owns.ne_ge ho1 hl_b32
      have hs_w31 : w30.heap.size ≤ w31.heap.size := Chg.size c_w31
      replace ho1 := ho1.k c_w31
      replace pr13 := pr13.k c_w31
      replace hK := hK.k c_w31
      replace hC := hC.k c_w31
      replace hP := hP.k c_w31
      replace pq17 := pq17.k c_w31
      have C_w31 := Chg.pure C_w30 c_w31
      have hn_b32 : w.heap.size ≤ b32 := by have := Chg.size C_w31; omega
      refine s_do rfl rfl (w_append (E := 25) (sz := 32) Try.underlying29 rfl (i := Try.t25) (by kernel_rfl) rfl rfl rfl rfl (by rfl) ho1 rfl (SlAt.some p33.rd) (by first | (rw [bs_length]; omega) | (simp [bs_length]; done) | (simp [bs_length]; omega) | rfl) (flat_bs _) (by omega) (by show _ * 32 ≤ _; omega) (by omega)) rfl ?_
      rintro v39 w35 ⟨o36, c_w35⟩
      have hs_w35 : w31.heap.size ≤ w35.heap.size := Chg.size c_w35
      replace pr13 := pr13.kob c_w35 (Owns.ne_lt ho1 (by omega))
      replace hK := SlAt.keptE hK c_w35 (fun hc_ b_ o_ ha_ o2_ m_ => by have h1_ := hiK hc_ _ ha_; simp only at h1_; exact Owns.ne_lt ho1 (by omega) m_)
      replace hC := SlAt.keptE hC c_w35 (fun hc_ b_ o_ ha_ o2_ m_ => by have h1_ := hiC hc_ _ ha_; simp only at h1_; exact Owns.ne_lt ho1 (by omega) m_)
      replace hP := SlAt.keptE hP c_w35 (fun hc_ b_ o_ ha_ o2_ m_ => by have h1_ := hiP hc_ _ ha_; simp only at h1_; exact Owns.ne_lt ho1 (by omega) m_)
      replace pq17 := pq17.kob c_w35 (Owns.ne_lt ho1 (by omega))
      replace p33 := p33.kob c_w35 ne_b32_ho1
      have C_w35 := Chg.newOb C_w31 c_w35 ho1 (by omega)
      have hfo_o36 := Owns.form2 o36
      obtain ⟨A37, cap38, e_o36, hc_cap38⟩ := hfo_o36
      subst e_o36
      replace o36 := Owns.appS (L := (((chunksL l).take j).map (hashR 1))) o36
      refine s_val rfl rfl (r_assign) rfl ?_
      refine s_end ?_
      refine go_nil (block_normal ?_)
      refine go_region 2 rfl rfl ?_
      refine s_val rfl rfl (r_addi rfl rfl (by omega)) rfl ?_
      refine s_val rfl rfl (r_move) rfl ?_
      refine s_end ?_
      refine go_nil (loop_normal ⟨⟨(j + 1, _, n1 + 1, _), by first | omega | (dsimp only; omega), ⟨rfl, rfl, by omega, by omega, by omega, by rw [map_snoc _ (by omega)]; exact o36, by omega, by omega, pr13, by omega, hK, hC, hP, pq17, by omega, C_w35⟩⟩, (by repeat (first | exact same_refl | exact same_over | refine same_upd rfl ?_ | refine same_over2 rfl ?_))⟩)
    · first | replace hjl := of_decide_eq_false hjl | replace hjl := of_decide_eq_true (nf hjl) | skip
      have hkn : j = (chunksL l).length := by omega
      have htl : (chunksL l).take j = chunksL l := List.take_of_length_le (by omega)
      rw [htl] at ho1
      have hLf := Owns.sl ho1
      have hiL := SlAt.blk hLf
      clear ho1
      have hn1' : n1 = (chunksL l).length := by omega
      have pqB := (Pc.split pq17 (n := 1) rfl).2
      have pqC := (Pc.split pqB (n := 1) rfl).2
      refine go_exit (loop_exit (block_hit ?_))
      refine go_seq ?_
      refine go_seq ?_
      refine go_drawsK 12 (.take 0 (.take 1 (.take 2 (.take 3 (.take 4 (.take 5 (.take 6 (.take 7 (.take 8 (.take 9 (.take 10 (.eff 11 (.eff 12 (.eff 13 .done)))))))))))))) (by kernel_rfl) (by kernel_rfl) fun w40 c_w40 => ?_
      have hs_w40 : w21.heap.size ≤ w40.heap.size := Chg.size c_w40
      replace pr13 := pr13.k c_w40
      replace hK := hK.k c_w40
      replace hC := hC.k c_w40
      replace hP := hP.k c_w40
      replace pq17 := pq17.k c_w40
      replace hLf := hLf.k c_w40
      replace pqB := pqB.k c_w40
      replace pqC := pqC.k c_w40
      have C_w40 := Chg.pure C_w21 c_w40
      have pr13_0 := pr13
      have hK_0 := hK
      have hC_0 := hC
      have hP_0 := hP
      have pq17_0 := pq17
      have hLf_0 := hLf
      have pqB_0 := pqB
      have pqC_0 := pqC
      refine s_takeK rfl rfl (w0 := w40) (fun x_ c_ => r_move) ?_
      refine s_takeK rfl rfl (w0 := w40) (fun x_ c_ => r_neq rfl rfl) ?_
      refine s_takeB rfl rfl (by intro x_ hx_; (try subst hx_); exact r_move) (fun h41 => ?_) (fun h41 => ?_)
      · first | replace h41 := of_decide_eq_true h41 | replace h41 := of_decide_eq_false (nt h41) | skip
        exfalso
        omega
      · first | replace h41 := of_decide_eq_false h41 | replace h41 := of_decide_eq_true (nf h41) | skip
        refine s_takeKg rfl rfl (w0 := w40) (fun x_ c_ => r_move) ?_
        refine s_takeKg rfl rfl (w0 := w40) (fun x_ c_ => r_move) ?_
        refine s_takeKg rfl rfl (w0 := w40) (fun x_ c_ => r_len Try.runUnderlying37 rfl) ?_
        refine s_takeKg rfl rfl (w0 := w40) (fun x_ c_ => r_neq rfl rfl) ?_
        refine s_takeK rfl rfl (w0 := w40) (fun x_ c_ => r_pick false rfl) ?_
        refine s_takeB rfl rfl (by intro x_ hx_; (try subst hx_); exact r_move) (fun h42 => ?_) (fun h42 => ?_)
        · first | replace h42 := of_decide_eq_true h42 | replace h42 := of_decide_eq_false (nt h42) | skip
          exfalso
          omega
        · first | replace h42 := of_decide_eq_false h42 | replace h42 := of_decide_eq_true (nf h42) | skip
          refine s_takeKg rfl rfl (w0 := w40) (fun x_ c_ => r_loadN Try.isAgg25 Try.sizeOf25 rfl (pr13_0.k c_).rd (by first | exact bs_len (by omega) | exact bs_len (by simp; done) | exact bs_len (by simp; omega))) ?_
          refine s_takeKg rfl rfl (w0 := w40) (fun x_ c_ => r_move) ?_
          refine s_fxKg rfl rfl (w_call Try.call12 rfl (rootR_spec _ ((chunksL l).map (hashR 1)) _ _ _ _ rfl (by first | omega | (simp; done) | (simp; omega)) (by first | omega | (simp; done) | (simp; omega)) (by first | omega | (simp; done) | (simp; omega)) (by first | omega | (simp; done) | (simp; omega)) (map32 (hashR_length 1) _) hLf)) ?_
          rintro _ w43 ⟨rfl, c_w43⟩
          have hs_w43 : w40.heap.size ≤ w43.heap.size := Chg.size c_w43
          replace pr13 := pr13.k c_w43
          replace hK := hK.k c_w43
          replace hC := hC.k c_w43
          replace hP := hP.k c_w43
          replace pq17 := pq17.k c_w43
          replace hLf := hLf.k c_w43
          replace pqB := pqB.k c_w43
          replace pqC := pqC.k c_w43
          have C_w43 := Chg.pure C_w40 c_w43
          have hr_w43 : (rootH (hashR 2) ((chunksL l).map (hashR 1))).length = 32 := rootH_len (hashR_length 2) (map32 (hashR_length 1) _) (by first | omega | (simp; done) | (simp; omega))
          have K_w43 := Chg.pure (Chg.refl no w40) c_w43
          refine ⟨K_w43, ?_⟩
          refine s_val_g rfl rfl (r_neqArr Try.underlying25 Try.underlying5 Try.sizeOf5 rfl rfl (by first | omega | (simp; done) | (simp; omega)) (by first | omega | (simp; done) | (simp; omega)) (by kernel_rfl)) rfl ?_
          refine s_val rfl rfl (r_pick false rfl) rfl ?_
          refine s_end ?_
          refine go_ifb _ rfl (fun h44 => ?_) (fun h44 => ?_)
          · first | replace h44 := of_decide_eq_true h44 | replace h44 := of_decide_eq_false (nt h44) | skip
            exfalso
            exact h44 (by rw [hash_fn])
          · first | replace h44 := of_decide_eq_false h44 | replace h44 := of_decide_eq_true (nf h44) | skip
            refine go_skip ?_
            refine go_seq ?_
            refine go_seq ?_
            refine go_region 5 rfl rfl ?_
            refine s_val rfl rfl (r_move) rfl ?_
            refine s_val rfl rfl (r_move) rfl ?_
            refine s_val rfl rfl (r_subi rfl rfl (by omega)) rfl ?_
            refine s_do rfl rfl (w_call Try.call13 rfl (in_spec _ _ _ _)) rfl ?_
            rintro _ w45 ⟨rfl, c_w45⟩
            have hs_w45 : w43.heap.size ≤ w45.heap.size := Chg.size c_w45
            replace pr13 := pr13.k c_w45
            replace hK := hK.k c_w45
            replace hC := hC.k c_w45
            replace hP := hP.k c_w45
            replace pq17 := pq17.k c_w45
            replace hLf := hLf.k c_w45
            replace pqB := pqB.k c_w45
            replace pqC := pqC.k c_w45
            have C_w45 := Chg.pure C_w43 c_w45
            refine s_val rfl rfl (r_not rfl) rfl ?_
            refine s_end ?_
            refine go_ifb _ rfl (fun h46 => ?_) (fun h46 => ?_)
            · first | replace h46 := of_decide_eq_true h46 | replace h46 := of_decide_eq_false (nt h46) | skip
              exfalso
              omega
            · first | replace h46 := of_decide_eq_false h46 | replace h46 := of_decide_eq_true (nf h46) | skip
              have ob_47 := hokK.2 k.toNat (by omega)
              obtain ⟨ak, nk, ck, hvk, hlk, h0k, hck, hak⟩ := ob_47
              have hlb := chunksL_small hn (by omega) k.toNat
              refine go_seq ?_
              refine go_meet [(135, 173)] (fun e' w' => e' 173 = .bool (decide (checkF (rootH (hashB 2) ((chunksL l).map (hashB 1))) ((chunksL l).getD k.toNat []) k ((chunksL l).length : Nat) (pathH (hashB 2) ((chunksL l).map (hashB 1)) k.toNat) ≠ 0)) ∧ w45.heap.size ≤ w'.heap.size ∧ Pc w' b3 0 (bs (rootH (hashB 2) ((chunksL l).map (hashB 1)))) ∧ b3 < w'.heap.size ∧ SlAt w' aK vK ∧ SlAt w' a1 (bs ((chunksL l).map (hashR 1)).flatten) ∧ Chg no w w') ?_ ?_
              ·
                refine go_drawsK 36 (.take 0 (.take 1 (.take 2 (.take 3 (.take 4 (.take 5 (.take 6 (.take 7 (.eff 8 (.take 9 (.take 10 (.take 11 (.take 12 (.take 14 (.eff 13 (.take 15 (.take 16 (.take 17 (.take 18 (.take 20 (.eff 19 (.take 21 (.take 22 (.take 23 (.take 24 (.take 26 (.take 27 (.alts (.eff 25 (.eff 28 (.eff 29 (.take 30 (.take 31 (.take 32 (.take 34 (.alts (.eff 33 (.eff 35 (.eff 36 (.eff 37 (.eff 38 .done))))) (.eff 35 (.eff 33 (.eff 36 (.eff 37 (.eff 38 .done))))))))))))) (.eff 28 (.eff 25 (.eff 29 (.take 30 (.take 31 (.take 32 (.take 34 (.alts (.eff 33 (.eff 35 (.eff 36 (.eff 37 (.eff 38 .done))))) (.eff 35 (.eff 33 (.eff 36 (.eff 37 (.eff 38 .done))))))))))))))))))))))))))))))))))))))))) (by kernel_rfl) (by kernel_rfl) fun w50 c_w50 => ?_
                have hs_w50 : w45.heap.size ≤ w50.heap.size := Chg.size c_w50
                replace pr13 := pr13.k c_w50
                replace hK := hK.k c_w50
                replace hC := hC.k c_w50
                replace hP := hP.k c_w50
                replace pq17 := pq17.k c_w50
                replace hLf := hLf.k c_w50
                replace pqB := pqB.k c_w50
                replace pqC := pqC.k c_w50
                have C_w50 := Chg.pure C_w45 c_w50
                have pr13_0 := pr13
                have hK_0 := hK
                have hC_0 := hC
                have hP_0 := hP
                have pq17_0 := pq17
                have hLf_0 := hLf
                have pqB_0 := pqB
                have pqC_0 := pqC
                refine s_takeK rfl rfl (w0 := w50) (fun x_ c_ => r_move) ?_
                refine s_takeK rfl rfl (w0 := w50) (fun x_ c_ => r_neq rfl rfl) ?_
                refine s_takeB rfl rfl (by intro x_ hx_; (try subst hx_); exact r_move) (fun h51 => ?_) (fun h51 => ?_)
                · first | replace h51 := of_decide_eq_true h51 | replace h51 := of_decide_eq_false (nt h51) | skip
                  exfalso
                  omega
                · first | replace h51 := of_decide_eq_false h51 | replace h51 := of_decide_eq_true (nf h51) | skip
                  refine s_takeKg rfl rfl (w0 := w50) (fun x_ c_ => r_move) ?_
                  refine s_takeKg rfl rfl (w0 := w50) (fun x_ c_ => r_move) ?_
                  refine s_takeKg rfl rfl (w0 := w50) (fun x_ c_ => r_move) ?_
                  refine s_takeKg rfl rfl (w0 := w50) (fun x_ c_ => r_indexSl (k := k.toNat) Try.runUnderlying37 Try.sizeOf22 rfl (hK_0.k c_) (by intro h_; rw [h_, List.length_nil] at hvK; omega) rfl (by first | rfl | omega) (by omega)) ?_
                  refine s_takeKg rfl rfl (w0 := w50) (fun x_ c_ => r_loadSl1 Try.isAgg22 rfl (hK_0.k c_) hvk) ?_
                  refine s_fxKg rfl rfl (w_call Try.call14 rfl (bytesEq_spec ((chunksL l).getD k.toNat []) ((chunksL l).getD k.toNat []) _ _ _ _ _ _ _ (by first | omega | (simp; done) | (simp; omega)) (by first | omega | (simp; done) | (simp; omega)) hC (hak.k C_w50))) ?_
                  rintro _ w52 ⟨rfl, c_w52⟩
                  have hs_w52 : w50.heap.size ≤ w52.heap.size := Chg.size c_w52
                  replace pr13 := pr13.k c_w52
                  replace hK := hK.k c_w52
                  replace hC := hC.k c_w52
                  replace hP := hP.k c_w52
                  replace pq17 := pq17.k c_w52
                  replace hLf := hLf.k c_w52
                  replace pqB := pqB.k c_w52
                  replace pqC := pqC.k c_w52
                  have C_w52 := Chg.pure C_w50 c_w52
                  have K_w52 := Chg.pure (Chg.refl no w50) c_w52
                  refine ⟨K_w52, ?_⟩
                  refine s_takeKg rfl rfl (w0 := w50) (fun x_ c_ => r_not rfl) ?_
                  refine s_takeK rfl rfl (w0 := w50) (fun x_ c_ => r_pick false rfl) ?_
                  refine s_takeB rfl rfl (by intro x_ hx_; (try subst hx_); exact r_move) (fun h53 => ?_) (fun h53 => ?_)
                  · first | replace h53 := of_decide_eq_true h53 | replace h53 := of_decide_eq_false (nt h53) | skip
                    exfalso
                    exact h53 rfl
                  · first | replace h53 := of_decide_eq_false h53 | replace h53 := of_decide_eq_true (nf h53) | skip
                    refine s_takeKg rfl rfl (w0 := w50) (fun x_ c_ => r_fieldAddr Try.runUnderlying31 rfl Try.sizeOf3 rfl rfl) ?_
                    refine s_takeKg rfl rfl (w0 := w50) (fun x_ c_ => r_move) ?_
                    refine s_valSg rfl rfl (r_load1 Try.isAgg3 rfl (Rd.left pq17.rd)) K_w52 ?_
                    refine s_takeKg rfl rfl (w0 := w50) (fun x_ c_ => r_neq rfl rfl) ?_
                    refine s_takeK rfl rfl (w0 := w50) (fun x_ c_ => r_pick false rfl) ?_
                    refine s_takeB rfl rfl (by intro x_ hx_; (try subst hx_); exact r_move) (fun h54 => ?_) (fun h54 => ?_)
                    · first | replace h54 := of_decide_eq_true h54 | replace h54 := of_decide_eq_false (nt h54) | skip
                      exfalso
                      omega
                    · first | replace h54 := of_decide_eq_false h54 | replace h54 := of_decide_eq_true (nf h54) | skip
                      refine s_takeKg rfl rfl (w0 := w50) (fun x_ c_ => r_fieldAddr Try.runUnderlying31 rfl Try.sizeOf3 rfl rfl) ?_
                      refine s_takeKg rfl rfl (w0 := w50) (fun x_ c_ => r_move) ?_
                      refine s_valSg rfl rfl (r_load1 Try.isAgg3 rfl (Rd.left pqB.rd)) K_w52 ?_
                      refine s_takeKg rfl rfl (w0 := w50) (fun x_ c_ => r_neq rfl rfl) ?_
                      refine s_takeK rfl rfl (w0 := w50) (fun x_ c_ => r_pick false rfl) ?_
                      refine s_takeB rfl rfl (by intro x_ hx_; (try subst hx_); exact r_move) (fun h55 => ?_) (fun h55 => ?_)
                      · first | replace h55 := of_decide_eq_true h55 | replace h55 := of_decide_eq_false (nt h55) | skip
                        exfalso
                        omega
                      · first | replace h55 := of_decide_eq_false h55 | replace h55 := of_decide_eq_true (nf h55) | skip
                        refine s_takeKg rfl rfl (w0 := w50) (fun x_ c_ => r_fieldAddr Try.runUnderlying31 rfl Try.sizeOf29 rfl rfl) ?_
                        refine s_takeKg rfl rfl (w0 := w50) (fun x_ c_ => r_move) ?_
                        refine s_takeKg rfl rfl (w0 := w50) (fun x_ c_ => r_move) ?_
                        refine s_alts ?_ ?_
                        ·
                          refine s_valSg rfl rfl (r_load1 Try.isAgg29 rfl pqC.rd) K_w52 ?_
                          refine s_fxKg rfl rfl (w_call Try.call16 rfl (pathR_spec _ ((chunksL l).map (hashR 1)) _ _ _ _ _ rfl (by first | omega | (simp; done) | (simp; omega)) (by first | omega | (simp; done) | (simp; omega)) (by first | omega | (simp; done) | (simp; omega)) (by first | omega | (simp; done) | (simp; omega)) (map32 (hashR_length 1) _) hLf (by omega) (by omega))) ?_
                          rintro v60 w56 ⟨o57, c_w56⟩
                          have hs_w56 : w52.heap.size ≤ w56.heap.size := Chg.size c_w56
                          replace pr13 := pr13.k c_w56
                          replace hK := hK.k c_w56
                          replace hC := hC.k c_w56
                          replace hP := hP.k c_w56
                          replace pq17 := pq17.k c_w56
                          replace hLf := hLf.k c_w56
                          replace pqB := pqB.k c_w56
                          replace pqC := pqC.k c_w56
                          have C_w56 := Chg.pure C_w52 c_w56
                          have hfo_o57 := Owns.form2 o57
                          obtain ⟨A58, cap59, e_o57, hc_cap59⟩ := hfo_o57
                          subst e_o57
                          have hpl_o57 := pathH_le (hashR 2) ((chunksL l).map (hashR 1)) (Int.toNat k)
                          have hpl2_o57 : (List.length ((chunksL l).map (hashR 1))) ≤ n := by first | omega | (simp; done) | (simp; omega)
                          have K_w56 := Chg.pure K_w52 c_w56
                          refine ⟨K_w56, ?_⟩
                          refine s_fxKg rfl rfl (w_call Try.call15 rfl (sumsEq_spec (pathH (hashB 2) ((chunksL l).map (hashB 1)) k.toNat) (pathH (hashR 2) ((chunksL l).map (hashR 1)) (Int.toNat k)) _ _ _ _ _ _ _ (by first | omega | (simp; done) | (simp; omega)) (by first | omega | (simp; done) | (simp; omega)) (by omega) (pathH_32 (hashB_length 2) _ ((chunksL l).map (hashB 1)) k.toNat rfl (map32 (hashB_length 1) _)) (pathH_32 (hashR_length 2) _ ((chunksL l).map (hashR 1)) (Int.toNat k) rfl (map32 (hashR_length 1) _)) hP (Owns.sl o57))) ?_
                          rintro _ w61 ⟨rfl, c_w61⟩
                          have hs_w61 : w56.heap.size ≤ w61.heap.size := Chg.size c_w61
                          replace pr13 := pr13.k c_w61
                          replace hK := hK.k c_w61
                          replace hC := hC.k c_w61
                          replace hP := hP.k c_w61
                          replace pq17 := pq17.k c_w61
                          replace hLf := hLf.k c_w61
                          replace pqB := pqB.k c_w61
                          replace pqC := pqC.k c_w61
                          replace o57 := o57.k c_w61
                          have C_w61 := Chg.pure C_w56 c_w61
                          have K_w61 := Chg.pure K_w56 c_w61
                          refine ⟨K_w61, ?_⟩
                          refine s_takeKg rfl rfl (w0 := w50) (fun x_ c_ => r_not rfl) ?_
                          refine s_takeK rfl rfl (w0 := w50) (fun x_ c_ => r_pick false rfl) ?_
                          refine s_takeB rfl rfl (by intro x_ hx_; (try subst hx_); exact r_move) (fun h62 => ?_) (fun h62 => ?_)
                          · first | replace h62 := of_decide_eq_true h62 | replace h62 := of_decide_eq_false (nt h62) | skip
                            exfalso
                            exact h62 (by rw [hash_fn])
                          · first | replace h62 := of_decide_eq_false h62 | replace h62 := of_decide_eq_true (nf h62) | skip
                            refine s_takeKg rfl rfl (w0 := w50) (fun x_ c_ => r_move) ?_
                            refine s_alts ?_ ?_
                            ·
                              refine s_valSg rfl rfl (r_loadN Try.isAgg25 Try.sizeOf25 rfl pr13.rd (by first | exact bs_len (by omega) | exact bs_len (by simp; done) | exact bs_len (by simp; omega))) K_w61 ?_
                              refine s_valSg rfl rfl (r_loadN Try.isAgg31 Try.sizeOf31 rfl pq17.rd rfl) K_w61 ?_
                              refine s_do_g rfl rfl (w_call Try.call17 rfl (check_spec (rootH (hashB 2) ((chunksL l).map (hashB 1))) ((chunksL l).getD k.toNat []) aC nC cC k ((chunksL l).length : Nat) (pathH (hashB 2) ((chunksL l).map (hashB 1)) k.toNat) aP nP cP _ hrl hlC h0C h1C hcC hC hlP hcP (by omega) (pathH_32 (hashB_length 2) _ ((chunksL l).map (hashB 1)) k.toNat rfl (map32 (hashB_length 1) _)) hP)) rfl ?_
                              rintro _ w63 ⟨rfl, c_w63⟩
                              have hs_w63 : w61.heap.size ≤ w63.heap.size := Chg.size c_w63
                              replace pr13 := pr13.k c_w63
                              replace hK := hK.k c_w63
                              replace hC := hC.k c_w63
                              replace hP := hP.k c_w63
                              replace pq17 := pq17.k c_w63
                              replace hLf := hLf.k c_w63
                              replace pqB := pqB.k c_w63
                              replace pqC := pqC.k c_w63
                              replace o57 := o57.k c_w63
                              have C_w63 := Chg.pure C_w61 c_w63
                              refine s_val_g rfl rfl (r_neq rfl rfl) rfl ?_
                              refine s_val rfl rfl (r_pick false rfl) rfl ?_
                              refine s_end ?_
                              refine go_nil (loop_normal ⟨?_, (by repeat (first | exact same_refl | exact same_over | refine same_upd rfl ?_ | refine same_over2 rfl ?_))⟩)
                              exact ⟨rfl, by omega, pr13, by omega, hK, hLf, C_w63⟩
                            ·
                              refine s_valSg rfl rfl (r_loadN Try.isAgg31 Try.sizeOf31 rfl pq17.rd rfl) K_w61 ?_
                              refine s_valSg rfl rfl (r_loadN Try.isAgg25 Try.sizeOf25 rfl pr13.rd (by first | exact bs_len (by omega) | exact bs_len (by simp; done) | exact bs_len (by simp; omega))) K_w61 ?_
                              refine s_do_g rfl rfl (w_call Try.call17 rfl (check_spec (rootH (hashB 2) ((chunksL l).map (hashB 1))) ((chunksL l).getD k.toNat []) aC nC cC k ((chunksL l).length : Nat) (pathH (hashB 2) ((chunksL l).map (hashB 1)) k.toNat) aP nP cP _ hrl hlC h0C h1C hcC hC hlP hcP (by omega) (pathH_32 (hashB_length 2) _ ((chunksL l).map (hashB 1)) k.toNat rfl (map32 (hashB_length 1) _)) hP)) rfl ?_
                              rintro _ w64 ⟨rfl, c_w64⟩
                              have hs_w64 : w61.heap.size ≤ w64.heap.size := Chg.size c_w64
                              replace pr13 := pr13.k c_w64
                              replace hK := hK.k c_w64
                              replace hC := hC.k c_w64
                              replace hP := hP.k c_w64
                              replace pq17 := pq17.k c_w64
                              replace hLf := hLf.k c_w64
                              replace pqB := pqB.k c_w64
                              replace pqC := pqC.k c_w64
                              replace o57 := o57.k c_w64
                              have C_w64 := Chg.pure C_w61 c_w64
                              refine s_val_g rfl rfl (r_neq rfl rfl) rfl ?_
                              refine s_val rfl rfl (r_pick false rfl) rfl ?_
                              refine s_end ?_
                              refine go_nil (loop_normal ⟨?_, (by repeat (first | exact same_refl | exact same_over | refine same_upd rfl ?_ | refine same_over2 rfl ?_))⟩)
                              exact ⟨rfl, by omega, pr13, by omega, hK, hLf, C_w64⟩
                        ·
                          refine s_fxKg rfl rfl (w_call Try.call16 rfl (pathR_spec _ ((chunksL l).map (hashR 1)) _ _ _ _ _ rfl (by first | omega | (simp; done) | (simp; omega)) (by first | omega | (simp; done) | (simp; omega)) (by first | omega | (simp; done) | (simp; omega)) (by first | omega | (simp; done) | (simp; omega)) (map32 (hashR_length 1) _) hLf (by omega) (by omega))) ?_
                          rintro v69 w65 ⟨o66, c_w65⟩
                          have hs_w65 : w52.heap.size ≤ w65.heap.size := Chg.size c_w65
                          replace pr13 := pr13.k c_w65
                          replace hK := hK.k c_w65
                          replace hC := hC.k c_w65
                          replace hP := hP.k c_w65
                          replace pq17 := pq17.k c_w65
                          replace hLf := hLf.k c_w65
                          replace pqB := pqB.k c_w65
                          replace pqC := pqC.k c_w65
                          have C_w65 := Chg.pure C_w52 c_w65
                          have hfo_o66 := Owns.form2 o66
                          obtain ⟨A67, cap68, e_o66, hc_cap68⟩ := hfo_o66
                          subst e_o66
                          have hpl_o66 := pathH_le (hashR 2) ((chunksL l).map (hashR 1)) (Int.toNat k)
                          have hpl2_o66 : (List.length ((chunksL l).map (hashR 1))) ≤ n := by first | omega | (simp; done) | (simp; omega)
                          have K_w65 := Chg.pure K_w52 c_w65
                          refine ⟨K_w65, ?_⟩
                          refine s_valSg rfl rfl (r_load1 Try.isAgg29 rfl pqC.rd) K_w65 ?_
                          refine s_fxKg rfl rfl (w_call Try.call15 rfl (sumsEq_spec (pathH (hashB 2) ((chunksL l).map (hashB 1)) k.toNat) (pathH (hashR 2) ((chunksL l).map (hashR 1)) (Int.toNat k)) _ _ _ _ _ _ _ (by first | omega | (simp; done) | (simp; omega)) (by first | omega | (simp; done) | (simp; omega)) (by omega) (pathH_32 (hashB_length 2) _ ((chunksL l).map (hashB 1)) k.toNat rfl (map32 (hashB_length 1) _)) (pathH_32 (hashR_length 2) _ ((chunksL l).map (hashR 1)) (Int.toNat k) rfl (map32 (hashR_length 1) _)) hP (Owns.sl o66))) ?_
                          rintro _ w70 ⟨rfl, c_w70⟩
                          have hs_w70 : w65.heap.size ≤ w70.heap.size := Chg.size c_w70
                          replace pr13 := pr13.k c_w70
                          replace hK := hK.k c_w70
                          replace hC := hC.k c_w70
                          replace hP := hP.k c_w70
                          replace pq17 := pq17.k c_w70
                          replace hLf := hLf.k c_w70
                          replace pqB := pqB.k c_w70
                          replace pqC := pqC.k c_w70
                          replace o66 := o66.k c_w70
                          have C_w70 := Chg.pure C_w65 c_w70
                          have K_w70 := Chg.pure K_w65 c_w70
                          refine ⟨K_w70, ?_⟩
                          refine s_takeKg rfl rfl (w0 := w50) (fun x_ c_ => r_not rfl) ?_
                          refine s_takeK rfl rfl (w0 := w50) (fun x_ c_ => r_pick false rfl) ?_
                          refine s_takeB rfl rfl (by intro x_ hx_; (try subst hx_); exact r_move) (fun h71 => ?_) (fun h71 => ?_)
                          · first | replace h71 := of_decide_eq_true h71 | replace h71 := of_decide_eq_false (nt h71) | skip
                            exfalso
                            exact h71 (by rw [hash_fn])
                          · first | replace h71 := of_decide_eq_false h71 | replace h71 := of_decide_eq_true (nf h71) | skip
                            refine s_takeKg rfl rfl (w0 := w50) (fun x_ c_ => r_move) ?_
                            refine s_alts ?_ ?_
                            ·
                              refine s_valSg rfl rfl (r_loadN Try.isAgg25 Try.sizeOf25 rfl pr13.rd (by first | exact bs_len (by omega) | exact bs_len (by simp; done) | exact bs_len (by simp; omega))) K_w70 ?_
                              refine s_valSg rfl rfl (r_loadN Try.isAgg31 Try.sizeOf31 rfl pq17.rd rfl) K_w70 ?_
                              refine s_do_g rfl rfl (w_call Try.call17 rfl (check_spec (rootH (hashB 2) ((chunksL l).map (hashB 1))) ((chunksL l).getD k.toNat []) aC nC cC k ((chunksL l).length : Nat) (pathH (hashB 2) ((chunksL l).map (hashB 1)) k.toNat) aP nP cP _ hrl hlC h0C h1C hcC hC hlP hcP (by omega) (pathH_32 (hashB_length 2) _ ((chunksL l).map (hashB 1)) k.toNat rfl (map32 (hashB_length 1) _)) hP)) rfl ?_
                              rintro _ w72 ⟨rfl, c_w72⟩
                              have hs_w72 : w70.heap.size ≤ w72.heap.size := Chg.size c_w72
                              replace pr13 := pr13.k c_w72
                              replace hK := hK.k c_w72
                              replace hC := hC.k c_w72
                              replace hP := hP.k c_w72
                              replace pq17 := pq17.k c_w72
                              replace hLf := hLf.k c_w72
                              replace pqB := pqB.k c_w72
                              replace pqC := pqC.k c_w72
                              replace o66 := o66.k c_w72
                              have C_w72 := Chg.pure C_w70 c_w72
                              refine s_val_g rfl rfl (r_neq rfl rfl) rfl ?_
                              refine s_val rfl rfl (r_pick false rfl) rfl ?_
                              refine s_end ?_
                              refine go_nil (loop_normal ⟨?_, (by repeat (first | exact same_refl | exact same_over | refine same_upd rfl ?_ | refine same_over2 rfl ?_))⟩)
                              exact ⟨rfl, by omega, pr13, by omega, hK, hLf, C_w72⟩
                            ·
                              refine s_valSg rfl rfl (r_loadN Try.isAgg31 Try.sizeOf31 rfl pq17.rd rfl) K_w70 ?_
                              refine s_valSg rfl rfl (r_loadN Try.isAgg25 Try.sizeOf25 rfl pr13.rd (by first | exact bs_len (by omega) | exact bs_len (by simp; done) | exact bs_len (by simp; omega))) K_w70 ?_
                              refine s_do_g rfl rfl (w_call Try.call17 rfl (check_spec (rootH (hashB 2) ((chunksL l).map (hashB 1))) ((chunksL l).getD k.toNat []) aC nC cC k ((chunksL l).length : Nat) (pathH (hashB 2) ((chunksL l).map (hashB 1)) k.toNat) aP nP cP _ hrl hlC h0C h1C hcC hC hlP hcP (by omega) (pathH_32 (hashB_length 2) _ ((chunksL l).map (hashB 1)) k.toNat rfl (map32 (hashB_length 1) _)) hP)) rfl ?_
                              rintro _ w73 ⟨rfl, c_w73⟩
                              have hs_w73 : w70.heap.size ≤ w73.heap.size := Chg.size c_w73
                              replace pr13 := pr13.k c_w73
                              replace hK := hK.k c_w73
                              replace hC := hC.k c_w73
                              replace hP := hP.k c_w73
                              replace pq17 := pq17.k c_w73
                              replace hLf := hLf.k c_w73
                              replace pqB := pqB.k c_w73
                              replace pqC := pqC.k c_w73
                              replace o66 := o66.k c_w73
                              have C_w73 := Chg.pure C_w70 c_w73
                              refine s_val_g rfl rfl (r_neq rfl rfl) rfl ?_
                              refine s_val rfl rfl (r_pick false rfl) rfl ?_
                              refine s_end ?_
                              refine go_nil (loop_normal ⟨?_, (by repeat (first | exact same_refl | exact same_over | refine same_upd rfl ?_ | refine same_over2 rfl ?_))⟩)
                              exact ⟨rfl, by omega, pr13, by omega, hK, hLf, C_w73⟩
              rintro f49 w48 ⟨e74, hB0, pr13, hub13, hK, hLf, C_w48⟩
              have ob_76 : ∃ g_, f49 = upd g_ 173 (.bool (decide (checkF (rootH (hashB 2) ((chunksL l).map (hashB 1))) ((chunksL l).getD k.toNat []) k ((chunksL l).length : Nat) (pathH (hashB 2) ((chunksL l).map (hashB 1)) k.toNat) ≠ 0))) := ⟨f49, upd_id e74⟩
              obtain ⟨f75, rfl⟩ := ob_76
              clear e74
              have hs_w48 : w.heap.size ≤ w48.heap.size := Chg.size C_w48
              refine go_ifb _ rfl (fun h77 => ?_) (fun h77 => ?_)
              · first | replace h77 := of_decide_eq_true h77 | replace h77 := of_decide_eq_false (nt h77) | skip
                exfalso
                exact h77 (check_ok hk0 hk1 (by omega))
              · first | replace h77 := of_decide_eq_false h77 | replace h77 := of_decide_eq_true (nf h77) | skip
                refine go_skip ?_
                refine go_seq ?_
                refine go_region 1 rfl rfl ?_
                refine s_val rfl rfl (r_assign) rfl ?_
                refine s_end ?_
                refine go_seq ?_
                refine go_region 1 rfl rfl ?_
                refine s_val rfl rfl (r_assign) rfl ?_
                refine s_end ?_
                refine go_seq ?_
                refine go_seq ?_
                refine go_region 3 rfl rfl ?_
                refine s_val rfl rfl (r_move) rfl ?_
                refine s_val rfl rfl (r_len Try.runUnderlying23 rfl) rfl ?_
                refine s_val rfl rfl (r_move) rfl ?_
                refine s_end ?_
                refine go_block ?_
                refine go_loopM (σ := Nat × Value × Value × List Value × List (List UInt8) × List Prf) [(24, 25), (27, 27), (176, 203)] (fun (x_ : Nat × Value × Value × List Value × List (List UInt8) × List Prf) e' w' => match x_ with | (j, vl, vp, vs, ls, ps) => e' 176 = i64 (j : Nat) ∧ e' 24 = vl ∧ e' 25 = vp ∧ j ≤ M ∧ Bld w' w48.heap.size vl vp vs ls ps ∧ vs.length = j ∧ ps.length = j ∧ (∀ i_, (ls.getD i_ []).length ≤ 1024) ∧ w48.heap.size ≤ w'.heap.size ∧ b3 < w48.heap.size ∧ Pc w' b3 0 (bs (rootH (hashB 2) ((chunksL l).map (hashB 1)))) ∧ b3 < w'.heap.size ∧ SlAt w' aK vK ∧ SlAt w' a1 (bs ((chunksL l).map (hashR 1)).flatten) ∧ Chg no w w') (fun (x_ : Nat × Value × Value × List Value × List (List UInt8) × List Prf) => match x_ with | (j, vl, vp, vs, ls, ps) => M - j) (0, Value.slice none 0 0, Value.slice none 0 0, [], [], []) ?_ ?_
                · exact ⟨rfl, rfl, rfl, by omega, Bld.nil _ _, rfl, rfl, fun _ => by simp, by omega, by omega, pr13, by omega, hK, hLf, C_w48⟩
                rintro ⟨j, vl, vp, vs, ls, ps⟩ f79 w78 ⟨e80, e81, e82, hj, hbl, hvs, hps, hsm, hBw, hB13, pr13, hub13, hK, hLf, C_w78⟩
                have ob_84 : ∃ g_, f79 = upd g_ 176 (i64 (j : Nat)) := ⟨f79, upd_id e80⟩
                obtain ⟨f83, rfl⟩ := ob_84
                have ob_86 : ∃ g_, f83 = upd g_ 24 vl := ⟨f83, upd_id e81⟩
                obtain ⟨f85, rfl⟩ := ob_86
                have ob_88 : ∃ g_, f85 = upd g_ 25 vp := ⟨f85, upd_id e82⟩
                obtain ⟨f87, rfl⟩ := ob_88
                clear e80 e81 e82
                have hs_w78 : w.heap.size ≤ w78.heap.size := Chg.size C_w78
                refine go_seq ?_
                refine go_region 1 rfl rfl ?_
                refine s_val rfl rfl (r_lss rfl rfl) rfl ?_
                refine s_end ?_
                refine go_seq ?_
                refine go_ifb _ rfl (fun hjl2 => ?_) (fun hjl2 => ?_)
                · first | replace hjl2 := of_decide_eq_true hjl2 | replace hjl2 := of_decide_eq_false (nt hjl2) | skip
                  have hidx := idxN_lt (order.getD j 0) (n := (chunksL l).length) (by omega)
                  have ob_89 := hokK.2 (idxN (order.getD j 0) (chunksL l).length) (by omega)
                  obtain ⟨ak, nk, ck, hvk, hlk, h0k, hck, hak⟩ := ob_89
                  have hlb := chunksL_small hn (by omega) (idxN (order.getD j 0) (chunksL l).length)
                  refine go_skip ?_
                  refine go_seq ?_
                  refine go_block ?_
                  refine go_seq ?_
                  refine go_region 3 rfl rfl ?_
                  refine s_val rfl rfl (r_indexSl (k := j) Try.runUnderlying23 Try.sizeOf3 rfl (hso.k C_w78) (by intro h_; have h2_ := congrArg List.length h_; rw [List.length_map, List.length_nil] at h2_; omega) rfl (by first | rfl | omega) (by omega)) rfl ?_
                  refine s_val rfl rfl (r_loadSl1 Try.isAgg3 rfl (hso.k C_w78) (ints_get (by omega))) rfl ?_
                  refine s_val rfl rfl (r_assign) rfl ?_
                  refine s_end ?_
                  refine go_seq ?_
                  refine go_region 7 rfl rfl ?_
                  refine s_val rfl rfl (r_move) rfl ?_
                  refine s_val rfl rfl (r_conv_u64 Try.runUnderlying3 Try.runUnderlying47 rfl) rfl ?_
                  refine s_val rfl rfl (r_move) rfl ?_
                  refine s_val rfl rfl (r_conv_u64 Try.runUnderlying3 Try.runUnderlying47 rfl) rfl ?_
                  refine s_val rfl rfl (r_rem64 rfl rfl (by rw [show (w64 (((chunksL l).length : Nat) : Int)).toNat = (chunksL l).length from w64_toNat _ (by omega)]; omega)) rfl ?_
                  refine s_val rfl rfl (r_convN (N := (idxN (order.getD j 0) (chunksL l).length)) Try.runUnderlying47 Try.runUnderlying3 rfl (idx_eq _ _ (by omega)) (by omega)) rfl ?_
                  refine s_val rfl rfl (r_assign) rfl ?_
                  refine s_end ?_
                  refine go_seq ?_
                  refine go_region 9 rfl rfl ?_
                  refine s_val rfl rfl (r_move) rfl ?_
                  refine s_val rfl rfl (r_move) rfl ?_
                  refine s_val rfl rfl (r_move) rfl ?_
                  refine s_val rfl rfl (r_indexSl (k := (idxN (order.getD j 0) (chunksL l).length)) Try.runUnderlying37 Try.sizeOf22 rfl hK (by intro h_; rw [h_, List.length_nil] at hvK; omega) rfl (by first | rfl | omega) (by omega)) rfl ?_
                  refine s_val rfl rfl (r_loadSl1 Try.isAgg22 rfl hK hvk) rfl ?_
                  have hbl_0 := hbl
                  refine s_do rfl rfl (w_call Try.call18 rfl (clone_spec ((chunksL l).getD (idxN (order.getD j 0) (chunksL l).length) []) _ _ _ _ (by first | omega | (simp; done) | (simp; omega)) (by first | omega | (simp; done) | (simp; omega)) (by first | omega | (simp; done) | (simp; omega)) (hak.k C_w78))) rfl ?_
                  rintro v92 w90 ⟨o91, c_w90⟩
                  have hs_w90 : w78.heap.size ≤ w90.heap.size := Chg.size c_w90
                  replace hbl := hbl.k c_w90
                  replace pr13 := pr13.k c_w90
                  replace hK := hK.k c_w90
                  replace hLf := hLf.k c_w90
                  have C_w90 := Chg.pure C_w78 c_w90
                  have hfo_o91 := Owns.form2 o91
                  obtain ⟨A93, cap94, e_o91, hc_cap94⟩ := hfo_o91
                  subst e_o91
                  have K_cl := c_w90
                  refine s_do rfl rfl (w_build1 (v := (Value.slice A93 nk cap94)) (E := 22) Try.underlying37 (i := Try.t22) (by kernel_rfl) rfl rfl rfl rfl rfl) rfl ?_
                  rintro _ w95 ⟨b96, rfl, hl_b96, hu_b96, o98, p97, c_w95⟩
                  have ne_b96_o91 := Owns.ne_ge o91 hl_b96
                  have hs_w95 : w90.heap.size ≤ w95.heap.size := Chg.size c_w95
                  replace hbl := hbl.k c_w95
                  replace pr13 := pr13.k c_w95
                  replace hK := hK.k c_w95
                  replace hLf := hLf.k c_w95
                  replace o91 := o91.k c_w95
                  replace K_cl := Chg.pure K_cl c_w95
                  have C_w95 := Chg.pure C_w90 c_w95
                  have hn_b96 : w.heap.size ≤ b96 := by have := Chg.size C_w95; omega
                  have hblo := hbl.ol
                  refine s_do rfl rfl (w_append (E := 22) (sz := 1) Try.underlying37 rfl (i := Try.t22) (by kernel_rfl) rfl rfl rfl rfl (by rfl) hblo rfl (SlAt.some p97.rd) rfl (flat_one rfl) (by omega) (by show _ * 24 ≤ _; omega) (by omega)) rfl ?_
                  rintro vL w99 ⟨qL, c_w99⟩
                  have hblN := Bld.addL hbl_0 K_cl (l := (chunksL l).getD (idxN (order.getD j 0) (chunksL l).length) []) (by rw [hlk]; exact o91) (by omega) (by omega) qL c_w99
                  have hs_w99 : w95.heap.size ≤ w99.heap.size := Chg.size c_w99
                  replace pr13 := pr13.kob c_w99 (Owns.ne_lt hblo (by omega))
                  replace hK := SlAt.keptE hK c_w99 (fun hc_ b_ o_ ha_ o2_ m_ => by have h1_ := hiK hc_ _ ha_; simp only at h1_; exact Owns.ne_lt hblo (by omega) m_)
                  replace hLf := SlAt.keptE hLf c_w99 (fun hc_ b_ o_ ha_ o2_ m_ => by have h1_ := hiL hc_ _ ha_; simp only at h1_; exact Owns.ne_lt hblo (by omega) m_)
                  have C_w99 := Chg.newOb C_w95 c_w99 hblo (by omega)
                  clear hbl_0 K_cl
                  replace hbl := hblN
                  clear hblN
                  refine s_val rfl rfl (r_assign) rfl ?_
                  refine s_end ?_
                  refine go_region 10 rfl rfl ?_
                  refine s_val rfl rfl (r_move) rfl ?_
                  refine s_val rfl rfl (r_move) rfl ?_
                  refine s_val rfl rfl (r_move) rfl ?_
                  refine s_val rfl rfl (r_move) rfl ?_
                  refine s_val rfl rfl (r_move) rfl ?_
                  refine s_do rfl rfl (w_call Try.call16 rfl (pathR_spec _ ((chunksL l).map (hashR 1)) _ _ _ _ _ rfl (by first | omega | (simp; done) | (simp; omega)) (by first | omega | (simp; done) | (simp; omega)) (by first | omega | (simp; done) | (simp; omega)) (by first | omega | (simp; done) | (simp; omega)) (map32 (hashR_length 1) _) hLf (by omega) (by omega))) rfl ?_
                  rintro v104 w100 ⟨o101, c_w100⟩
                  have hs_w100 : w99.heap.size ≤ w100.heap.size := Chg.size c_w100
                  replace pr13 := pr13.k c_w100
                  replace hK := hK.k c_w100
                  replace hLf := hLf.k c_w100
                  replace hbl := hbl.k c_w100
                  have C_w100 := Chg.pure C_w99 c_w100
                  have hfo_o101 := Owns.form2 o101
                  obtain ⟨A102, cap103, e_o101, hc_cap103⟩ := hfo_o101
                  subst e_o101
                  have hpl_o101 := pathH_le (hashR 2) ((chunksL l).map (hashR 1)) (Int.toNat (((idxN (order.getD j 0) (chunksL l).length) : Nat) : Int))
                  have hpl2_o101 : (List.length ((chunksL l).map (hashR 1))) ≤ n := by first | omega | (simp; done) | (simp; omega)
                  refine s_val rfl rfl (r_buildP (cells := ([i64 (((idxN (order.getD j 0) (chunksL l).length) : Nat) : Int)] ++ ([i64 (((chunksL l).length : Nat) : Int)] ++ [Value.slice A102 (pathH (hashR 2) ((chunksL l).map (hashR 1)) (Int.toNat (((idxN (order.getD j 0) (chunksL l).length) : Nat) : Int))).length cap103]))) (by kernel_rfl)) rfl ?_
                  refine s_do rfl rfl (w_buildA1 (E := 31) (sz := 3) Try.underlying46 (i := Try.t31) (by kernel_rfl) rfl rfl rfl rfl rfl rfl rfl) rfl ?_
                  rintro _ w105 ⟨b106, rfl, hl_b106, hu_b106, o108, p107, c_w105⟩
                  have ne_b106_o101 := Owns.ne_ge o101 hl_b106
                  have hs_w105 : w100.heap.size ≤ w105.heap.size := Chg.size c_w105
                  replace pr13 := pr13.k c_w105
                  replace hK := hK.k c_w105
                  replace hLf := hLf.k c_w105
                  replace hbl := hbl.k c_w105
                  replace o101 := o101.k c_w105
                  have C_w105 := Chg.pure C_w100 c_w105
                  have hn_b106 : w.heap.size ≤ b106 := by have := Chg.size C_w105; omega
                  have hblo := hbl.op
                  have hPq : PrfO w105 w48.heap.size ⟨((idxN (order.getD j 0) (chunksL l).length : Nat) : Int), ((chunksL l).length : Nat), A102, (pathH (hashR 2) ((chunksL l).map (hashR 1)) (Int.toNat (((idxN (order.getD j 0) (chunksL l).length) : Nat) : Int))).length, cap103, (pathH (hashR 2) ((chunksL l).map (hashR 1)) (Int.toNat (((idxN (order.getD j 0) (chunksL l).length) : Nat) : Int)))⟩ := prfO_mk (Owns.mono o101 (by omega)) rfl hc_cap103 (by omega) (pathH_32 (hashR_length 2) _ ((chunksL l).map (hashR 1)) (Int.toNat (((idxN (order.getD j 0) (chunksL l).length) : Nat) : Int)) rfl (map32 (hashR_length 1) _))
                  refine s_do rfl rfl (w_append (E := 31) (sz := 3) Try.underlying46 rfl (i := Try.t31) (by kernel_rfl) rfl rfl rfl rfl (by rfl) hblo rfl (SlAt.some p107.rd) rfl (flat_cons rfl (flat_cons rfl (flat_one rfl))) (by omega) (by show _ * 40 ≤ _; omega) (by omega)) rfl ?_
                  rintro vP w109 ⟨qP, c_w109⟩
                  have hblN := Bld.addP hbl hPq qP c_w109
                  have hs_w109 : w105.heap.size ≤ w109.heap.size := Chg.size c_w109
                  replace pr13 := pr13.kob c_w109 (Owns.ne_lt hblo (by omega))
                  replace hK := SlAt.keptE hK c_w109 (fun hc_ b_ o_ ha_ o2_ m_ => by have h1_ := hiK hc_ _ ha_; simp only at h1_; exact Owns.ne_lt hblo (by omega) m_)
                  replace hLf := SlAt.keptE hLf c_w109 (fun hc_ b_ o_ ha_ o2_ m_ => by have h1_ := hiL hc_ _ ha_; simp only at h1_; exact Owns.ne_lt hblo (by omega) m_)
                  have C_w109 := Chg.newOb C_w105 c_w109 hblo (by omega)
                  replace hbl := hblN
                  clear hblN
                  refine s_val rfl rfl (r_assign) rfl ?_
                  refine s_end ?_
                  refine go_nil (block_normal ?_)
                  refine go_region 2 rfl rfl ?_
                  refine s_val rfl rfl (r_addi rfl rfl (by omega)) rfl ?_
                  refine s_val rfl rfl (r_move) rfl ?_
                  refine s_end ?_
                  refine go_nil (loop_normal ⟨⟨(j + 1, vL, vP, vs ++ [_], ls ++ [(chunksL l).getD (idxN (order.getD j 0) (chunksL l).length) []], ps ++ [⟨((idxN (order.getD j 0) (chunksL l).length : Nat) : Int), ((chunksL l).length : Nat), A102, (pathH (hashR 2) ((chunksL l).map (hashR 1)) (Int.toNat (((idxN (order.getD j 0) (chunksL l).length) : Nat) : Int))).length, cap103, (pathH (hashR 2) ((chunksL l).map (hashR 1)) (Int.toNat (((idxN (order.getD j 0) (chunksL l).length) : Nat) : Int)))⟩]), by first | omega | (dsimp only; omega), ⟨rfl, rfl, rfl, by omega, hbl, by rw [List.length_append, List.length_singleton, hvs], by rw [List.length_append, List.length_singleton, hps], sm_snoc hsm hlb, by omega, by omega, pr13, by omega, hK, hLf, C_w109⟩⟩, (by repeat (first | exact same_refl | exact same_over | refine same_upd rfl ?_ | refine same_over2 rfl ?_))⟩)
                · first | replace hjl2 := of_decide_eq_false hjl2 | replace hjl2 := of_decide_eq_true (nf hjl2) | skip
                  have hjM : j = M := by omega
                  have hol := hbl.ol
                  rw [hvs] at hol
                  have hop := hbl.op
                  rw [hps] at hop
                  have hfL := Owns.form2 hol
                  obtain ⟨al, cl, eL, hcl_⟩ := hfL
                  subst eL
                  have hfP := Owns.form2 hop
                  obtain ⟨ap, cp, eP, hcp_⟩ := hfP
                  subst eP
                  clear hol hop
                  have hl := Owns.sl hbl.ol
                  have hlsN := hbl.cl.len
                  refine go_exit (loop_exit (block_hit ?_))
                  refine go_seq ?_
                  refine go_seq ?_
                  refine go_region 7 rfl rfl ?_
                  refine s_val rfl rfl (r_move) rfl ?_
                  refine s_val rfl rfl (r_neq rfl rfl) rfl ?_
                  refine s_valB rfl rfl (r_move) rfl (fun h110 => ?_) (fun h110 => ?_)
                  · first | replace h110 := of_decide_eq_true h110 | replace h110 := of_decide_eq_false (nt h110) | skip
                    refine s_val_g rfl rfl (r_move) rfl ?_
                    refine s_val_g rfl rfl (r_len Try.runUnderlying37 rfl) rfl ?_
                    refine s_val_g rfl rfl (r_gtr rfl rfl) rfl ?_
                    refine s_val rfl rfl (r_pick true rfl) rfl ?_
                    refine s_end ?_
                    refine go_ifb _ rfl (fun hj0 => ?_) (fun hj0 => ?_)
                    · first | replace hj0 := of_decide_eq_true hj0 | replace hj0 := of_decide_eq_false (nt hj0) | skip
                      have hj2 := idxN_lt at_ (n := j) (by omega)
                      have hat_ := hbl.cl.at_ (j := idxN at_ j) (by omega)
                      obtain ⟨bk, nk, ck, hvk, hlk, h0k, hck, hBk, hok⟩ := hat_
                      have hsk := hsm (idxN at_ j)
                      have hi2 := idxN_lt at_ (n := nk) h0k
                      have hrk := SlAt.pos (Owns.sl hok) (bs_ne (by omega))
                      obtain ⟨bk2, ok2, ek2, hrdk⟩ := hrk
                      cases ek2
                      refine go_seq ?_
                      refine go_region 11 rfl rfl ?_
                      refine s_val rfl rfl (r_move) rfl ?_
                      refine s_val rfl rfl (r_move) rfl ?_
                      refine s_val rfl rfl (r_conv_u64 Try.runUnderlying3 Try.runUnderlying47 rfl) rfl ?_
                      refine s_val rfl rfl (r_move) rfl ?_
                      refine s_val rfl rfl (r_len Try.runUnderlying37 rfl) rfl ?_
                      refine s_val rfl rfl (r_conv_u64 Try.runUnderlying3 Try.runUnderlying47 rfl) rfl ?_
                      refine s_val rfl rfl (r_rem64 rfl rfl (by rw [show (w64 ((j : Nat) : Int)).toNat = j from w64_toNat _ (by omega)]; omega)) rfl ?_
                      refine s_val rfl rfl (r_convN (N := idxN at_ j) Try.runUnderlying47 Try.runUnderlying3 rfl (idx_eq _ _ (by omega)) (by omega)) rfl ?_
                      refine s_val rfl rfl (r_indexSl (k := (idxN at_ j)) Try.runUnderlying37 Try.sizeOf22 rfl hl (by intro h_; rw [h_, List.length_nil] at hvs; omega) rfl (by first | rfl | omega) (by omega)) rfl ?_
                      refine s_val rfl rfl (r_loadSl1 Try.isAgg22 rfl hl hvk) rfl ?_
                      refine s_val rfl rfl (r_assign) rfl ?_
                      refine s_end ?_
                      refine go_region 14 rfl rfl ?_
                      refine s_val rfl rfl (r_move) rfl ?_
                      refine s_val rfl rfl (r_move) rfl ?_
                      refine s_val rfl rfl (r_conv_u64 Try.runUnderlying3 Try.runUnderlying47 rfl) rfl ?_
                      refine s_val rfl rfl (r_move) rfl ?_
                      refine s_val rfl rfl (r_len Try.runUnderlying22 rfl) rfl ?_
                      refine s_val rfl rfl (r_conv_u64 Try.runUnderlying3 Try.runUnderlying47 rfl) rfl ?_
                      refine s_val rfl rfl (r_rem64 rfl rfl (by rw [show (w64 ((nk : Nat) : Int)).toNat = nk from w64_toNat _ (by omega)]; omega)) rfl ?_
                      refine s_val rfl rfl (r_convN (N := idxN at_ nk) Try.runUnderlying47 Try.runUnderlying3 rfl (idx_eq _ _ (by omega)) (by omega)) rfl ?_
                      refine s_val rfl rfl (r_indexSlP (k := idxN at_ nk) Try.runUnderlying22 Try.sizeOf5 rfl hrdk (bs_ne (by omega)) rfl (by first | rfl | omega) (by omega)) rfl ?_
                      refine s_val rfl rfl (r_load1 Try.isAgg5 rfl (Rd.at1 hrdk (bs_get (by omega)))) rfl ?_
                      refine s_val rfl rfl (r_move) rfl ?_
                      refine s_val rfl rfl (r_xor8 rfl rfl) rfl ?_
                      refine s_val rfl rfl (r_indexSlP (k := idxN at_ nk) Try.runUnderlying22 Try.sizeOf5 rfl hrdk (bs_ne (by omega)) rfl (by first | rfl | omega) (by omega)) rfl ?_
                      refine s_do rfl rfl (w_setOwnB (E := 5) (B := w48.heap.size) (k := idxN at_ nk) (v := (ls.getD (idxN at_ j) []).getD (idxN at_ nk) 0 ^^^ by_) Try.sizeOf5 rfl rfl hok (by omega)) rfl ?_
                      rintro _ w111 ⟨qS, c_w111⟩
                      have hblN := Bld.turn hbl hvk (by rw [List.length_set]; exact hlk) h0k qS c_w111
                      have hsmN := sm_set (j := idxN at_ j) hsm (l := (ls.getD (idxN at_ j) []).set (idxN at_ nk) ((ls.getD (idxN at_ j) []).getD (idxN at_ nk) 0 ^^^ by_)) (by rw [List.length_set]; omega)
                      have hs_w111 : w78.heap.size ≤ w111.heap.size := Chg.size c_w111
                      replace pr13 := pr13.kB c_w111 (by omega)
                      have C_w111 := Chg.newB C_w78 c_w111 (by omega)
                      replace hbl := hblN
                      clear hblN
                      replace hsm := hsmN
                      clear hsmN hl
                      have hl := Owns.sl hbl.ol
                      have hlsN := hbl.cl.len
                      refine s_end ?_
                      refine go_seq ?_
                      refine go_seq ?_
                      refine go_region 2 rfl rfl ?_
                      refine s_val rfl rfl (r_move) rfl ?_
                      refine s_val rfl rfl (r_eql rfl rfl) rfl ?_
                      refine s_end ?_
                      refine go_ifb _ rfl (fun h112 => ?_) (fun h112 => ?_)
                      · first | replace h112 := of_decide_eq_true h112 | replace h112 := of_decide_eq_false (nt h112) | skip
                        refine go_region 2 rfl rfl ?_
                        refine s_val rfl rfl (r_move) rfl ?_
                        refine s_val rfl rfl (r_assign) rfl ?_
                        refine s_end ?_
                        refine go_seq ?_
                        refine go_region 6 rfl rfl ?_
                        refine s_val rfl rfl (r_loadN Try.isAgg25 Try.sizeOf25 rfl pr13.rd (by first | exact bs_len (by omega) | exact bs_len (by simp; done) | exact bs_len (by simp; omega))) rfl ?_
                        refine s_val rfl rfl (r_move) rfl ?_
                        refine s_val rfl rfl (r_move) rfl ?_
                        refine s_val rfl rfl (r_move) rfl ?_
                        have hlA := Owns.sl hbl.ol
                        have hpA := Owns.sl hbl.op
                        refine s_do rfl rfl (w_call Try.call19 rfl (assembles_spec (rootH (hashB 2) ((chunksL l).map (hashB 1))) (((chunksL l).length : Nat) : Int) _ vs ps al ap j cl cp _ hrl (by omega) hps (by omega) hcl_ hcp_ hlA hbl.cl.sls hpA hbl.pr.ok hsm)) rfl ?_
                        rintro _ w113 ⟨rfl, c_w113⟩
                        have hs_w113 : w111.heap.size ≤ w113.heap.size := Chg.size c_w113
                        replace pr13 := pr13.k c_w113
                        replace hbl := hbl.k c_w113
                        replace hl := hl.k c_w113
                        have C_w113 := Chg.pure C_w111 c_w113
                        refine s_val rfl rfl (r_assign) rfl ?_
                        refine s_end ?_
                        refine go_ret ?_
                        refine ⟨_, .cons rfl (.nil), ?_⟩
                        exact ⟨rfl, C_w113⟩
                      · first | replace h112 := of_decide_eq_false h112 | replace h112 := of_decide_eq_true (nf h112) | skip
                        refine go_skip ?_
                        refine go_seq ?_
                        refine go_region 6 rfl rfl ?_
                        refine s_val rfl rfl (r_loadN Try.isAgg25 Try.sizeOf25 rfl pr13.rd (by first | exact bs_len (by omega) | exact bs_len (by simp; done) | exact bs_len (by simp; omega))) rfl ?_
                        refine s_val rfl rfl (r_move) rfl ?_
                        refine s_val rfl rfl (r_move) rfl ?_
                        refine s_val rfl rfl (r_move) rfl ?_
                        have hlA := Owns.sl hbl.ol
                        have hpA := Owns.sl hbl.op
                        refine s_do rfl rfl (w_call Try.call19 rfl (assembles_spec (rootH (hashB 2) ((chunksL l).map (hashB 1))) many _ vs ps al ap j cl cp _ hrl (by omega) hps (by omega) hcl_ hcp_ hlA hbl.cl.sls hpA hbl.pr.ok hsm)) rfl ?_
                        rintro _ w114 ⟨rfl, c_w114⟩
                        have hs_w114 : w111.heap.size ≤ w114.heap.size := Chg.size c_w114
                        replace pr13 := pr13.k c_w114
                        replace hbl := hbl.k c_w114
                        replace hl := hl.k c_w114
                        have C_w114 := Chg.pure C_w111 c_w114
                        refine s_val rfl rfl (r_assign) rfl ?_
                        refine s_end ?_
                        refine go_ret ?_
                        refine ⟨_, .cons rfl (.nil), ?_⟩
                        exact ⟨rfl, C_w114⟩
                    · first | replace hj0 := of_decide_eq_false hj0 | replace hj0 := of_decide_eq_true (nf hj0) | skip
                      refine go_skip ?_
                      refine go_seq ?_
                      refine go_seq ?_
                      refine go_region 2 rfl rfl ?_
                      refine s_val rfl rfl (r_move) rfl ?_
                      refine s_val rfl rfl (r_eql rfl rfl) rfl ?_
                      refine s_end ?_
                      refine go_ifb _ rfl (fun h115 => ?_) (fun h115 => ?_)
                      · first | replace h115 := of_decide_eq_true h115 | replace h115 := of_decide_eq_false (nt h115) | skip
                        refine go_region 2 rfl rfl ?_
                        refine s_val rfl rfl (r_move) rfl ?_
                        refine s_val rfl rfl (r_assign) rfl ?_
                        refine s_end ?_
                        refine go_seq ?_
                        refine go_region 6 rfl rfl ?_
                        refine s_val rfl rfl (r_loadN Try.isAgg25 Try.sizeOf25 rfl pr13.rd (by first | exact bs_len (by omega) | exact bs_len (by simp; done) | exact bs_len (by simp; omega))) rfl ?_
                        refine s_val rfl rfl (r_move) rfl ?_
                        refine s_val rfl rfl (r_move) rfl ?_
                        refine s_val rfl rfl (r_move) rfl ?_
                        have hlA := Owns.sl hbl.ol
                        have hpA := Owns.sl hbl.op
                        refine s_do rfl rfl (w_call Try.call19 rfl (assembles_spec (rootH (hashB 2) ((chunksL l).map (hashB 1))) (((chunksL l).length : Nat) : Int) _ vs ps al ap j cl cp _ hrl (by omega) hps (by omega) hcl_ hcp_ hlA hbl.cl.sls hpA hbl.pr.ok hsm)) rfl ?_
                        rintro _ w116 ⟨rfl, c_w116⟩
                        have hs_w116 : w78.heap.size ≤ w116.heap.size := Chg.size c_w116
                        replace hbl := hbl.k c_w116
                        replace pr13 := pr13.k c_w116
                        replace hK := hK.k c_w116
                        replace hLf := hLf.k c_w116
                        replace hl := hl.k c_w116
                        have C_w116 := Chg.pure C_w78 c_w116
                        refine s_val rfl rfl (r_assign) rfl ?_
                        refine s_end ?_
                        refine go_ret ?_
                        refine ⟨_, .cons rfl (.nil), ?_⟩
                        exact ⟨rfl, C_w116⟩
                      · first | replace h115 := of_decide_eq_false h115 | replace h115 := of_decide_eq_true (nf h115) | skip
                        refine go_skip ?_
                        refine go_seq ?_
                        refine go_region 6 rfl rfl ?_
                        refine s_val rfl rfl (r_loadN Try.isAgg25 Try.sizeOf25 rfl pr13.rd (by first | exact bs_len (by omega) | exact bs_len (by simp; done) | exact bs_len (by simp; omega))) rfl ?_
                        refine s_val rfl rfl (r_move) rfl ?_
                        refine s_val rfl rfl (r_move) rfl ?_
                        refine s_val rfl rfl (r_move) rfl ?_
                        have hlA := Owns.sl hbl.ol
                        have hpA := Owns.sl hbl.op
                        refine s_do rfl rfl (w_call Try.call19 rfl (assembles_spec (rootH (hashB 2) ((chunksL l).map (hashB 1))) many _ vs ps al ap j cl cp _ hrl (by omega) hps (by omega) hcl_ hcp_ hlA hbl.cl.sls hpA hbl.pr.ok hsm)) rfl ?_
                        rintro _ w117 ⟨rfl, c_w117⟩
                        have hs_w117 : w78.heap.size ≤ w117.heap.size := Chg.size c_w117
                        replace hbl := hbl.k c_w117
                        replace pr13 := pr13.k c_w117
                        replace hK := hK.k c_w117
                        replace hLf := hLf.k c_w117
                        replace hl := hl.k c_w117
                        have C_w117 := Chg.pure C_w78 c_w117
                        refine s_val rfl rfl (r_assign) rfl ?_
                        refine s_end ?_
                        refine go_ret ?_
                        refine ⟨_, .cons rfl (.nil), ?_⟩
                        exact ⟨rfl, C_w117⟩
                  · first | replace h110 := of_decide_eq_false h110 | replace h110 := of_decide_eq_true (nf h110) | skip
                    refine s_val_not rfl rfl ?_
                    refine s_val_not rfl rfl ?_
                    refine s_val_not rfl rfl ?_
                    refine s_val rfl rfl (r_pick false rfl) rfl ?_
                    refine s_end ?_
                    refine go_false rfl ?_
                    refine go_skip ?_
                    refine go_seq ?_
                    refine go_seq ?_
                    refine go_region 2 rfl rfl ?_
                    refine s_val rfl rfl (r_move) rfl ?_
                    refine s_val rfl rfl (r_eql rfl rfl) rfl ?_
                    refine s_end ?_
                    refine go_ifb _ rfl (fun h118 => ?_) (fun h118 => ?_)
                    · first | replace h118 := of_decide_eq_true h118 | replace h118 := of_decide_eq_false (nt h118) | skip
                      refine go_region 2 rfl rfl ?_
                      refine s_val rfl rfl (r_move) rfl ?_
                      refine s_val rfl rfl (r_assign) rfl ?_
                      refine s_end ?_
                      refine go_seq ?_
                      refine go_region 6 rfl rfl ?_
                      refine s_val rfl rfl (r_loadN Try.isAgg25 Try.sizeOf25 rfl pr13.rd (by first | exact bs_len (by omega) | exact bs_len (by simp; done) | exact bs_len (by simp; omega))) rfl ?_
                      refine s_val rfl rfl (r_move) rfl ?_
                      refine s_val rfl rfl (r_move) rfl ?_
                      refine s_val rfl rfl (r_move) rfl ?_
                      have hlA := Owns.sl hbl.ol
                      have hpA := Owns.sl hbl.op
                      refine s_do rfl rfl (w_call Try.call19 rfl (assembles_spec (rootH (hashB 2) ((chunksL l).map (hashB 1))) (((chunksL l).length : Nat) : Int) _ vs ps al ap j cl cp _ hrl (by omega) hps (by omega) hcl_ hcp_ hlA hbl.cl.sls hpA hbl.pr.ok hsm)) rfl ?_
                      rintro _ w119 ⟨rfl, c_w119⟩
                      have hs_w119 : w78.heap.size ≤ w119.heap.size := Chg.size c_w119
                      replace hbl := hbl.k c_w119
                      replace pr13 := pr13.k c_w119
                      replace hK := hK.k c_w119
                      replace hLf := hLf.k c_w119
                      replace hl := hl.k c_w119
                      have C_w119 := Chg.pure C_w78 c_w119
                      refine s_val rfl rfl (r_assign) rfl ?_
                      refine s_end ?_
                      refine go_ret ?_
                      refine ⟨_, .cons rfl (.nil), ?_⟩
                      exact ⟨rfl, C_w119⟩
                    · first | replace h118 := of_decide_eq_false h118 | replace h118 := of_decide_eq_true (nf h118) | skip
                      refine go_skip ?_
                      refine go_seq ?_
                      refine go_region 6 rfl rfl ?_
                      refine s_val rfl rfl (r_loadN Try.isAgg25 Try.sizeOf25 rfl pr13.rd (by first | exact bs_len (by omega) | exact bs_len (by simp; done) | exact bs_len (by simp; omega))) rfl ?_
                      refine s_val rfl rfl (r_move) rfl ?_
                      refine s_val rfl rfl (r_move) rfl ?_
                      refine s_val rfl rfl (r_move) rfl ?_
                      have hlA := Owns.sl hbl.ol
                      have hpA := Owns.sl hbl.op
                      refine s_do rfl rfl (w_call Try.call19 rfl (assembles_spec (rootH (hashB 2) ((chunksL l).map (hashB 1))) many _ vs ps al ap j cl cp _ hrl (by omega) hps (by omega) hcl_ hcp_ hlA hbl.cl.sls hpA hbl.pr.ok hsm)) rfl ?_
                      rintro _ w120 ⟨rfl, c_w120⟩
                      have hs_w120 : w78.heap.size ≤ w120.heap.size := Chg.size c_w120
                      replace hbl := hbl.k c_w120
                      replace pr13 := pr13.k c_w120
                      replace hK := hK.k c_w120
                      replace hLf := hLf.k c_w120
                      replace hl := hl.k c_w120
                      have C_w120 := Chg.pure C_w78 c_w120
                      refine s_val rfl rfl (r_assign) rfl ?_
                      refine s_end ?_
                      refine go_ret ?_
                      refine ⟨_, .cons rfl (.nil), ?_⟩
                      exact ⟨rfl, C_w120⟩

end Go.Proofs.Ytdnccchcflaphaa
