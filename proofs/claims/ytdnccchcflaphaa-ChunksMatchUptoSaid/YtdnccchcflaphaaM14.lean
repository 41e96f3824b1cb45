/- M14: contracts of functions of the program: called in any world that meets a contract's premises, the function returns what the contract says and changes no more than it says. -/
import Derived.Test.YtdnccchcflaphaaM13
import Derived.Test.YtdnccchcflaphaaEng8
import Derived.Test.YtdnccchcflaphaaEng9
import Derived.Test.YtdnccchcflaphaaEng10
import Derived.Test.YtdnccchcflaphaaEng11
import Derived.Test.YtdnccchcflaphaaEng12
import Derived.Test.YtdnccchcflaphaaChecked
open Go Go.Eng Go.Proofs
namespace Go.Proofs.Ytdnccchcflaphaa
theorem first_spec (es : List Int) (a : Option Addr) (n c : Nat) (w : World) (hn : es.length = n) (hnb : n < 4611686018427387904) (hsl : SlAt w a (es.map i64)) :
    Rtn Try.prog 7 [Value.slice a n c].toArray w (fun v w' => v = i64 (firstE es) ∧ Kept w w') := by
  have hne_ : ∀ k, k < n → es.map i64 ≠ [] := fun k hk h_ => by have := congrArg List.length h_; rw [List.length_map, List.length_nil] at this; omega
  refine fn_body (l := [Value.slice a n c]) 15 [.tmp 2] Try.func7 rfl Try.ntmps7 (Nat.le_of_ble_eq_true rfl) (by rw [Try.results7]) ?_
  refine go_seq ?_
  refine go_region 1 rfl rfl ?_
  refine s_val rfl rfl (r_assign) rfl ?_
  refine s_end ?_
  refine go_seq ?_
  refine go_seq ?_
  refine go_region 3 rfl rfl ?_
  refine s_val rfl rfl (r_move) rfl ?_
  refine s_val rfl rfl (r_len Try.runUnderlying66 rfl) rfl ?_
  refine s_val rfl rfl (r_move) rfl ?_
  refine s_end ?_
  refine go_block ?_
  refine go_loopM (σ := Nat) [(2, 2), (4, 4), (7, 14)] (fun (k : Nat) e' w' => e' 7 = i64 (k : Nat) ∧ k ≤ n ∧ firstE es = firstE (es.drop k) ∧ Chg no w w') (fun (k : Nat) => n - k) 0 ?_ ?_
  · exact ⟨rfl, by omega, rfl, (Chg.refl no w)⟩
  rintro k f2 w1 ⟨e3, hk, hf, C_w1⟩
  obtain ⟨f4, rfl⟩ : ∃ g_, f2 = upd g_ 7 (i64 (k : Nat)) := ⟨f2, upd_id e3⟩
  have hs_w1 : w.heap.size ≤ w1.heap.size := Chg.size C_w1
  refine go_seq ?_
  refine go_region 1 rfl rfl ?_
  refine s_val rfl rfl (r_lss rfl rfl) rfl ?_
  refine s_end ?_
  refine go_seq ?_
  refine go_ifb _ rfl (fun h2 => ?_) (fun h2 => ?_)
  · first | replace h2 := of_decide_eq_true h2 | replace h2 := of_decide_eq_false (nt h2) | skip
    have hfd := firstE_drop (es := es) (k := k) (by omega)
    refine go_skip ?_
    refine go_seq ?_
    refine go_block ?_
    refine go_seq ?_
    refine go_region 3 rfl rfl ?_
    refine s_val rfl rfl (r_indexSl (k := k) Try.runUnderlying66 Try.sizeOf26 rfl (hsl.k C_w1) (by intro h_; have := congrArg List.length h_; simp at this; simp_all; omega) rfl (by first | rfl | omega) (by omega)) rfl ?_
    refine s_val rfl rfl (r_loadSl1 Try.isAgg26 rfl (hsl.k C_w1) (ints_get (by omega))) rfl ?_
    refine s_val rfl rfl (r_assign) rfl ?_
    refine s_end ?_
    refine go_seq ?_
    refine go_region 2 rfl rfl ?_
    refine s_val rfl rfl (r_move) rfl ?_
    refine s_val rfl rfl (r_neq rfl rfl) rfl ?_
    refine s_end ?_
    refine go_ifb _ rfl (fun h3 => ?_) (fun h3 => ?_)
    · first | replace h3 := of_decide_eq_true h3 | replace h3 := of_decide_eq_false (nt h3) | skip
      refine go_seq ?_
      refine go_region 2 rfl rfl ?_
      refine s_val rfl rfl (r_move) rfl ?_
      refine s_val rfl rfl (r_assign) rfl ?_
      refine s_end ?_
      refine go_ret (block_ret (loop_ret (block_ret ?_)))
      refine ⟨_, .cons rfl (.nil), ?_⟩
      rw [hf, hfd, if_pos (by omega)]
      exact ⟨rfl, C_w1⟩
    · first | replace h3 := of_decide_eq_false h3 | replace h3 := of_decide_eq_true (nf h3) | skip
      refine go_skip ?_
      refine go_nil (block_normal ?_)
      refine go_region 2 rfl rfl ?_
      refine s_val rfl rfl (r_addi rfl rfl (by omega)) rfl ?_
      refine s_val rfl rfl (r_move) rfl ?_
      refine s_end ?_
      refine go_nil (loop_normal ⟨⟨(k + 1), by first | omega | (dsimp only; omega), ⟨rfl, by omega, by rw [hf, hfd, if_neg (by omega)], C_w1⟩⟩, (by repeat (first | exact same_refl | exact same_over | refine same_upd rfl ?_ | refine same_over2 rfl ?_))⟩)
  · first | replace h2 := of_decide_eq_false h2 | replace h2 := of_decide_eq_true (nf h2) | skip
    have hf0 : es.drop k = [] := List.drop_eq_nil_of_le (by omega)
    refine go_exit (loop_exit (block_hit ?_))
    refine go_seq ?_
    refine go_region 1 rfl rfl ?_
    refine s_val rfl rfl (r_assign) rfl ?_
    refine s_end ?_
    refine go_ret ?_
    refine ⟨_, .cons rfl (.nil), ?_⟩
    rw [hf, hf0]
    exact ⟨rfl, C_w1⟩

set_option maxHeartbeats 1000000 in
theorem chunksR_spec (l : List UInt8) (a : Option Addr) (n c : Nat) (w : World) (hn : l.length = n) (h0 : 0 < n) (hbig : n ≤ 1048576) (hc : n ≤ c) (hsl : SlAt w a (bs l)) :
    Rtn Try.prog 10 [Value.slice a n c].toArray w (fun v w' => ∃ a' c' vs, v = Value.slice a' (chunksL l).length c' ∧ (chunksL l).length ≤ c' ∧ Owns w' w.heap.size 22 1 (Value.slice a' (chunksL l).length c') (chunksL l).length vs ∧ (∀ w0, SlAt w0 a (bs l) → SlsOk w0 vs (chunksL l)) ∧ Kept w w') := by
  refine fn_body (l := [Value.slice a n c]) 18 [.tmp 2] Try.func10 rfl Try.ntmps10 (Nat.le_of_ble_eq_true rfl) (by rw [Try.results10]) ?_
  refine go_seq ?_
  refine go_region 1 rfl rfl ?_
  refine s_val rfl rfl (r_assign) rfl ?_
  refine s_end ?_
  refine go_seq ?_
  refine go_region 1 rfl rfl ?_
  refine s_val rfl rfl (r_assign) rfl ?_
  refine s_end ?_
  refine go_seq ?_
  refine go_block ?_
  refine go_loopM (σ := List UInt8 × List (List UInt8) × List Value × Option Addr × Nat × Nat × Option Addr × Nat × Nat) [(0, 0), (3, 13)] (fun (x_ : List UInt8 × List (List UInt8) × List Value × Option Addr × Nat × Nat × Option Addr × Nat × Nat) e' w' => match x_ with | (R, D, vs, a2, n2, c2, a1, n1, c1) => e' 0 = Value.slice a2 n2 c2 ∧ e' 3 = Value.slice a1 n1 c1 ∧ R.length = n2 ∧ 0 < n2 ∧ n2 ≤ c2 ∧ 1024 * D.length + n2 = n ∧ SlAt w a2 (bs R) ∧ chunksL l = D ++ chunksL R ∧ (∀ w0, SlAt w0 a (bs l) → SlsOk w0 vs D ∧ SlAt w0 a2 (bs R)) ∧ n1 = D.length ∧ w.heap.size ≤ w'.heap.size ∧ Owns w' w.heap.size 22 1 (Value.slice a1 n1 c1) n1 vs ∧ n1 ≤ c1 ∧ Chg no w w') (fun (x_ : List UInt8 × List (List UInt8) × List Value × Option Addr × Nat × Nat × Option Addr × Nat × Nat) => match x_ with | (R, D, vs, a2, n2, c2, a1, n1, c1) => n2) (l, [], [], a, n, c, none, 0, 0) ?_ ?_
  · exact ⟨rfl, rfl, hn, by omega, by omega, by simp, hsl, rfl, fun w0 h_ => ⟨SlsOk.nil, h_⟩, rfl, by omega, Owns.nil _ _ _ _, by omega, (Chg.refl no w)⟩
  rintro ⟨R, D, vs, a2, n2, c2, a1, n1, c1⟩ f2 w1 ⟨e3, e4, hn2, h02, hc2, hsum, hsl2, hD, hok, hn1, hB_ho1, ho1, hc1, C_w1⟩
  obtain ⟨f5, rfl⟩ : ∃ g_, f2 = upd g_ 0 (Value.slice a2 n2 c2) := ⟨f2, upd_id e3⟩
  obtain ⟨f6, rfl⟩ : ∃ g_, f5 = upd g_ 3 (Value.slice a1 n1 c1) := ⟨f5, upd_id e4⟩
  have hs_w1 : w.heap.size ≤ w1.heap.size := Chg.size C_w1
  refine go_seq ?_
  refine go_seq ?_
  refine go_region 3 rfl rfl ?_
  refine s_val rfl rfl (r_move) rfl ?_
  refine s_val rfl rfl (r_len Try.runUnderlying22 rfl) rfl ?_
  refine s_val rfl rfl (r_gtr rfl rfl) rfl ?_
  refine s_end ?_
  refine go_ifb _ rfl (fun h2 => ?_) (fun h2 => ?_)
  · first | replace h2 := of_decide_eq_true h2 | replace h2 := of_decide_eq_false (nt h2) | skip
    refine go_skip ?_
    refine go_seq ?_
    refine go_block ?_
    refine go_region 6 rfl rfl ?_
    refine s_val rfl rfl (r_move) rfl ?_
    refine s_val rfl rfl (r_move) rfl ?_
    have s7 := SlAt.cutB_mid hsl2 0 1024 c2 (by first | omega | (simp; omega))
    refine s_val rfl rfl (r_sliceSl (l := 0) (h := 1024) (m := c2) Try.runUnderlying22 Try.sizeOf5 rfl rfl ⟨_, _, rfl, by first | rfl | omega⟩ rfl (by first | decide | (intro h_; cases h_)) (by first | decide | omega) (by first | decide | omega | (intro _; omega)) (by first | exact Nat.le_refl _ | omega)) rfl ?_
    refine s_do rfl rfl (w_build1 (v := (Value.slice (cutA a2 0 c2 1) (1024 - 0) (c2 - 0))) (E := 22) Try.underlying37 (i := Try.t22) (by kernel_rfl) rfl rfl rfl rfl rfl) rfl ?_
    rintro _ w8 ⟨b9, rfl, hl_b9, hu_b9, o11, p10, c_w8⟩
    have ne_b9_ho1 := Owns.ne_ge ho1 hl_b9
    have hs_w8 : w1.heap.size ≤ w8.heap.size := Chg.size c_w8
    replace ho1 := ho1.k c_w8
    have C_w8 := Chg.pure C_w1 c_w8
    have hn_b9 : w.heap.size ≤ b9 := by have := Chg.size C_w8; omega
    refine s_do rfl rfl (w_append (E := 22) (sz := 1) Try.underlying37 rfl (i := Try.t22) (by kernel_rfl) rfl rfl rfl rfl (by rfl) ho1 rfl (SlAt.some p10.rd) (by first | (rw [bs_length]; omega) | (simp [bs_length]; done) | (simp [bs_length]; omega) | rfl) (flat_one rfl) (by omega) (by show _ * 24 ≤ _; omega) (by omega)) rfl ?_
    rintro v16 w12 ⟨o13, c_w12⟩
    have hs_w12 : w8.heap.size ≤ w12.heap.size := Chg.size c_w12
    replace p10 := p10.kob c_w12 ne_b9_ho1
    have C_w12 := Chg.newOb C_w8 c_w12 ho1 (by omega)
    obtain ⟨A14, cap15, rfl, hc_cap15, -, -⟩ := Owns.form o13
    refine s_val rfl rfl (r_assign) rfl ?_
    refine s_end ?_
    refine go_nil (block_normal ?_)
    refine go_region 3 rfl rfl ?_
    refine s_val rfl rfl (r_move) rfl ?_
    have s17 := SlAt.cutB_drop hsl2 1024 c2 (by first | omega | (simp; omega))
    refine s_val rfl rfl (r_sliceSl (l := 1024) (h := n2) (m := c2) Try.runUnderlying22 Try.sizeOf5 rfl ⟨_, _, rfl, by first | rfl | omega⟩ rfl rfl (by first | decide | (intro h_; cases h_)) (by first | decide | omega) (by first | decide | omega | (intro _; omega)) (by first | exact Nat.le_refl _ | omega)) rfl ?_
    refine s_val rfl rfl (r_assign) rfl ?_
    refine s_end ?_
    refine go_nil (loop_normal ⟨⟨(R.drop 1024, D ++ [R.take 1024], vs ++ [Value.slice (cutA a2 0 c2 1) (1024 - 0) (c2 - 0)], _, n2 - 1024, c2 - 1024, _, n1 + 1, _), by first | omega | (dsimp only; omega), ⟨rfl, rfl, by rw [List.length_drop]; omega, by omega, by omega, by rw [List.length_append]; simp; omega, s17, by rw [hD, chunksL_cons (by omega), List.append_assoc]; rfl, fun w0 h_ => ⟨(hok w0 h_).1.snoc (by rw [List.length_take]; omega) (by omega) (by omega) (SlAt.cutB_mid (hok w0 h_).2 0 1024 c2 (by omega)), SlAt.cutB_drop (hok w0 h_).2 1024 c2 (by omega)⟩, by rw [List.length_append, List.length_singleton]; omega, by omega, o13, by omega, C_w12⟩⟩, (by repeat (first | exact same_refl | exact same_over | refine same_upd rfl ?_ | refine same_over2 rfl ?_))⟩)
  · first | replace h2 := of_decide_eq_false h2 | replace h2 := of_decide_eq_true (nf h2) | skip
    have hD2 : chunksL l = D ++ [R] := by rw [hD, chunksL_one (by omega)]
    refine go_exit (loop_exit (block_hit ?_))
    refine go_seq ?_
    refine go_region 5 rfl rfl ?_
    refine s_val rfl rfl (r_move) rfl ?_
    refine s_val rfl rfl (r_move) rfl ?_
    refine s_do rfl rfl (w_build1 (v := (Value.slice a2 n2 c2)) (E := 22) Try.underlying37 (i := Try.t22) (by kernel_rfl) rfl rfl rfl rfl rfl) rfl ?_
    rintro _ w18 ⟨b19, rfl, hl_b19, hu_b19, o21, p20, c_w18⟩
    have ne_b19_ho1 := Owns.ne_ge ho1 hl_b19
    have hs_w18 : w1.heap.size ≤ w18.heap.size := Chg.size c_w18
    replace ho1 := ho1.k c_w18
    have C_w18 := Chg.pure C_w1 c_w18
    have hn_b19 : w.heap.size ≤ b19 := by have := Chg.size C_w18; omega
    refine s_do rfl rfl (w_append (E := 22) (sz := 1) Try.underlying37 rfl (i := Try.t22) (by kernel_rfl) rfl rfl rfl rfl (by rfl) ho1 rfl (SlAt.some p20.rd) (by first | (rw [bs_length]; omega) | (simp [bs_length]; done) | (simp [bs_length]; omega) | rfl) (flat_one rfl) (by omega) (by show _ * 24 ≤ _; omega) (by omega)) rfl ?_
    rintro v26 w22 ⟨o23, c_w22⟩
    have hs_w22 : w18.heap.size ≤ w22.heap.size := Chg.size c_w22
    replace p20 := p20.kob c_w22 ne_b19_ho1
    have C_w22 := Chg.newOb C_w18 c_w22 ho1 (by omega)
    obtain ⟨A24, cap25, rfl, hc_cap25, -, -⟩ := Owns.form o23
    refine s_val rfl rfl (r_assign) rfl ?_
    refine s_end ?_
    refine go_ret ?_
    refine ⟨_, .cons rfl (.nil), ?_⟩
    have hl2 : (chunksL l).length = n1 + 1 := by rw [hD2, List.length_append, List.length_singleton]; omega
    rw [hl2, hD2]
    exact ⟨_, _, _, rfl, by omega, Owns.mono o23 (by omega), fun w0 h_ => (hok w0 h_).1.snoc hn2 h02 hc2 (hok w0 h_).2, C_w22⟩

set_option maxHeartbeats 800000 in
theorem leaves_spec (ls : List (List UInt8)) (vs : List Value) (a : Option Addr) (n c : Nat) (w : World) (hn : vs.length = n) (hc : n ≤ c) (hnb : n ≤ 65536) (hlen : ∀ k, (ls.getD k []).length ≤ 1048576) (hsl : SlAt w a vs) (hls : SlsOk w vs ls) :
    Rtn Try.prog 29 [Value.slice a n c].toArray w (fun v w' => ∃ a' c', v = Value.slice a' n c' ∧ n ≤ c' ∧ Owns w' w.heap.size 25 32 (Value.slice a' n c') n (bs (ls.map (hashB 1)).flatten) ∧ Kept w w') := by
  have hlv := hls.1
  refine fn_body (l := [Value.slice a n c]) 25 [.tmp 2] Try.func29 rfl Try.ntmps29 (Nat.le_of_ble_eq_true rfl) (by rw [Try.results29]) ?_
  refine go_seq ?_
  refine go_region 1 rfl rfl ?_
  refine s_val rfl rfl (r_assign) rfl ?_
  refine s_end ?_
  refine go_seq ?_
  refine go_region 1 rfl rfl ?_
  refine s_val rfl rfl (r_assign) rfl ?_
  refine s_end ?_
  refine go_seq ?_
  refine go_seq ?_
  refine go_region 3 rfl rfl ?_
  refine s_val rfl rfl (r_move) rfl ?_
  refine s_val rfl rfl (r_len Try.runUnderlying37 rfl) rfl ?_
  refine s_val rfl rfl (r_move) rfl ?_
  refine s_end ?_
  refine go_block ?_
  refine go_loopM (σ := Nat × Option Addr × Nat × Nat) [(3, 3), (5, 7), (10, 23)] (fun (x_ : Nat × Option Addr × Nat × Nat) e' w' => match x_ with | (k, a1, n1, c1) => e' 10 = i64 (k : Nat) ∧ e' 3 = Value.slice a1 n1 c1 ∧ k ≤ n ∧ n1 = k ∧ w.heap.size ≤ w'.heap.size ∧ Owns w' w.heap.size 25 32 (Value.slice a1 n1 c1) n1 (bs ((ls.take k).map (hashB 1)).flatten) ∧ n1 ≤ c1 ∧ Chg no w w') (fun (x_ : Nat × Option Addr × Nat × Nat) => match x_ with | (k, a1, n1, c1) => n - k) (0, none, 0, 0) ?_ ?_
  · exact ⟨rfl, rfl, by omega, rfl, by omega, Owns.nil _ _ _ _, by omega, (Chg.refl no w)⟩
  rintro ⟨k, a1, n1, c1⟩ f2 w1 ⟨e3, e4, hk, hn1, hB_ho1, ho1, hc1, C_w1⟩
  obtain ⟨f5, rfl⟩ : ∃ g_, f2 = upd g_ 10 (i64 (k : Nat)) := ⟨f2, upd_id e3⟩
  obtain ⟨f6, rfl⟩ : ∃ g_, f5 = upd g_ 3 (Value.slice a1 n1 c1) := ⟨f5, upd_id e4⟩
  have hs_w1 : w.heap.size ≤ w1.heap.size := Chg.size C_w1
  refine go_seq ?_
  refine go_region 1 rfl rfl ?_
  refine s_val rfl rfl (r_lss rfl rfl) rfl ?_
  refine s_end ?_
  refine go_seq ?_
  refine go_ifb _ rfl (fun h2 => ?_) (fun h2 => ?_)
  · first | replace h2 := of_decide_eq_true h2 | replace h2 := of_decide_eq_false (nt h2) | skip
    obtain ⟨ak, nk, ck, hvk, hlk, h0k, hck, hak⟩ := hls.2 k (by omega)
    have hlb := hlen k
    refine go_skip ?_
    refine go_seq ?_
    refine go_block ?_
    refine go_seq ?_
    refine go_region 3 rfl rfl ?_
    refine s_val rfl rfl (r_indexSl (k := k) Try.runUnderlying37 Try.sizeOf22 rfl (hsl.k C_w1) (by intro h_; rw [h_] at hn; simp at hn; omega) rfl (by first | rfl | omega) (by omega)) rfl ?_
    refine s_val rfl rfl (r_loadSl1 Try.isAgg22 rfl (hsl.k C_w1) hvk) rfl ?_
    refine s_val rfl rfl (r_assign) rfl ?_
    refine s_end ?_
    refine go_seq ?_
    refine go_region 8 rfl rfl ?_
    refine s_val rfl rfl (r_move) rfl ?_
    refine s_do rfl rfl (w_call Try.call34 rfl (leafB_spec (ls.getD k []) _ _ _ _ (by first | omega | (simp; done) | (simp; omega)) (by first | omega | (simp; done) | (simp; omega)) (by first | omega | (simp; done) | (simp; omega)) (by first | omega | (simp; done) | (simp; omega)) (hak.k C_w1))) rfl ?_
    rintro _ w7 ⟨rfl, c_w7⟩
    have hs_w7 : w1.heap.size ≤ w7.heap.size := Chg.size c_w7
    replace ho1 := ho1.k c_w7
    have C_w7 := Chg.pure C_w1 c_w7
    refine s_val rfl rfl (r_move) rfl ?_
    refine s_val rfl rfl (r_extract rfl rfl) rfl ?_
    refine s_val rfl rfl (r_extract rfl rfl) rfl ?_
    refine s_do rfl rfl (w_alloc (bs (List.replicate 32 0)) Try.zeroValue25 (by kernel_rfl)) rfl ?_
    rintro _ w8 ⟨b9, rfl, hl_b9, hu_b9, p10, c_w8⟩
    have ne_b9_ho1 := Owns.ne_ge ho1 hl_b9
    have hs_w8 : w7.heap.size ≤ w8.heap.size := Chg.size c_w8
    replace ho1 := ho1.k c_w8
    have C_w8 := Chg.pure C_w7 c_w8
    have hn_b9 : w.heap.size ≤ b9 := by have := Chg.size C_w8; omega
    refine s_do rfl rfl (w_storeA (o := 0) Try.sizeOf25 rfl rfl (by first | exact bs_len (by omega) | exact bs_len (by simp; done) | exact bs_len (by simp; omega)) (flat_bs _) p10 (by first | exact bs_len (by omega) | exact bs_len (by simp; done) | exact bs_len (by simp; omega))) rfl ?_
    rintro _ w11 ⟨q_w11, c_w11⟩
    have hs_w11 : w8.heap.size ≤ w11.heap.size := Chg.size c_w11
    replace ho1 := ho1.kb c_w11 ne_b9_ho1
    have C_w11 := Chg.newRng C_w8 c_w11 (by omega)
    have p10 := q_w11
    refine s_val rfl rfl (r_assign) rfl ?_
    refine s_end ?_
    refine go_region 5 rfl rfl ?_
    refine s_val rfl rfl (r_move) rfl ?_
    refine s_val rfl rfl (r_loadN Try.isAgg25 Try.sizeOf25 rfl p10.rd (by first | exact bs_len (by omega) | exact bs_len (by simp; done) | exact bs_len (by simp; omega))) rfl ?_
    refine s_do rfl rfl (w_buildA1 (E := 25) (sz := 32) Try.underlying29 (i := Try.t25) (by kernel_rfl) rfl rfl rfl rfl rfl rfl (by first | exact bs_len (by omega) | exact bs_len (by simp; done) | exact bs_len (by simp; omega))) rfl ?_
    rintro _ w12 ⟨b13, rfl, hl_b13, hu_b13, o15, p14, c_w12⟩
    have ne_b13_ho1 := Owns.ne_ge ho1 hl_b13
    have hs_w12 : w11.heap.size ≤ w12.heap.size := Chg.size c_w12
    replace ho1 := ho1.k c_w12
    replace p10 := p10.k c_w12
    have C_w12 := Chg.pure C_w11 c_w12
    have hn_b13 : w.heap.size ≤ b13 := by have := Chg.size C_w12; omega
    refine s_do rfl rfl (w_append (E := 25) (sz := 32) Try.underlying29 rfl (i := Try.t25) (by kernel_rfl) rfl rfl rfl rfl (by rfl) ho1 rfl (SlAt.some p14.rd) (by first | (rw [bs_length]; omega) | (simp [bs_length]; done) | (simp [bs_length]; omega) | rfl) (flat_bs _) (by omega) (by show _ * 32 ≤ _; omega) (by omega)) rfl ?_
    rintro v20 w16 ⟨o17, c_w16⟩
    have hs_w16 : w12.heap.size ≤ w16.heap.size := Chg.size c_w16
    replace p10 := p10.kob c_w16 ne_b9_ho1
    replace p14 := p14.kob c_w16 ne_b13_ho1
    have C_w16 := Chg.newOb C_w12 c_w16 ho1 (by omega)
    obtain ⟨A18, cap19, rfl, hc_cap19, -, -⟩ := Owns.form o17
    replace o17 := Owns.appS (L := ((ls.take k).map (hashB 1))) o17
    refine s_val rfl rfl (r_assign) rfl ?_
    refine s_end ?_
    refine go_nil (block_normal ?_)
    refine go_region 2 rfl rfl ?_
    refine s_val rfl rfl (r_addi rfl rfl (by omega)) rfl ?_
    refine s_val rfl rfl (r_move) rfl ?_
    refine s_end ?_
    refine go_nil (loop_normal ⟨⟨(k + 1, _, n1 + 1, _), by first | omega | (dsimp only; omega), ⟨rfl, rfl, by omega, by omega, by omega, by rw [map_snoc _ (by omega)]; exact o17, by omega, C_w16⟩⟩, (by repeat (first | exact same_refl | exact same_over | refine same_upd rfl ?_ | refine same_over2 rfl ?_))⟩)
  · first | replace h2 := of_decide_eq_false h2 | replace h2 := of_decide_eq_true (nf h2) | skip
    have hkn : k = n := by omega
    have htl : ls.take k = ls := List.take_of_length_le (by omega)
    refine go_exit (loop_exit (block_hit ?_))
    refine go_seq ?_
    refine go_region 2 rfl rfl ?_
    refine s_val rfl rfl (r_move) rfl ?_
    refine s_val rfl rfl (r_assign) rfl ?_
    refine s_end ?_
    refine go_ret ?_
    refine ⟨_, .cons rfl (.nil), ?_⟩
    rw [htl, hn1, hkn] at ho1
    rw [hn1, hkn] at hc1
    exact ⟨_, _, by rw [← hkn, ← hn1]; rfl, hc1, ho1, C_w1⟩

end Go.Proofs.Ytdnccchcflaphaa
