/- M12: contracts of functions of the program: called in any world that meets a contract's premises, the function returns what the contract says and changes no more than it says. -/
import Derived.Test.YtdnccchcflaphaaM11
import Derived.Test.YtdnccchcflaphaaEng8
import Derived.Test.YtdnccchcflaphaaEng9
import Derived.Test.YtdnccchcflaphaaEng10
import Derived.Test.YtdnccchcflaphaaChecked
open Go Go.Eng Go.Proofs
namespace Go.Proofs.Ytdnccchcflaphaa
theorem listFault_spec (a : Option Addr) (n c : Nat) (w : World) (h0 : 0 < n) (hb : n ≤ 65536) :
    Rtn Try.prog 44 [Value.slice a n c].toArray w (fun v w' => v = i64 0 ∧ Kept w w') := by
  refine fn_body (l := [Value.slice a n c]) 9 [.tmp 2] Try.func44 rfl Try.ntmps44 (Nat.le_of_ble_eq_true rfl) (by rw [Try.results44]) ?_
  refine go_seq ?_
  refine go_region 1 rfl rfl ?_
  refine s_val rfl rfl (r_assign) rfl ?_
  refine s_end ?_
  refine go_seq ?_
  refine go_seq ?_
  refine go_region 3 rfl rfl ?_
  refine s_val rfl rfl (r_move) rfl ?_
  refine s_val rfl rfl (r_len Try.runUnderlying29 rfl) rfl ?_
  refine s_val rfl rfl (r_eql rfl rfl) rfl ?_
  refine s_end ?_
  refine go_ifb _ rfl (fun h1 => ?_) (fun h1 => ?_)
  · first | replace h1 := of_decide_eq_true h1 | replace h1 := of_decide_eq_false (nt h1) | skip
    exfalso
    omega
  · first | replace h1 := of_decide_eq_false h1 | replace h1 := of_decide_eq_true (nf h1) | skip
    refine go_skip ?_
    refine go_seq ?_
    refine go_seq ?_
    refine go_region 3 rfl rfl ?_
    refine s_val rfl rfl (r_move) rfl ?_
    refine s_val rfl rfl (r_len Try.runUnderlying29 rfl) rfl ?_
    refine s_val rfl rfl (r_gtr rfl rfl) rfl ?_
    refine s_end ?_
    refine go_ifb _ rfl (fun h2 => ?_) (fun h2 => ?_)
    · first | replace h2 := of_decide_eq_true h2 | replace h2 := of_decide_eq_false (nt h2) | skip
      exfalso
      omega
    · first | replace h2 := of_decide_eq_false h2 | replace h2 := of_decide_eq_true (nf h2) | skip
      refine go_skip ?_
      refine go_seq ?_
      refine go_region 1 rfl rfl ?_
      refine s_val rfl rfl (r_assign) rfl ?_
      refine s_end ?_
      refine go_ret ?_
      refine ⟨_, .cons rfl (.nil), ?_⟩
      exact ⟨rfl, (Chg.refl no w)⟩

theorem root_spec (L : List (List UInt8)) (a : Option Addr) (n c : Nat) (w : World) (hn : L.length = n) (h0 : 0 < n) (hb : n ≤ 65536) (hc : n ≤ c) (h32 : All32 L) (hsl : SlAt w a (bs L.flatten)) :
    Rtn Try.prog 28 [Value.slice a n c].toArray w (fun v w' => v = tup [.agg (bs (rootH (hashB 2) L)).toArray, i64 0] ∧ Kept w w') := by
  refine fn_body (l := [Value.slice a n c]) 13 [.cell 2 25, .tmp 3] Try.func28 rfl Try.ntmps28 (Nat.le_of_ble_eq_true rfl) (by rw [Try.results28]) ?_
  refine go_seq ?_
  refine go_region 2 rfl rfl ?_
  refine s_do rfl rfl (w_alloc (bs (List.replicate 32 0)) Try.zeroValue25 (by kernel_rfl)) rfl ?_
  rintro _ w1 ⟨b2, rfl, hl_b2, hu_b2, p3, c_w1⟩
  have hs_w1 : w.heap.size ≤ w1.heap.size := Chg.size c_w1
  have C_w1 := Chg.pure (Chg.refl no w) c_w1
  have hn_b2 : w.heap.size ≤ b2 := by have := Chg.size C_w1; omega
  refine s_val rfl rfl (r_assign) rfl ?_
  refine s_end ?_
  refine go_seq ?_
  refine go_seq ?_
  refine go_region 3 rfl rfl ?_
  refine s_val rfl rfl (r_move) rfl ?_
  refine s_do rfl rfl (w_call Try.call44 rfl (listFault_spec _ _ _ _ (by omega) (by omega))) rfl ?_
  rintro _ w4 ⟨rfl, c_w4⟩
  have hs_w4 : w1.heap.size ≤ w4.heap.size := Chg.size c_w4
  replace p3 := p3.k c_w4
  have C_w4 := Chg.pure C_w1 c_w4
  refine s_val rfl rfl (r_assign) rfl ?_
  refine s_end ?_
  refine go_seq ?_
  refine go_region 2 rfl rfl ?_
  refine s_val rfl rfl (r_move) rfl ?_
  refine s_val rfl rfl (r_neq rfl rfl) rfl ?_
  refine s_end ?_
  refine go_ifb _ rfl (fun h5 => ?_) (fun h5 => ?_)
  · first | replace h5 := of_decide_eq_true h5 | replace h5 := of_decide_eq_false (nt h5) | skip
    exfalso
    omega
  · first | replace h5 := of_decide_eq_false h5 | replace h5 := of_decide_eq_true (nf h5) | skip
    refine go_skip ?_
    refine go_seq ?_
    refine go_region 4 rfl rfl ?_
    refine s_val rfl rfl (r_move) rfl ?_
    refine s_do rfl rfl (w_call Try.call45 rfl (rootB_spec _ L _ _ _ _ rfl (by first | omega | (simp; done) | (simp; omega)) (by first | omega | (simp; done) | (simp; omega)) (by first | omega | (simp; done) | (simp; omega)) (by first | omega | (simp; done) | (simp; omega)) h32 (hsl.k C_w4))) rfl ?_
    rintro _ w6 ⟨rfl, c_w6⟩
    have hs_w6 : w4.heap.size ≤ w6.heap.size := Chg.size c_w6
    replace p3 := p3.k c_w6
    have C_w6 := Chg.pure C_w4 c_w6
    have hr_w6 : (rootH (hashB 2) L).length = 32 := rootH_len (hashB_length 2) h32 (by first | omega | (simp; done) | (simp; omega))
    refine s_do rfl rfl (w_storeA (o := 0) Try.sizeOf25 rfl rfl (by first | exact bs_len (by omega) | exact bs_len (by simp; done) | exact bs_len (by simp; omega)) (flat_bs _) p3 (by first | exact bs_len (by omega) | exact bs_len (by simp; done) | exact bs_len (by simp; omega))) rfl ?_
    rintro _ w7 ⟨q_w7, c_w7⟩
    have hs_w7 : w6.heap.size ≤ w7.heap.size := Chg.size c_w7
    have C_w7 := Chg.newRng C_w6 c_w7 (by omega)
    have p3 := q_w7
    refine s_val rfl rfl (r_assign) rfl ?_
    refine s_end ?_
    refine go_ret ?_
    refine ⟨_, .cons ⟨_, rfl, run_load_agg Try.isAgg25 Try.sizeOf25 (by first | exact bs_len (by omega) | exact bs_len (by simp; done) | exact bs_len (by simp; omega)) p3.rd⟩ (.cons rfl (.nil)), ?_⟩
    exact ⟨rfl, C_w7⟩

theorem prove_spec (L : List (List UInt8)) (i : Int) (a : Option Addr) (n c : Nat) (w : World) (hn : L.length = n) (h0 : 0 < n) (hb : n ≤ 65536) (hc : n ≤ c) (h32 : All32 L) (hsl : SlAt w a (bs L.flatten)) (hi0 : 0 ≤ i) (hi : i < n) :
    Rtn Try.prog 30 [Value.slice a n c, i64 i].toArray w (fun v w' => ∃ a' c', v = tup [.agg ([i64 i] ++ ([i64 (n : Nat)] ++ [Value.slice a' (pathH (hashB 2) L i.toNat).length c'])).toArray, i64 0] ∧ (pathH (hashB 2) L i.toNat).length ≤ c' ∧ Owns w' w.heap.size 25 32 (Value.slice a' (pathH (hashB 2) L i.toNat).length c') (pathH (hashB 2) L i.toNat).length (bs (pathH (hashB 2) L i.toNat).flatten) ∧ Kept w w') := by
  refine fn_body (l := [Value.slice a n c, i64 i]) 29 [.cell 4 31, .tmp 5] Try.func30 rfl Try.ntmps30 (Nat.le_of_ble_eq_true rfl) (by rw [Try.results30]) ?_
  refine go_seq ?_
  refine go_region 2 rfl rfl ?_
  refine s_do rfl rfl (w_alloc ([i64 0] ++ ([i64 0] ++ ([.slice none 0 0]))) Try.zeroValue31 (by kernel_rfl)) rfl ?_
  rintro _ w1 ⟨b2, rfl, hl_b2, hu_b2, p3, c_w1⟩
  have hs_w1 : w.heap.size ≤ w1.heap.size := Chg.size c_w1
  have C_w1 := Chg.pure (Chg.refl no w) c_w1
  have hn_b2 : w.heap.size ≤ b2 := by have := Chg.size C_w1; omega
  refine s_val rfl rfl (r_assign) rfl ?_
  refine s_end ?_
  refine go_seq ?_
  refine go_seq ?_
  refine go_region 3 rfl rfl ?_
  refine s_val rfl rfl (r_move) rfl ?_
  refine s_do rfl rfl (w_call Try.call44 rfl (listFault_spec _ _ _ _ (by omega) (by omega))) rfl ?_
  rintro _ w4 ⟨rfl, c_w4⟩
  have hs_w4 : w1.heap.size ≤ w4.heap.size := Chg.size c_w4
  replace p3 := p3.k c_w4
  have C_w4 := Chg.pure C_w1 c_w4
  refine s_val rfl rfl (r_assign) rfl ?_
  refine s_end ?_
  refine go_seq ?_
  refine go_region 2 rfl rfl ?_
  refine s_val rfl rfl (r_move) rfl ?_
  refine s_val rfl rfl (r_neq rfl rfl) rfl ?_
  refine s_end ?_
  refine go_ifb _ rfl (fun h5 => ?_) (fun h5 => ?_)
  · first | replace h5 := of_decide_eq_true h5 | replace h5 := of_decide_eq_false (nt h5) | skip
    exfalso
    omega
  · first | replace h5 := of_decide_eq_false h5 | replace h5 := of_decide_eq_true (nf h5) | skip
    refine go_skip ?_
    refine go_seq ?_
    refine go_seq ?_
    refine go_region 8 rfl rfl ?_
    refine s_val rfl rfl (r_move) rfl ?_
    refine s_val rfl rfl (r_lss rfl rfl) rfl ?_
    refine s_valB rfl rfl (r_move) rfl (fun h6 => ?_) (fun h6 => ?_)
    · first | replace h6 := of_decide_eq_true h6 | replace h6 := of_decide_eq_false (nt h6) | skip
      exfalso
      omega
    · first | replace h6 := of_decide_eq_false h6 | replace h6 := of_decide_eq_true (nf h6) | skip
      refine s_val_g rfl rfl (r_move) rfl ?_
      refine s_val_g rfl rfl (r_move) rfl ?_
      refine s_val_g rfl rfl (r_len Try.runUnderlying29 rfl) rfl ?_
      refine s_val_g rfl rfl (r_geq rfl rfl) rfl ?_
      refine s_val rfl rfl (r_pick false rfl) rfl ?_
      refine s_end ?_
      refine go_ifb _ rfl (fun h7 => ?_) (fun h7 => ?_)
      · first | replace h7 := of_decide_eq_true h7 | replace h7 := of_decide_eq_false (nt h7) | skip
        exfalso
        omega
      · first | replace h7 := of_decide_eq_false h7 | replace h7 := of_decide_eq_true (nf h7) | skip
        refine go_skip ?_
        refine go_seq ?_
        refine go_region 9 rfl rfl ?_
        refine s_val rfl rfl (r_move) rfl ?_
        refine s_val rfl rfl (r_move) rfl ?_
        refine s_val rfl rfl (r_len Try.runUnderlying29 rfl) rfl ?_
        refine s_val rfl rfl (r_move) rfl ?_
        refine s_val rfl rfl (r_move) rfl ?_
        refine s_do rfl rfl (w_call Try.call46 rfl (pathB_spec _ L _ _ _ _ _ rfl (by first | omega | (simp; done) | (simp; omega)) (by first | omega | (simp; done) | (simp; omega)) (by first | omega | (simp; done) | (simp; omega)) (by first | omega | (simp; done) | (simp; omega)) h32 (hsl.k C_w4) (by omega) (by omega))) rfl ?_
        rintro v12 w8 ⟨o9, c_w8⟩
        have hs_w8 : w4.heap.size ≤ w8.heap.size := Chg.size c_w8
        replace p3 := p3.k c_w8
        have C_w8 := Chg.pure C_w4 c_w8
        obtain ⟨A10, cap11, rfl, hc_cap11, -, -⟩ := Owns.form o9
        have hpl_o9 := pathH_le (hashB 2) L (Int.toNat i)
        have hpl2_o9 : (List.length L) ≤ n := by first | omega | (simp; done) | (simp; omega)
        refine s_val rfl rfl (r_buildP (cells := ([i64 i] ++ ([i64 (n : Nat)] ++ [Value.slice A10 (pathH (hashB 2) L (Int.toNat i)).length cap11]))) (by kernel_rfl)) rfl ?_
        refine s_do rfl rfl (w_storeA (o := 0) Try.sizeOf31 rfl rfl rfl (flat_cons rfl (flat_cons rfl (flat_one rfl))) p3 rfl) rfl ?_
        rintro _ w13 ⟨q_w13, c_w13⟩
        have hs_w13 : w8.heap.size ≤ w13.heap.size := Chg.size c_w13
        replace o9 := o9.kb c_w13 (Owns.ne_lt o9 (by omega))
        have C_w13 := Chg.newRng C_w8 c_w13 (by omega)
        have p3 := q_w13
        refine s_val rfl rfl (r_assign) rfl ?_
        refine s_end ?_
        refine go_ret ?_
        refine ⟨_, .cons ⟨_, rfl, run_load_agg Try.isAgg31 Try.sizeOf31 rfl p3.rd⟩ (.cons rfl (.nil)), ?_⟩
        exact ⟨_, _, rfl, hc_cap11, Owns.mono o9 (by omega), C_w13⟩


theorem steps_pos {i n : Nat} (h : 2 ≤ n) : 1 ≤ stepsN i n := by
  by_cases hi : i < halfN n
  · rw [steps_lt h hi]; omega
  · rw [steps_ge h hi]; omega

set_option maxHeartbeats 800000 in
theorem steps_spec (i0 n0 : Int) (w : World) (hi0 : 0 ≤ i0) (hn0 : i0 < n0) (hb0 : n0 ≤ 65536) :
    Rtn Try.prog 63 [i64 i0, i64 n0].toArray w (fun v w' => v = i64 ((stepsN i0.toNat n0.toNat : Nat) : Int) ∧ Kept w w') := by
  refine fn_body (l := [i64 i0, i64 n0]) 24 [.tmp 4] Try.func63 rfl Try.ntmps63 (Nat.le_of_ble_eq_true rfl) (by rw [Try.results63]) ?_
  refine go_seq ?_
  refine go_region 1 rfl rfl ?_
  refine s_val rfl rfl (r_assign) rfl ?_
  refine s_end ?_
  refine go_seq ?_
  refine go_region 1 rfl rfl ?_
  refine s_val rfl rfl (r_assign) rfl ?_
  refine s_end ?_
  refine go_seq ?_
  refine go_block ?_
  refine go_loopM (σ := Int × Int × Nat) [(0, 1), (5, 22)] (fun (x_ : Int × Int × Nat) e' w' => match x_ with | (i, n, s) => e' 0 = i64 i ∧ e' 1 = i64 n ∧ e' 5 = i64 (s : Nat) ∧ 0 ≤ i ∧ i < n ∧ n ≤ 65536 ∧ s + stepsN i.toNat n.toNat = stepsN i0.toNat n0.toNat ∧ s + n.toNat ≤ n0.toNat ∧ Chg no w w') (fun (x_ : Int × Int × Nat) => match x_ with | (i, n, s) => n.toNat) (i0, n0, 0) ?_ ?_
  · exact ⟨rfl, rfl, rfl, by omega, by omega, by omega, by omega, by omega, (Chg.refl no w)⟩
  rintro ⟨i, n, s⟩ f2 w1 ⟨e3, e4, e5, hi, hin, hb, hs, hsb, C_w1⟩
  obtain ⟨f6, rfl⟩ : ∃ g_, f2 = upd g_ 0 (i64 i) := ⟨f2, upd_id e3⟩
  obtain ⟨f7, rfl⟩ : ∃ g_, f6 = upd g_ 1 (i64 n) := ⟨f6, upd_id e4⟩
  obtain ⟨f8, rfl⟩ : ∃ g_, f7 = upd g_ 5 (i64 (s : Nat)) := ⟨f7, upd_id e5⟩
  have hs_w1 : w.heap.size ≤ w1.heap.size := Chg.size C_w1
  have hi' := hi
  have hin' := hin
  obtain ⟨i, rfl⟩ := Int.eq_ofNat_of_zero_le hi
  obtain ⟨n, rfl⟩ := Int.eq_ofNat_of_zero_le (by omega : (0 : Int) ≤ n)
  simp only [Int.toNat_natCast] at hs hsb
  refine go_seq ?_
  refine go_seq ?_
  refine go_region 2 rfl rfl ?_
  refine s_val rfl rfl (r_move) rfl ?_
  refine s_val rfl rfl (r_gtr rfl rfl) rfl ?_
  refine s_end ?_
  refine go_ifb _ rfl (fun h1 => ?_) (fun h1 => ?_)
  · first | replace h1 := of_decide_eq_true h1 | replace h1 := of_decide_eq_false (nt h1) | skip
    refine go_skip ?_
    refine go_block ?_
    refine go_seq ?_
    refine go_region 3 rfl rfl ?_
    refine s_val rfl rfl (r_move) rfl ?_
    refine s_do rfl rfl (w_call Try.call58 rfl (split_spec n _ (by omega) (by omega))) rfl ?_
    rintro _ w9 ⟨rfl, c_w9⟩
    have hs_w9 : w1.heap.size ≤ w9.heap.size := Chg.size c_w9
    have C_w9 := Chg.pure C_w1 c_w9
    have hlt_w9 := halfN_lt (n := n) (by omega)
    have hps_w9 := halfN_pos n
    refine s_val rfl rfl (r_assign) rfl ?_
    refine s_end ?_
    refine go_seq ?_
    refine go_seq ?_
    refine go_region 3 rfl rfl ?_
    refine s_val rfl rfl (r_move) rfl ?_
    refine s_val rfl rfl (r_move) rfl ?_
    refine s_val rfl rfl (r_lss rfl rfl) rfl ?_
    refine s_end ?_
    refine go_ifb _ rfl (fun h2 => ?_) (fun h2 => ?_)
    · first | replace h2 := of_decide_eq_true h2 | replace h2 := of_decide_eq_false (nt h2) | skip
      refine go_region 2 rfl rfl ?_
      refine s_val rfl rfl (r_move) rfl ?_
      refine s_val rfl rfl (r_assign) rfl ?_
      refine s_end ?_
      refine go_region 3 rfl rfl ?_
      refine s_val rfl rfl (r_move) rfl ?_
      refine s_val rfl rfl (r_addi rfl rfl (by omega)) rfl ?_
      refine s_val rfl rfl (r_assign) rfl ?_
      refine s_end ?_
      refine go_nil (block_normal ?_)
      refine go_nil (loop_normal ⟨⟨(((i : Nat) : Int), ((halfN n : Nat) : Int), s + 1), by dsimp only; omega, ⟨rfl, rfl, rfl, by omega, by omega, by omega, by have e_ := steps_lt (i := i) (n := n) (by omega) (by omega); simp only [Int.toNat_natCast]; omega, by omega, C_w9⟩⟩, (by repeat (first | exact same_refl | exact same_over | refine same_upd rfl ?_ | refine same_over2 rfl ?_))⟩)
    · first | replace h2 := of_decide_eq_false h2 | replace h2 := of_decide_eq_true (nf h2) | skip
      refine go_region 8 rfl rfl ?_
      refine s_val rfl rfl (r_move) rfl ?_
      refine s_val rfl rfl (r_move) rfl ?_
      refine s_val rfl rfl (r_subi rfl rfl (by omega)) rfl ?_
      refine s_val rfl rfl (r_move) rfl ?_
      refine s_val rfl rfl (r_move) rfl ?_
      refine s_val rfl rfl (r_subi rfl rfl (by omega)) rfl ?_
      refine s_val rfl rfl (r_assign) rfl ?_
      refine s_val rfl rfl (r_assign) rfl ?_
      refine s_end ?_
      refine go_region 3 rfl rfl ?_
      refine s_val rfl rfl (r_move) rfl ?_
      refine s_val rfl rfl (r_addi rfl rfl (by omega)) rfl ?_
      refine s_val rfl rfl (r_assign) rfl ?_
      refine s_end ?_
      refine go_nil (block_normal ?_)
      refine go_nil (loop_normal ⟨⟨(((i : Nat) : Int) - ((halfN n : Nat) : Int), ((n : Nat) : Int) - ((halfN n : Nat) : Int), s + 1), by dsimp only; omega, ⟨rfl, rfl, rfl, by omega, by omega, by omega, by have e_ := steps_ge (i := i) (n := n) (by omega) (by omega); rw [show (((i : Nat) : Int) - ((halfN n : Nat) : Int)).toNat = i - halfN n by omega, show (((n : Nat) : Int) - ((halfN n : Nat) : Int)).toNat = n - halfN n by omega]; omega, by omega, C_w9⟩⟩, (by repeat (first | exact same_refl | exact same_over | refine same_upd rfl ?_ | refine same_over2 rfl ?_))⟩)
  · first | replace h1 := of_decide_eq_false h1 | replace h1 := of_decide_eq_true (nf h1) | skip
    have e0 := steps_one i (n := n) (by omega)
    refine go_exit (loop_exit (block_hit ?_))
    refine go_seq ?_
    refine go_region 2 rfl rfl ?_
    refine s_val rfl rfl (r_move) rfl ?_
    refine s_val rfl rfl (r_assign) rfl ?_
    refine s_end ?_
    refine go_ret ?_
    refine ⟨_, .cons rfl (.nil), ?_⟩
    exact ⟨congrArg i64 (by omega), C_w1⟩

theorem hashB2_length (l : List UInt8) : (hashB 2 l).length = 32 := hashB_length 2 l

set_option maxHeartbeats 3000000 in
theorem lead_spec (m : Nat) (leaf : List UInt8) (i n : Int) (P : List (List UInt8)) (a : Option Addr) (np cp : Nat) (w : World) (hm : n.toNat = m) (hi0 : 0 ≤ i) (hin : i < n) (hnb : n ≤ 65536) (hlf : leaf.length = 32) (hP : P.length = np) (hst : P.length = stepsN i.toNat n.toNat) (hc : np ≤ cp) (h32 : All32 P) (hsl : SlAt w a (bs P.flatten)) :
    Rtn Try.prog 64 [.agg (bs leaf).toArray, i64 i, i64 n, Value.slice a np cp].toArray w (fun v w' => v = .agg (bs (leadH (hashB 2) leaf i.toNat n.toNat P)).toArray ∧ Kept w w') := by
  induction m using Nat.strongRecOn generalizing leaf i n P a np cp w
  rename_i m ih
  obtain ⟨i, rfl⟩ := Int.eq_ofNat_of_zero_le hi0
  obtain ⟨n, rfl⟩ := Int.eq_ofNat_of_zero_le (by omega : (0 : Int) ≤ n)
  simp only [Int.toNat_natCast] at hm hst ⊢
  refine fn_body (l := [.agg (bs leaf).toArray, i64 (i : Nat), i64 (n : Nat), Value.slice a np cp]) 49 [.cell 8 25] Try.func64 rfl Try.ntmps64 (Nat.le_of_ble_eq_true rfl) (by rw [Try.results64]) ?_
  refine go_seq ?_
  refine go_region 2 rfl rfl ?_
  refine s_do rfl rfl (w_boxA rfl) rfl ?_
  rintro _ w1 ⟨b2, rfl, hl_b2, hu_b2, p3, c_w1⟩
  have hs_w1 : w.heap.size ≤ w1.heap.size := Chg.size c_w1
  have C_w1 := Chg.pure (Chg.refl no w) c_w1
  have hn_b2 : w.heap.size ≤ b2 := by have := Chg.size C_w1; omega
  refine s_do rfl rfl (w_alloc (bs (List.replicate 32 0)) Try.zeroValue25 (by kernel_rfl)) rfl ?_
  rintro _ w4 ⟨b5, rfl, hl_b5, hu_b5, p6, c_w4⟩
  have hs_w4 : w1.heap.size ≤ w4.heap.size := Chg.size c_w4
  replace p3 := p3.k c_w4
  have C_w4 := Chg.pure C_w1 c_w4
  have hn_b5 : w.heap.size ≤ b5 := by have := Chg.size C_w4; omega
  refine s_end ?_
  refine go_seq ?_
  refine go_seq ?_
  refine go_region 2 rfl rfl ?_
  refine s_val rfl rfl (r_move) rfl ?_
  refine s_val rfl rfl (r_eql rfl rfl) rfl ?_
  refine s_end ?_
  refine go_ifb _ rfl (fun h1 => ?_) (fun h1 => ?_)
  · first | replace h1 := of_decide_eq_true h1 | replace h1 := of_decide_eq_false (nt h1) | skip
    refine go_seq ?_
    refine go_region 2 rfl rfl ?_
    refine s_val rfl rfl (r_loadN Try.isAgg25 Try.sizeOf25 rfl p3.rd (by first | exact bs_len (by omega) | exact bs_len (by simp; done) | exact bs_len (by simp; omega))) rfl ?_
    refine s_do rfl rfl (w_storeA (o := 0) Try.sizeOf25 rfl rfl (by first | exact bs_len (by omega) | exact bs_len (by simp; done) | exact bs_len (by simp; omega)) (flat_bs _) p6 (by first | exact bs_len (by omega) | exact bs_len (by simp; done) | exact bs_len (by simp; omega))) rfl ?_
    rintro _ w7 ⟨q_w7, c_w7⟩
    have hs_w7 : w4.heap.size ≤ w7.heap.size := Chg.size c_w7
    replace p3 := p3.kb c_w7 (by omega)
    have C_w7 := Chg.newRng C_w4 c_w7 (by omega)
    have p6 := q_w7
    refine s_end ?_
    refine go_ret ?_
    refine ⟨_, .cons ⟨_, rfl, run_load_agg Try.isAgg25 Try.sizeOf25 (by first | exact bs_len (by omega) | exact bs_len (by simp; done) | exact bs_len (by simp; omega)) p6.rd⟩ (.nil), ?_⟩
    rw [leadH_one _ _ _ _ (by omega)]
    exact ⟨rfl, C_w7⟩
  · first | replace h1 := of_decide_eq_false h1 | replace h1 := of_decide_eq_true (nf h1) | skip
    have hsp := steps_pos (i := i) (n := n) (by omega)
    have hsq := steps_le n i
    refine go_skip ?_
    refine go_seq ?_
    refine go_region 3 rfl rfl ?_
    refine s_val rfl rfl (r_move) rfl ?_
    refine s_do rfl rfl (w_call Try.call58 rfl (split_spec n _ (by omega) (by omega))) rfl ?_
    rintro _ w8 ⟨rfl, c_w8⟩
    have hs_w8 : w4.heap.size ≤ w8.heap.size := Chg.size c_w8
    replace p3 := p3.k c_w8
    replace p6 := p6.k c_w8
    have C_w8 := Chg.pure C_w4 c_w8
    have hlt_w8 := halfN_lt (n := n) (by omega)
    have hps_w8 := halfN_pos n
    refine s_val rfl rfl (r_assign) rfl ?_
    refine s_end ?_
    refine go_seq ?_
    refine go_drawsK 13 (.take 0 (.take 1 (.take 2 (.take 3 (.take 4 (.take 5 (.take 6 (.take 7 (.take 8 (.take 9 (.take 10 (.eff 11 (.eff 12 (.eff 13 .done)))))))))))))) (by kernel_rfl) (by kernel_rfl) fun w9 c_w9 => ?_
    have hs_w9 : w8.heap.size ≤ w9.heap.size := Chg.size c_w9
    replace p3 := p3.k c_w9
    replace p6 := p6.k c_w9
    have C_w9 := Chg.pure C_w8 c_w9
    have p3_0 := p3
    have p6_0 := p6
    refine s_takeK rfl rfl (w0 := w9) (fun x_ c_ => r_move) ?_
    refine s_takeK rfl rfl (w0 := w9) (fun x_ c_ => r_move) ?_
    refine s_takeK rfl rfl (w0 := w9) (fun x_ c_ => r_len Try.runUnderlying29 rfl) ?_
    refine s_takeK rfl rfl (w0 := w9) (fun x_ c_ => r_subi rfl rfl (by omega)) ?_
    refine s_takeK rfl rfl (w0 := w9) (fun x_ c_ => r_indexSl (k := (np - 1)) Try.runUnderlying29 Try.sizeOf25 rfl ((hsl.k C_w9).k c_) (sums_ne h32 (by first | omega | (simp; omega))) rfl (by first | rfl | omega) (by omega)) ?_
    have hg_e10 := All32.get h32 (k := (np - 1)) (by first | omega | (simp; omega))
    refine s_takeK rfl rfl (w0 := w9) (fun x_ c_ => r_loadSlN Try.isAgg25 Try.sizeOf25 rfl ((hsl.k C_w9).k c_) (bs_len (All32.get h32 (by first | omega | (simp; omega)))) (sums_ne h32 (by first | omega | (simp; omega))) (sum_get h32 (k := (np - 1)) (by first | omega | (simp; omega)))) ?_
    refine s_takeK rfl rfl (w0 := w9) (fun x_ c_ => r_move) ?_
    refine s_takeK rfl rfl (w0 := w9) (fun x_ c_ => r_move) ?_
    refine s_takeK rfl rfl (w0 := w9) (fun x_ c_ => r_len Try.runUnderlying29 rfl) ?_
    refine s_takeK rfl rfl (w0 := w9) (fun x_ c_ => r_subi rfl rfl (by omega)) ?_
    have s11 := SlAt.cutS_take hsl h32 (np - 1) cp (by omega)
    refine s_takeK rfl rfl (w0 := w9) (fun x_ c_ => r_sliceSl (l := 0) (h := (np - 1)) (m := cp) Try.runUnderlying29 Try.sizeOf25 rfl rfl ⟨_, _, rfl, by first | rfl | omega⟩ rfl (by first | decide | (intro h_; cases h_)) (by first | decide | omega) (by first | decide | omega | (intro _; omega)) (by first | exact Nat.le_refl _ | omega)) ?_
    refine s_fxK rfl rfl (w_alloc (bs (List.replicate 32 0)) Try.zeroValue25 (by kernel_rfl)) ?_
    rintro _ w12 ⟨b13, rfl, hl_b13, hu_b13, p14, c_w12⟩
    have hs_w12 : w9.heap.size ≤ w12.heap.size := Chg.size c_w12
    replace p3 := p3.k c_w12
    replace p6 := p6.k c_w12
    have C_w12 := Chg.pure C_w9 c_w12
    have hn_b13 : w.heap.size ≤ b13 := by have := Chg.size C_w12; omega
    have K_w12 := Chg.pure (Chg.refl no w9) c_w12
    refine ⟨K_w12, ?_⟩
    refine s_fxK rfl rfl (w_storeA (o := 0) Try.sizeOf25 rfl rfl (by first | exact bs_len (by omega) | exact bs_len (by simp; done) | exact bs_len (by simp; omega)) (flat_bs _) p14 (by first | exact bs_len (by omega) | exact bs_len (by simp; done) | exact bs_len (by simp; omega))) ?_
    rintro _ w15 ⟨q_w15, c_w15⟩
    have hs_w15 : w12.heap.size ≤ w15.heap.size := Chg.size c_w15
    replace p3 := p3.kb c_w15 (by omega)
    replace p6 := p6.kb c_w15 (by omega)
    have C_w15 := Chg.newRng C_w12 c_w15 (by omega)
    have p14 := q_w15
    have K_w15 := Chg.newRng K_w12 c_w15 (by omega)
    refine ⟨K_w15, ?_⟩
    refine s_val rfl rfl (r_assign) rfl ?_
    refine s_end ?_
    refine go_seq ?_
    refine go_seq ?_
    refine go_region 3 rfl rfl ?_
    refine s_val rfl rfl (r_move) rfl ?_
    refine s_val rfl rfl (r_move) rfl ?_
    refine s_val rfl rfl (r_lss rfl rfl) rfl ?_
    refine s_end ?_
    refine go_ifb _ rfl (fun h2 => ?_) (fun h2 => ?_)
    · first | replace h2 := of_decide_eq_true h2 | replace h2 := of_decide_eq_false (nt h2) | skip
      have hsT := steps_lt (i := i) (n := n) (by omega) (by omega)
      refine go_seq ?_
      refine go_drawsK 6 (.take 0 (.take 1 (.take 2 (.take 3 (.take 5 (.eff 4 (.eff 6 (.eff 7 .done)))))))) (by kernel_rfl) (by kernel_rfl) fun w16 c_w16 => ?_
      have hs_w16 : w15.heap.size ≤ w16.heap.size := Chg.size c_w16
      replace p3 := p3.k c_w16
      replace p6 := p6.k c_w16
      replace p14 := p14.k c_w16
      have C_w16 := Chg.pure C_w15 c_w16
      have p3_0 := p3
      have p6_0 := p6
      have p14_0 := p14
      refine s_takeK rfl rfl (w0 := w16) (fun x_ c_ => r_loadN Try.isAgg25 Try.sizeOf25 rfl (p3_0.k c_).rd (by first | exact bs_len (by omega) | exact bs_len (by simp; done) | exact bs_len (by simp; omega))) ?_
      refine s_takeK rfl rfl (w0 := w16) (fun x_ c_ => r_move) ?_
      refine s_takeK rfl rfl (w0 := w16) (fun x_ c_ => r_move) ?_
      refine s_takeK rfl rfl (w0 := w16) (fun x_ c_ => r_move) ?_
      refine s_takeK rfl rfl (w0 := w16) (fun x_ c_ => r_loadN Try.isAgg25 Try.sizeOf25 rfl (p14_0.k c_).rd (by first | exact bs_len (by omega) | exact bs_len (by simp; done) | exact bs_len (by simp; omega))) ?_
      refine s_fxK rfl rfl (w_call Try.call64 rfl (ih _ (by omega) leaf _ _ (P.take (np - 1)) _ _ _ _ rfl (by omega) (by omega) (by omega) (by omega) (by first | omega | (simp; done) | (simp; omega)) (by first | omega | (simp only [Int.toNat_natCast, List.length_take]; omega) | (rw [show ((i : Int) - ((halfN n : Nat) : Int)).toNat = i - halfN n by omega, show ((n : Int) - ((halfN n : Nat) : Int)).toNat = n - halfN n by omega, List.length_take]; omega)) (by first | omega | (simp; done) | (simp; omega)) (h32.take (np - 1)) (s11.k C_w16))) ?_
      rintro _ w17 ⟨rfl, c_w17⟩
      have hs_w17 : w16.heap.size ≤ w17.heap.size := Chg.size c_w17
      replace p3 := p3.k c_w17
      replace p6 := p6.k c_w17
      replace p14 := p14.k c_w17
      have C_w17 := Chg.pure C_w16 c_w17
      have hr_w17 := leadH_len hashB2_length (leaf := leaf) (by omega) i n (P.take (np - 1))
      have K_w17 := Chg.pure (Chg.refl no w16) c_w17
      refine ⟨K_w17, ?_⟩
      refine s_do rfl rfl (w_call Try.call52 rfl (nodeB_spec (leadH (hashB 2) leaf _ _ (P.take (np - 1))) (P.getD (np - 1) []) _ (by first | omega | exact leadH_len hashB2_length (by omega) _ _ _) (by first | omega | exact leadH_len hashB2_length (by omega) _ _ _))) rfl ?_
      rintro _ w18 ⟨rfl, c_w18⟩
      have hs_w18 : w17.heap.size ≤ w18.heap.size := Chg.size c_w18
      replace p3 := p3.k c_w18
      replace p6 := p6.k c_w18
      replace p14 := p14.k c_w18
      have C_w18 := Chg.pure C_w17 c_w18
      refine s_do rfl rfl (w_storeA (o := 0) Try.sizeOf25 rfl rfl (by first | exact bs_len (by omega) | exact bs_len (by simp; done) | exact bs_len (by simp; omega)) (flat_bs _) p6 (by first | exact bs_len (by omega) | exact bs_len (by simp; done) | exact bs_len (by simp; omega))) rfl ?_
      rintro _ w19 ⟨q_w19, c_w19⟩
      have hs_w19 : w18.heap.size ≤ w19.heap.size := Chg.size c_w19
      replace p3 := p3.kb c_w19 (by omega)
      replace p14 := p14.kb c_w19 (by omega)
      have C_w19 := Chg.newRng C_w18 c_w19 (by omega)
      have p6 := q_w19
      refine s_end ?_
      refine go_ret ?_
      refine ⟨_, .cons ⟨_, rfl, run_load_agg Try.isAgg25 Try.sizeOf25 (by first | exact bs_len (by omega) | exact bs_len (by simp; done) | exact bs_len (by simp; omega)) p6.rd⟩ (.nil), ?_⟩
      rw [leadH_lt _ _ _ (by omega) (by omega), hP]
      exact ⟨rfl, C_w19⟩
    · first | replace h2 := of_decide_eq_false h2 | replace h2 := of_decide_eq_true (nf h2) | skip
      have hsF := steps_ge (i := i) (n := n) (by omega) (by omega)
      refine go_skip ?_
      refine go_seq ?_
      refine go_drawsK 10 (.take 0 (.take 1 (.take 2 (.take 3 (.take 4 (.take 5 (.take 6 (.take 7 (.take 8 (.eff 9 (.eff 10 (.eff 11 .done)))))))))))) (by kernel_rfl) (by kernel_rfl) fun w20 c_w20 => ?_
      have hs_w20 : w15.heap.size ≤ w20.heap.size := Chg.size c_w20
      replace p3 := p3.k c_w20
      replace p6 := p6.k c_w20
      replace p14 := p14.k c_w20
      have C_w20 := Chg.pure C_w15 c_w20
      have p3_0 := p3
      have p6_0 := p6
      have p14_0 := p14
      refine s_takeK rfl rfl (w0 := w20) (fun x_ c_ => r_loadN Try.isAgg25 Try.sizeOf25 rfl (p14_0.k c_).rd (by first | exact bs_len (by omega) | exact bs_len (by simp; done) | exact bs_len (by simp; omega))) ?_
      refine s_takeK rfl rfl (w0 := w20) (fun x_ c_ => r_loadN Try.isAgg25 Try.sizeOf25 rfl (p3_0.k c_).rd (by first | exact bs_len (by omega) | exact bs_len (by simp; done) | exact bs_len (by simp; omega))) ?_
      refine s_takeK rfl rfl (w0 := w20) (fun x_ c_ => r_move) ?_
      refine s_takeK rfl rfl (w0 := w20) (fun x_ c_ => r_move) ?_
      refine s_takeK rfl rfl (w0 := w20) (fun x_ c_ => r_subi rfl rfl (by omega)) ?_
      refine s_takeK rfl rfl (w0 := w20) (fun x_ c_ => r_move) ?_
      refine s_takeK rfl rfl (w0 := w20) (fun x_ c_ => r_move) ?_
      refine s_takeK rfl rfl (w0 := w20) (fun x_ c_ => r_subi rfl rfl (by omega)) ?_
      refine s_takeK rfl rfl (w0 := w20) (fun x_ c_ => r_move) ?_
      refine s_fxK rfl rfl (w_call Try.call64 rfl (ih _ (by omega) leaf _ _ (P.take (np - 1)) _ _ _ _ rfl (by omega) (by omega) (by omega) (by omega) (by first | omega | (simp; done) | (simp; omega)) (by first | omega | (simp only [Int.toNat_natCast, List.length_take]; omega) | (rw [show ((i : Int) - ((halfN n : Nat) : Int)).toNat = i - halfN n by omega, show ((n : Int) - ((halfN n : Nat) : Int)).toNat = n - halfN n by omega, List.length_take]; omega)) (by first | omega | (simp; done) | (simp; omega)) (h32.take (np - 1)) (s11.k C_w20))) ?_
      rintro _ w21 ⟨rfl, c_w21⟩
      have hs_w21 : w20.heap.size ≤ w21.heap.size := Chg.size c_w21
      replace p3 := p3.k c_w21
      replace p6 := p6.k c_w21
      replace p14 := p14.k c_w21
      have C_w21 := Chg.pure C_w20 c_w21
      have hr_w21 := leadH_len hashB2_length (leaf := leaf) (by omega) i n (P.take (np - 1))
      have K_w21 := Chg.pure (Chg.refl no w20) c_w21
      refine ⟨K_w21, ?_⟩
      refine s_do rfl rfl (w_call Try.call52 rfl (nodeB_spec (P.getD (np - 1) []) (leadH (hashB 2) leaf _ _ (P.take (np - 1))) _ (by first | omega | exact leadH_len hashB2_length (by omega) _ _ _) (by first | omega | exact leadH_len hashB2_length (by omega) _ _ _))) rfl ?_
      rintro _ w22 ⟨rfl, c_w22⟩
      have hs_w22 : w21.heap.size ≤ w22.heap.size := Chg.size c_w22
      replace p3 := p3.k c_w22
      replace p6 := p6.k c_w22
      replace p14 := p14.k c_w22
      have C_w22 := Chg.pure C_w21 c_w22
      refine s_do rfl rfl (w_storeA (o := 0) Try.sizeOf25 rfl rfl (by first | exact bs_len (by omega) | exact bs_len (by simp; done) | exact bs_len (by simp; omega)) (flat_bs _) p6 (by first | exact bs_len (by omega) | exact bs_len (by simp; done) | exact bs_len (by simp; omega))) rfl ?_
      rintro _ w23 ⟨q_w23, c_w23⟩
      have hs_w23 : w22.heap.size ≤ w23.heap.size := Chg.size c_w23
      replace p3 := p3.kb c_w23 (by omega)
      replace p14 := p14.kb c_w23 (by omega)
      have C_w23 := Chg.newRng C_w22 c_w23 (by omega)
      have p6 := q_w23
      refine s_end ?_
      refine go_ret ?_
      refine ⟨_, .cons ⟨_, rfl, run_load_agg Try.isAgg25 Try.sizeOf25 (by first | exact bs_len (by omega) | exact bs_len (by simp; done) | exact bs_len (by simp; omega)) p6.rd⟩ (.nil), ?_⟩
      have e1 : ((i : Int) - ((halfN n : Nat) : Int)).toNat = i - halfN n := by omega
      have e2 : ((n : Int) - ((halfN n : Nat) : Int)).toNat = n - halfN n := by omega
      rw [leadH_ge _ _ _ (by omega) (by omega), hP, ← e1, ← e2]
      exact ⟨rfl, C_w23⟩


def rootBy (leaf : List UInt8) (i n : Int) (P : List (List UInt8)) : List UInt8 × Int :=
  if n < 1 ∨ 65536 < n then (List.replicate 32 0, 4) else if i < 0 ∨ n ≤ i then (List.replicate 32 0, 7) else if P.length ≠ stepsN i.toNat n.toNat then (List.replicate 32 0, 12) else (leadH (hashB 2) leaf i.toNat n.toNat P, 0)
theorem rootBy_len {leaf : List UInt8} (h : leaf.length = 32) (i n : Int) (P : List (List UInt8)) : (rootBy leaf i n P).1.length = 32 := by
  unfold rootBy
  split
  · simp
  · split
    · simp
    · split
      · simp
      · exact leadH_len hashB2_length h _ _ _
def provedF (root leaf : List UInt8) (i n : Int) (P : List (List UInt8)) : Int := if (rootBy leaf i n P).2 = 0 ∧ (rootBy leaf i n P).1 ≠ root then 12 else (rootBy leaf i n P).2
def checkF (root chunk : List UInt8) (i n : Int) (P : List (List UInt8)) : Int := provedF root (hashB 1 chunk) i n P

set_option maxHeartbeats 1000000 in
theorem rootBy_spec (leaf : List UInt8) (i n : Int) (P : List (List UInt8)) (a : Option Addr) (np cp : Nat) (w : World) (hlf : leaf.length = 32) (hP : P.length = np) (hc : np ≤ cp) (hnp : np < 4611686018427387904) (h32 : All32 P) (hsl : SlAt w a (bs P.flatten)) :
    Rtn Try.prog 49 [.agg (bs leaf).toArray, .agg ([i64 i] ++ ([i64 n] ++ [Value.slice a np cp])).toArray].toArray w (fun v w' => v = tup [.agg (bs (rootBy leaf i n P).1).toArray, i64 (rootBy leaf i n P).2] ∧ Kept w w') := by
  refine fn_body (l := [.agg (bs leaf).toArray, .agg ([i64 i] ++ ([i64 n] ++ [Value.slice a np cp])).toArray]) 47 [.cell 4 25, .tmp 5] Try.func49 rfl Try.ntmps49 (Nat.le_of_ble_eq_true rfl) (by rw [Try.results49]) ?_
  refine go_seq ?_
  refine go_region 4 rfl rfl ?_
  refine s_do rfl rfl (w_boxA rfl) rfl ?_
  rintro _ w1 ⟨b2, rfl, hl_b2, hu_b2, p3, c_w1⟩
  have hs_w1 : w.heap.size ≤ w1.heap.size := Chg.size c_w1
  have C_w1 := Chg.pure (Chg.refl no w) c_w1
  have hn_b2 : w.heap.size ≤ b2 := by have := Chg.size C_w1; omega
  refine s_do rfl rfl (w_boxA rfl) rfl ?_
  rintro _ w4 ⟨b5, rfl, hl_b5, hu_b5, p6, c_w4⟩
  have hs_w4 : w1.heap.size ≤ w4.heap.size := Chg.size c_w4
  replace p3 := p3.k c_w4
  have C_w4 := Chg.pure C_w1 c_w4
  have hn_b5 : w.heap.size ≤ b5 := by have := Chg.size C_w4; omega
  obtain ⟨p7, p8⟩ := Pc.split p6 (n := 1) (by first | rfl | (simp; done))
  replace p7 : Pc _ _ 0 _ := p7
  obtain ⟨p9, p10⟩ := Pc.split p8 (n := 1) (by first | rfl | (simp; done))
  replace p9 : Pc _ _ 1 _ := p9
  have p11 : Pc _ _ 2 _ := p10
  refine s_do rfl rfl (w_alloc (bs (List.replicate 32 0)) Try.zeroValue25 (by kernel_rfl)) rfl ?_
  rintro _ w13 ⟨b14, rfl, hl_b14, hu_b14, p15, c_w13⟩
  have hs_w13 : w4.heap.size ≤ w13.heap.size := Chg.size c_w13
  replace p3 := p3.k c_w13
  replace p7 := p7.k c_w13
  replace p9 := p9.k c_w13
  replace p11 := p11.k c_w13
  have C_w13 := Chg.pure C_w4 c_w13
  have hn_b14 : w.heap.size ≤ b14 := by have := Chg.size C_w13; omega
  refine s_val rfl rfl (r_assign) rfl ?_
  refine s_end ?_
  refine go_seq ?_
  refine go_block ?_
  refine go_seq ?_
  refine go_region 9 rfl rfl ?_
  refine s_val rfl rfl (r_fieldAddr Try.runUnderlying31 rfl Try.sizeOf3 rfl rfl) rfl ?_
  refine s_val rfl rfl (r_load1 Try.isAgg3 rfl p9.rd) rfl ?_
  refine s_val rfl rfl (r_lss rfl rfl) rfl ?_
  refine s_valB rfl rfl (r_move) rfl (fun h16 => ?_) (fun h16 => ?_)
  · first | replace h16 := of_decide_eq_true h16 | replace h16 := of_decide_eq_false (nt h16) | skip
    refine s_val_not rfl rfl ?_
    refine s_val_not rfl rfl ?_
    refine s_val_not rfl rfl ?_
    refine s_val rfl rfl (r_pick true rfl) rfl ?_
    refine s_val rfl rfl (r_assign) rfl ?_
    refine s_end ?_
    refine go_true rfl ?_
    refine go_seq ?_
    refine go_region 3 rfl rfl ?_
    refine s_val rfl rfl (r_buildA Try.zeroValue25 Try.runUnderlying25 Try.sizeOf5 (cs := bs (List.replicate 32 0)) (by kernel_rfl)) rfl ?_
    refine s_do rfl rfl (w_storeA (o := 0) Try.sizeOf25 rfl rfl (by first | exact bs_len (by omega) | exact bs_len (by simp; done) | exact bs_len (by simp; omega)) (flat_bs _) p15 (by first | exact bs_len (by omega) | exact bs_len (by simp; done) | exact bs_len (by simp; omega))) rfl ?_
    rintro _ w17 ⟨q_w17, c_w17⟩
    have hs_w17 : w13.heap.size ≤ w17.heap.size := Chg.size c_w17
    replace p3 := p3.kb c_w17 (by omega)
    replace p7 := p7.kb c_w17 (by omega)
    replace p9 := p9.kb c_w17 (by omega)
    replace p11 := p11.kb c_w17 (by omega)
    have C_w17 := Chg.newRng C_w13 c_w17 (by omega)
    have p15 := q_w17
    refine s_val rfl rfl (r_assign) rfl ?_
    refine s_end ?_
    refine go_ret (block_ret ?_)
    refine ⟨_, .cons ⟨_, rfl, run_load_agg Try.isAgg25 Try.sizeOf25 (by first | exact bs_len (by omega) | exact bs_len (by simp; done) | exact bs_len (by simp; omega)) p15.rd⟩ (.cons rfl (.nil)), ?_⟩
    rw [rootBy, if_pos (by omega)]
    exact ⟨rfl, C_w17⟩
  · first | replace h16 := of_decide_eq_false h16 | replace h16 := of_decide_eq_true (nf h16) | skip
    refine s_val_g rfl rfl (r_fieldAddr Try.runUnderlying31 rfl Try.sizeOf3 rfl rfl) rfl ?_
    refine s_val_g rfl rfl (r_load1 Try.isAgg3 rfl p9.rd) rfl ?_
    refine s_val_g rfl rfl (r_gtr rfl rfl) rfl ?_
    refine s_val rfl rfl (r_pick false rfl) rfl ?_
    refine s_val rfl rfl (r_assign) rfl ?_
    refine s_end ?_
    refine go_ifb _ rfl (fun h2 => ?_) (fun h2 => ?_)
    · first | replace h2 := of_decide_eq_true h2 | replace h2 := of_decide_eq_false (nt h2) | skip
      refine go_seq ?_
      refine go_region 3 rfl rfl ?_
      refine s_val rfl rfl (r_buildA Try.zeroValue25 Try.runUnderlying25 Try.sizeOf5 (cs := bs (List.replicate 32 0)) (by kernel_rfl)) rfl ?_
      refine s_do rfl rfl (w_storeA (o := 0) Try.sizeOf25 rfl rfl (by first | exact bs_len (by omega) | exact bs_len (by simp; done) | exact bs_len (by simp; omega)) (flat_bs _) p15 (by first | exact bs_len (by omega) | exact bs_len (by simp; done) | exact bs_len (by simp; omega))) rfl ?_
      rintro _ w18 ⟨q_w18, c_w18⟩
      have hs_w18 : w13.heap.size ≤ w18.heap.size := Chg.size c_w18
      replace p3 := p3.kb c_w18 (by omega)
      replace p7 := p7.kb c_w18 (by omega)
      replace p9 := p9.kb c_w18 (by omega)
      replace p11 := p11.kb c_w18 (by omega)
      have C_w18 := Chg.newRng C_w13 c_w18 (by omega)
      have p15 := q_w18
      refine s_val rfl rfl (r_assign) rfl ?_
      refine s_end ?_
      refine go_ret (block_ret ?_)
      refine ⟨_, .cons ⟨_, rfl, run_load_agg Try.isAgg25 Try.sizeOf25 (by first | exact bs_len (by omega) | exact bs_len (by simp; done) | exact bs_len (by simp; omega)) p15.rd⟩ (.cons rfl (.nil)), ?_⟩
      rw [rootBy, if_pos (by omega)]
      exact ⟨rfl, C_w18⟩
    · first | replace h2 := of_decide_eq_false h2 | replace h2 := of_decide_eq_true (nf h2) | skip
      refine go_seq ?_
      refine go_region 11 rfl rfl ?_
      refine s_val rfl rfl (r_fieldAddr Try.runUnderlying31 rfl Try.sizeOf3 rfl rfl) rfl ?_
      refine s_val rfl rfl (r_load1 Try.isAgg3 rfl p7.rd) rfl ?_
      refine s_val rfl rfl (r_lss rfl rfl) rfl ?_
      refine s_valB rfl rfl (r_move) rfl (fun h19 => ?_) (fun h19 => ?_)
      · first | replace h19 := of_decide_eq_true h19 | replace h19 := of_decide_eq_false (nt h19) | skip
        refine s_val_not rfl rfl ?_
        refine s_val_not rfl rfl ?_
        refine s_val_not rfl rfl ?_
        refine s_val_not rfl rfl ?_
        refine s_val_not rfl rfl ?_
        refine s_val rfl rfl (r_pick true rfl) rfl ?_
        refine s_val rfl rfl (r_assign) rfl ?_
        refine s_end ?_
        refine go_true rfl ?_
        refine go_seq ?_
        refine go_region 3 rfl rfl ?_
        refine s_val rfl rfl (r_buildA Try.zeroValue25 Try.runUnderlying25 Try.sizeOf5 (cs := bs (List.replicate 32 0)) (by kernel_rfl)) rfl ?_
        refine s_do rfl rfl (w_storeA (o := 0) Try.sizeOf25 rfl rfl (by first | exact bs_len (by omega) | exact bs_len (by simp; done) | exact bs_len (by simp; omega)) (flat_bs _) p15 (by first | exact bs_len (by omega) | exact bs_len (by simp; done) | exact bs_len (by simp; omega))) rfl ?_
        rintro _ w20 ⟨q_w20, c_w20⟩
        have hs_w20 : w13.heap.size ≤ w20.heap.size := Chg.size c_w20
        replace p3 := p3.kb c_w20 (by omega)
        replace p7 := p7.kb c_w20 (by omega)
        replace p9 := p9.kb c_w20 (by omega)
        replace p11 := p11.kb c_w20 (by omega)
        have C_w20 := Chg.newRng C_w13 c_w20 (by omega)
        have p15 := q_w20
        refine s_val rfl rfl (r_assign) rfl ?_
        refine s_end ?_
        refine go_ret (block_ret ?_)
        refine ⟨_, .cons ⟨_, rfl, run_load_agg Try.isAgg25 Try.sizeOf25 (by first | exact bs_len (by omega) | exact bs_len (by simp; done) | exact bs_len (by simp; omega)) p15.rd⟩ (.cons rfl (.nil)), ?_⟩
        rw [rootBy, if_neg (by omega), if_pos (by omega)]
        exact ⟨rfl, C_w20⟩
      · first | replace h19 := of_decide_eq_false h19 | replace h19 := of_decide_eq_true (nf h19) | skip
        refine s_val_g rfl rfl (r_fieldAddr Try.runUnderlying31 rfl Try.sizeOf3 rfl rfl) rfl ?_
        refine s_val_g rfl rfl (r_load1 Try.isAgg3 rfl p7.rd) rfl ?_
        refine s_val_g rfl rfl (r_fieldAddr Try.runUnderlying31 rfl Try.sizeOf3 rfl rfl) rfl ?_
        refine s_val_g rfl rfl (r_load1 Try.isAgg3 rfl p9.rd) rfl ?_
        refine s_val_g rfl rfl (r_geq rfl rfl) rfl ?_
        refine s_val rfl rfl (r_pick false rfl) rfl ?_
        refine s_val rfl rfl (r_assign) rfl ?_
        refine s_end ?_
        refine go_ifb _ rfl (fun h4 => ?_) (fun h4 => ?_)
        · first | replace h4 := of_decide_eq_true h4 | replace h4 := of_decide_eq_false (nt h4) | skip
          refine go_seq ?_
          refine go_region 3 rfl rfl ?_
          refine s_val rfl rfl (r_buildA Try.zeroValue25 Try.runUnderlying25 Try.sizeOf5 (cs := bs (List.replicate 32 0)) (by kernel_rfl)) rfl ?_
          refine s_do rfl rfl (w_storeA (o := 0) Try.sizeOf25 rfl rfl (by first | exact bs_len (by omega) | exact bs_len (by simp; done) | exact bs_len (by simp; omega)) (flat_bs _) p15 (by first | exact bs_len (by omega) | exact bs_len (by simp; done) | exact bs_len (by simp; omega))) rfl ?_
          rintro _ w21 ⟨q_w21, c_w21⟩
          have hs_w21 : w13.heap.size ≤ w21.heap.size := Chg.size c_w21
          replace p3 := p3.kb c_w21 (by omega)
          replace p7 := p7.kb c_w21 (by omega)
          replace p9 := p9.kb c_w21 (by omega)
          replace p11 := p11.kb c_w21 (by omega)
          have C_w21 := Chg.newRng C_w13 c_w21 (by omega)
          have p15 := q_w21
          refine s_val rfl rfl (r_assign) rfl ?_
          refine s_end ?_
          refine go_ret (block_ret ?_)
          refine ⟨_, .cons ⟨_, rfl, run_load_agg Try.isAgg25 Try.sizeOf25 (by first | exact bs_len (by omega) | exact bs_len (by simp; done) | exact bs_len (by simp; omega)) p15.rd⟩ (.cons rfl (.nil)), ?_⟩
          rw [rootBy, if_neg (by omega), if_pos (by omega)]
          exact ⟨rfl, C_w21⟩
        · first | replace h4 := of_decide_eq_false h4 | replace h4 := of_decide_eq_true (nf h4) | skip
          refine go_seq ?_
          refine go_drawsK 8 (.take 0 (.take 1 (.take 2 (.take 3 (.take 4 (.take 5 (.take 6 (.eff 7 (.eff 8 (.eff 9 .done)))))))))) (by kernel_rfl) (by kernel_rfl) fun w22 c_w22 => ?_
          have hs_w22 : w13.heap.size ≤ w22.heap.size := Chg.size c_w22
          replace p3 := p3.k c_w22
          replace p7 := p7.k c_w22
          replace p9 := p9.k c_w22
          replace p11 := p11.k c_w22
          replace p15 := p15.k c_w22
          have C_w22 := Chg.pure C_w13 c_w22
          have p3_0 := p3
          have p7_0 := p7
          have p9_0 := p9
          have p11_0 := p11
          have p15_0 := p15
          refine s_takeK rfl rfl (w0 := w22) (fun x_ c_ => r_fieldAddr Try.runUnderlying31 rfl Try.sizeOf29 rfl rfl) ?_
          refine s_takeK rfl rfl (w0 := w22) (fun x_ c_ => r_load1 Try.isAgg29 rfl (p11_0.k c_).rd) ?_
          refine s_takeK rfl rfl (w0 := w22) (fun x_ c_ => r_len Try.runUnderlying29 rfl) ?_
          refine s_takeK rfl rfl (w0 := w22) (fun x_ c_ => r_fieldAddr Try.runUnderlying31 rfl Try.sizeOf3 rfl rfl) ?_
          refine s_takeK rfl rfl (w0 := w22) (fun x_ c_ => r_load1 Try.isAgg3 rfl (p7_0.k c_).rd) ?_
          refine s_takeK rfl rfl (w0 := w22) (fun x_ c_ => r_fieldAddr Try.runUnderlying31 rfl Try.sizeOf3 rfl rfl) ?_
          refine s_takeK rfl rfl (w0 := w22) (fun x_ c_ => r_load1 Try.isAgg3 rfl (p9_0.k c_).rd) ?_
          refine s_fxK rfl rfl (w_call Try.call63 rfl (steps_spec _ _ _ (by omega) (by omega) (by omega))) ?_
          rintro _ w23 ⟨rfl, c_w23⟩
          have hs_w23 : w22.heap.size ≤ w23.heap.size := Chg.size c_w23
          replace p3 := p3.k c_w23
          replace p7 := p7.k c_w23
          replace p9 := p9.k c_w23
          replace p11 := p11.k c_w23
          replace p15 := p15.k c_w23
          have C_w23 := Chg.pure C_w22 c_w23
          have K_w23 := Chg.pure (Chg.refl no w22) c_w23
          refine ⟨K_w23, ?_⟩
          refine s_val rfl rfl (r_neq rfl rfl) rfl ?_
          refine s_val rfl rfl (r_assign) rfl ?_
          refine s_end ?_
          refine go_ifb _ rfl (fun h5 => ?_) (fun h5 => ?_)
          · first | replace h5 := of_decide_eq_true h5 | replace h5 := of_decide_eq_false (nt h5) | skip
            refine go_seq ?_
            refine go_region 3 rfl rfl ?_
            refine s_val rfl rfl (r_buildA Try.zeroValue25 Try.runUnderlying25 Try.sizeOf5 (cs := bs (List.replicate 32 0)) (by kernel_rfl)) rfl ?_
            refine s_do rfl rfl (w_storeA (o := 0) Try.sizeOf25 rfl rfl (by first | exact bs_len (by omega) | exact bs_len (by simp; done) | exact bs_len (by simp; omega)) (flat_bs _) p15 (by first | exact bs_len (by omega) | exact bs_len (by simp; done) | exact bs_len (by simp; omega))) rfl ?_
            rintro _ w24 ⟨q_w24, c_w24⟩
            have hs_w24 : w23.heap.size ≤ w24.heap.size := Chg.size c_w24
            replace p3 := p3.kb c_w24 (by omega)
            replace p7 := p7.kb c_w24 (by omega)
            replace p9 := p9.kb c_w24 (by omega)
            replace p11 := p11.kb c_w24 (by omega)
            have C_w24 := Chg.newRng C_w23 c_w24 (by omega)
            have p15 := q_w24
            refine s_val rfl rfl (r_assign) rfl ?_
            refine s_end ?_
            refine go_ret (block_ret ?_)
            refine ⟨_, .cons ⟨_, rfl, run_load_agg Try.isAgg25 Try.sizeOf25 (by first | exact bs_len (by omega) | exact bs_len (by simp; done) | exact bs_len (by simp; omega)) p15.rd⟩ (.cons rfl (.nil)), ?_⟩
            rw [rootBy, if_neg (by omega), if_neg (by omega), if_pos (by omega)]
            exact ⟨rfl, C_w24⟩
          · first | replace h5 := of_decide_eq_false h5 | replace h5 := of_decide_eq_true (nf h5) | skip
            refine go_skip ?_
            refine go_nil (block_normal ?_)
            refine go_seq ?_
            refine go_region 10 rfl rfl ?_
            refine s_val rfl rfl (r_loadN Try.isAgg25 Try.sizeOf25 rfl p3.rd (by first | exact bs_len (by omega) | exact bs_len (by simp; done) | exact bs_len (by simp; omega))) rfl ?_
            refine s_val rfl rfl (r_fieldAddr Try.runUnderlying31 rfl Try.sizeOf3 rfl rfl) rfl ?_
            refine s_val rfl rfl (r_load1 Try.isAgg3 rfl p7.rd) rfl ?_
            refine s_val rfl rfl (r_fieldAddr Try.runUnderlying31 rfl Try.sizeOf3 rfl rfl) rfl ?_
            refine s_val rfl rfl (r_load1 Try.isAgg3 rfl p9.rd) rfl ?_
            refine s_val rfl rfl (r_fieldAddr Try.runUnderlying31 rfl Try.sizeOf29 rfl rfl) rfl ?_
            refine s_val rfl rfl (r_load1 Try.isAgg29 rfl p11.rd) rfl ?_
            refine s_do rfl rfl (w_call Try.call64 rfl (lead_spec _ leaf _ _ P _ _ _ _ rfl (by omega) (by omega) (by omega) (by omega) (by first | omega | (simp; done) | (simp; omega)) (by first | omega | (simp only [Int.toNat_natCast, List.length_take]; omega) | (rw [show ((i : Int) - ((halfN n : Nat) : Int)).toNat = i - halfN n by omega, show ((n : Int) - ((halfN n : Nat) : Int)).toNat = n - halfN n by omega, List.length_take]; omega)) (by first | omega | (simp; done) | (simp; omega)) h32 (hsl.k C_w23))) rfl ?_
            rintro _ w25 ⟨rfl, c_w25⟩
            have hs_w25 : w23.heap.size ≤ w25.heap.size := Chg.size c_w25
            replace p3 := p3.k c_w25
            replace p7 := p7.k c_w25
            replace p9 := p9.k c_w25
            replace p11 := p11.k c_w25
            replace p15 := p15.k c_w25
            have C_w25 := Chg.pure C_w23 c_w25
            have hr_w25 := leadH_len hashB2_length (leaf := leaf) (by omega) i.toNat n.toNat P
            refine s_do rfl rfl (w_storeA (o := 0) Try.sizeOf25 rfl rfl (by first | exact bs_len (by omega) | exact bs_len (by simp; done) | exact bs_len (by simp; omega)) (flat_bs _) p15 (by first | exact bs_len (by omega) | exact bs_len (by simp; done) | exact bs_len (by simp; omega))) rfl ?_
            rintro _ w26 ⟨q_w26, c_w26⟩
            have hs_w26 : w25.heap.size ≤ w26.heap.size := Chg.size c_w26
            replace p3 := p3.kb c_w26 (by omega)
            replace p7 := p7.kb c_w26 (by omega)
            replace p9 := p9.kb c_w26 (by omega)
            replace p11 := p11.kb c_w26 (by omega)
            have C_w26 := Chg.newRng C_w25 c_w26 (by omega)
            have p15 := q_w26
            refine s_val rfl rfl (r_assign) rfl ?_
            refine s_end ?_
            refine go_ret ?_
            refine ⟨_, .cons ⟨_, rfl, run_load_agg Try.isAgg25 Try.sizeOf25 (by first | exact bs_len (by omega) | exact bs_len (by simp; done) | exact bs_len (by simp; omega)) p15.rd⟩ (.cons rfl (.nil)), ?_⟩
            rw [rootBy, if_neg (by omega), if_neg (by omega), if_neg (by omega)]
            exact ⟨rfl, C_w26⟩

set_option maxHeartbeats 1000000 in
theorem proved_spec (root leaf : List UInt8) (i n : Int) (P : List (List UInt8)) (a : Option Addr) (np cp : Nat) (w : World) (hrt : root.length = 32) (hlf : leaf.length = 32) (hP : P.length = np) (hc : np ≤ cp) (hnp : np < 4611686018427387904) (h32 : All32 P) (hsl : SlAt w a (bs P.flatten)) :
    Rtn Try.prog 35 [.agg (bs root).toArray, .agg (bs leaf).toArray, .agg ([i64 i] ++ ([i64 n] ++ [Value.slice a np cp])).toArray].toArray w (fun v w' => v = i64 (provedF root leaf i n P) ∧ Kept w w') := by
  refine fn_body (l := [.agg (bs root).toArray, .agg (bs leaf).toArray, .agg ([i64 i] ++ ([i64 n] ++ [Value.slice a np cp])).toArray]) 23 [.tmp 6] Try.func35 rfl Try.ntmps35 (Nat.le_of_ble_eq_true rfl) (by rw [Try.results35]) ?_
  refine go_seq ?_
  refine go_region 4 rfl rfl ?_
  refine s_do rfl rfl (w_boxA rfl) rfl ?_
  rintro _ w1 ⟨b2, rfl, hl_b2, hu_b2, p3, c_w1⟩
  have hs_w1 : w.heap.size ≤ w1.heap.size := Chg.size c_w1
  have C_w1 := Chg.pure (Chg.refl no w) c_w1
  have hn_b2 : w.heap.size ≤ b2 := by have := Chg.size C_w1; omega
  refine s_do rfl rfl (w_boxA rfl) rfl ?_
  rintro _ w4 ⟨b5, rfl, hl_b5, hu_b5, p6, c_w4⟩
  have hs_w4 : w1.heap.size ≤ w4.heap.size := Chg.size c_w4
  replace p3 := p3.k c_w4
  have C_w4 := Chg.pure C_w1 c_w4
  have hn_b5 : w.heap.size ≤ b5 := by have := Chg.size C_w4; omega
  refine s_do rfl rfl (w_boxA rfl) rfl ?_
  rintro _ w7 ⟨b8, rfl, hl_b8, hu_b8, p9, c_w7⟩
  have hs_w7 : w4.heap.size ≤ w7.heap.size := Chg.size c_w7
  replace p3 := p3.k c_w7
  replace p6 := p6.k c_w7
  have C_w7 := Chg.pure C_w4 c_w7
  have hn_b8 : w.heap.size ≤ b8 := by have := Chg.size C_w7; omega
  refine s_val rfl rfl (r_assign) rfl ?_
  refine s_end ?_
  refine go_seq ?_
  refine go_region 9 rfl rfl ?_
  refine s_val rfl rfl (r_loadN Try.isAgg25 Try.sizeOf25 rfl p6.rd (by first | exact bs_len (by omega) | exact bs_len (by simp; done) | exact bs_len (by simp; omega))) rfl ?_
  refine s_val rfl rfl (r_loadN Try.isAgg31 Try.sizeOf31 rfl p9.rd rfl) rfl ?_
  refine s_do rfl rfl (w_call Try.call49 rfl (rootBy_spec leaf i n P a np cp _ (by first | omega | (simp; done) | (simp; omega)) hP hc hnp h32 (hsl.k C_w7))) rfl ?_
  rintro _ w10 ⟨rfl, c_w10⟩
  have hs_w10 : w7.heap.size ≤ w10.heap.size := Chg.size c_w10
  replace p3 := p3.k c_w10
  replace p6 := p6.k c_w10
  replace p9 := p9.k c_w10
  have C_w10 := Chg.pure C_w7 c_w10
  have hrb := rootBy_len (leaf := leaf) (by omega) i n P
  refine s_val rfl rfl (r_move) rfl ?_
  refine s_val rfl rfl (r_extract rfl rfl) rfl ?_
  refine s_val rfl rfl (r_extract rfl rfl) rfl ?_
  refine s_do rfl rfl (w_alloc (bs (List.replicate 32 0)) Try.zeroValue25 (by kernel_rfl)) rfl ?_
  rintro _ w11 ⟨b12, rfl, hl_b12, hu_b12, p13, c_w11⟩
  have hs_w11 : w10.heap.size ≤ w11.heap.size := Chg.size c_w11
  replace p3 := p3.k c_w11
  replace p6 := p6.k c_w11
  replace p9 := p9.k c_w11
  have C_w11 := Chg.pure C_w10 c_w11
  have hn_b12 : w.heap.size ≤ b12 := by have := Chg.size C_w11; omega
  refine s_do rfl rfl (w_storeA (o := 0) Try.sizeOf25 rfl rfl (by first | exact bs_len (by omega) | exact bs_len (by simp; done) | exact bs_len (by simp; omega)) (flat_bs _) p13 (by first | exact bs_len (by omega) | exact bs_len (by simp; done) | exact bs_len (by simp; omega))) rfl ?_
  rintro _ w14 ⟨q_w14, c_w14⟩
  have hs_w14 : w11.heap.size ≤ w14.heap.size := Chg.size c_w14
  replace p3 := p3.kb c_w14 (by omega)
  replace p6 := p6.kb c_w14 (by omega)
  replace p9 := p9.kb c_w14 (by omega)
  have C_w14 := Chg.newRng C_w11 c_w14 (by omega)
  have p13 := q_w14
  refine s_val rfl rfl (r_assign) rfl ?_
  refine s_end ?_
  refine go_seq ?_
  refine go_seq ?_
  refine go_region 7 rfl rfl ?_
  refine s_val rfl rfl (r_move) rfl ?_
  refine s_val rfl rfl (r_eql rfl rfl) rfl ?_
  refine s_valB rfl rfl (r_move) rfl (fun h15 => ?_) (fun h15 => ?_)
  · first | replace h15 := of_decide_eq_true h15 | replace h15 := of_decide_eq_false (nt h15) | skip
    have h1 := h15
    refine s_val_g rfl rfl (r_loadN Try.isAgg25 Try.sizeOf25 rfl p13.rd (by first | exact bs_len (by omega) | exact bs_len (by simp; done) | exact bs_len (by simp; omega))) rfl ?_
    refine s_val_g rfl rfl (r_loadN Try.isAgg25 Try.sizeOf25 rfl p3.rd (by first | exact bs_len (by omega) | exact bs_len (by simp; done) | exact bs_len (by simp; omega))) rfl ?_
    refine s_val_g rfl rfl (r_neqArr Try.underlying25 Try.underlying5 Try.sizeOf5 rfl rfl (by first | omega | (simp; done) | (simp; omega)) (by first | omega | (simp; done) | (simp; omega)) (by kernel_rfl)) rfl ?_
    refine s_val rfl rfl (r_pick true rfl) rfl ?_
    refine s_end ?_
    refine go_ifb _ rfl (fun h2 => ?_) (fun h2 => ?_)
    · first | replace h2 := of_decide_eq_true h2 | replace h2 := of_decide_eq_false (nt h2) | skip
      refine go_seq ?_
      refine go_region 1 rfl rfl ?_
      refine s_val rfl rfl (r_assign) rfl ?_
      refine s_end ?_
      refine go_ret ?_
      refine ⟨_, .cons rfl (.nil), ?_⟩
      rw [provedF, if_pos ⟨h1, h2⟩]
      exact ⟨rfl, C_w14⟩
    · first | replace h2 := of_decide_eq_false h2 | replace h2 := of_decide_eq_true (nf h2) | skip
      refine go_skip ?_
      refine go_seq ?_
      refine go_region 2 rfl rfl ?_
      refine s_val rfl rfl (r_move) rfl ?_
      refine s_val rfl rfl (r_assign) rfl ?_
      refine s_end ?_
      refine go_ret ?_
      refine ⟨_, .cons rfl (.nil), ?_⟩
      rw [provedF, if_neg (fun h => h2 h.2)]
      exact ⟨rfl, C_w14⟩
  · first | replace h15 := of_decide_eq_false h15 | replace h15 := of_decide_eq_true (nf h15) | skip
    have h1 := h15
    refine s_val_not rfl rfl ?_
    refine s_val_not rfl rfl ?_
    refine s_val_not rfl rfl ?_
    refine s_val rfl rfl (r_pick false rfl) rfl ?_
    refine s_end ?_
    refine go_false rfl ?_
    refine go_skip ?_
    refine go_seq ?_
    refine go_region 2 rfl rfl ?_
    refine s_val rfl rfl (r_move) rfl ?_
    refine s_val rfl rfl (r_assign) rfl ?_
    refine s_end ?_
    refine go_ret ?_
    refine ⟨_, .cons rfl (.nil), ?_⟩
    rw [provedF, if_neg (fun h => h1 h.1)]
    exact ⟨rfl, C_w14⟩

set_option maxHeartbeats 1000000 in
theorem check_spec (root ch : List UInt8) (ac : Option Addr) (nc cc : Nat) (i n : Int) (P : List (List UInt8)) (a : Option Addr) (np cp : Nat) (w : World) (hrt : root.length = 32) (hn : ch.length = nc) (hn0 : 0 < nc) (hn1 : nc ≤ 1024) (hcc : nc ≤ cc) (hch : SlAt w ac (bs ch)) (hP : P.length = np) (hc : np ≤ cp) (hnp : np < 4611686018427387904) (h32 : All32 P) (hsl : SlAt w a (bs P.flatten)) :
    Rtn Try.prog 17 [.agg (bs root).toArray, Value.slice ac nc cc, .agg ([i64 i] ++ ([i64 n] ++ [Value.slice a np cp])).toArray].toArray w (fun v w' => v = i64 (checkF root ch i n P) ∧ Kept w w') := by
  refine fn_body (l := [.agg (bs root).toArray, Value.slice ac nc cc, .agg ([i64 i] ++ ([i64 n] ++ [Value.slice a np cp])).toArray]) 29 [.tmp 6] Try.func17 rfl Try.ntmps17 (Nat.le_of_ble_eq_true rfl) (by rw [Try.results17]) ?_
  refine go_seq ?_
  refine go_region 3 rfl rfl ?_
  refine s_do rfl rfl (w_boxA rfl) rfl ?_
  rintro _ w1 ⟨b2, rfl, hl_b2, hu_b2, p3, c_w1⟩
  have hs_w1 : w.heap.size ≤ w1.heap.size := Chg.size c_w1
  have C_w1 := Chg.pure (Chg.refl no w) c_w1
  have hn_b2 : w.heap.size ≤ b2 := by have := Chg.size C_w1; omega
  refine s_do rfl rfl (w_boxA rfl) rfl ?_
  rintro _ w4 ⟨b5, rfl, hl_b5, hu_b5, p6, c_w4⟩
  have hs_w4 : w1.heap.size ≤ w4.heap.size := Chg.size c_w4
  replace p3 := p3.k c_w4
  have C_w4 := Chg.pure C_w1 c_w4
  have hn_b5 : w.heap.size ≤ b5 := by have := Chg.size C_w4; omega
  refine s_val rfl rfl (r_assign) rfl ?_
  refine s_end ?_
  refine go_seq ?_
  refine go_seq ?_
  refine go_region 8 rfl rfl ?_
  refine s_val rfl rfl (r_move) rfl ?_
  refine s_val rfl rfl (r_len Try.runUnderlying22 rfl) rfl ?_
  refine s_val rfl rfl (r_lss rfl rfl) rfl ?_
  refine s_valB rfl rfl (r_move) rfl (fun h7 => ?_) (fun h7 => ?_)
  · first | replace h7 := of_decide_eq_true h7 | replace h7 := of_decide_eq_false (nt h7) | skip
    exfalso
    omega
  · first | replace h7 := of_decide_eq_false h7 | replace h7 := of_decide_eq_true (nf h7) | skip
    refine s_val_g rfl rfl (r_move) rfl ?_
    refine s_val_g rfl rfl (r_len Try.runUnderlying22 rfl) rfl ?_
    refine s_val_g rfl rfl (r_gtr rfl rfl) rfl ?_
    refine s_val rfl rfl (r_pick false rfl) rfl ?_
    refine s_end ?_
    refine go_ifb _ rfl (fun h8 => ?_) (fun h8 => ?_)
    · first | replace h8 := of_decide_eq_true h8 | replace h8 := of_decide_eq_false (nt h8) | skip
      exfalso
      omega
    · first | replace h8 := of_decide_eq_false h8 | replace h8 := of_decide_eq_true (nf h8) | skip
      refine go_skip ?_
      refine go_seq ?_
      refine go_region 8 rfl rfl ?_
      refine s_val rfl rfl (r_move) rfl ?_
      refine s_do rfl rfl (w_call Try.call34 rfl (leafB_spec ch _ _ _ _ (by first | omega | (simp; done) | (simp; omega)) (by first | omega | (simp; done) | (simp; omega)) (by first | omega | (simp; done) | (simp; omega)) (by first | omega | (simp; done) | (simp; omega)) (hch.k C_w4))) rfl ?_
      rintro _ w9 ⟨rfl, c_w9⟩
      have hs_w9 : w4.heap.size ≤ w9.heap.size := Chg.size c_w9
      replace p3 := p3.k c_w9
      replace p6 := p6.k c_w9
      have C_w9 := Chg.pure C_w4 c_w9
      refine s_val rfl rfl (r_move) rfl ?_
      refine s_val rfl rfl (r_extract rfl rfl) rfl ?_
      refine s_val rfl rfl (r_extract rfl rfl) rfl ?_
      refine s_do rfl rfl (w_alloc (bs (List.replicate 32 0)) Try.zeroValue25 (by kernel_rfl)) rfl ?_
      rintro _ w10 ⟨b11, rfl, hl_b11, hu_b11, p12, c_w10⟩
      have hs_w10 : w9.heap.size ≤ w10.heap.size := Chg.size c_w10
      replace p3 := p3.k c_w10
      replace p6 := p6.k c_w10
      have C_w10 := Chg.pure C_w9 c_w10
      have hn_b11 : w.heap.size ≤ b11 := by have := Chg.size C_w10; omega
      refine s_do rfl rfl (w_storeA (o := 0) Try.sizeOf25 rfl rfl (by first | exact bs_len (by omega) | exact bs_len (by simp; done) | exact bs_len (by simp; omega)) (flat_bs _) p12 (by first | exact bs_len (by omega) | exact bs_len (by simp; done) | exact bs_len (by simp; omega))) rfl ?_
      rintro _ w13 ⟨q_w13, c_w13⟩
      have hs_w13 : w10.heap.size ≤ w13.heap.size := Chg.size c_w13
      replace p3 := p3.kb c_w13 (by omega)
      replace p6 := p6.kb c_w13 (by omega)
      have C_w13 := Chg.newRng C_w10 c_w13 (by omega)
      have p12 := q_w13
      refine s_val rfl rfl (r_assign) rfl ?_
      refine s_end ?_
      refine go_seq ?_
      refine go_seq ?_
      refine go_region 2 rfl rfl ?_
      refine s_val rfl rfl (r_move) rfl ?_
      refine s_val rfl rfl (r_neq rfl rfl) rfl ?_
      refine s_end ?_
      refine go_ifb _ rfl (fun h14 => ?_) (fun h14 => ?_)
      · first | replace h14 := of_decide_eq_true h14 | replace h14 := of_decide_eq_false (nt h14) | skip
        exfalso
        omega
      · first | replace h14 := of_decide_eq_false h14 | replace h14 := of_decide_eq_true (nf h14) | skip
        refine go_skip ?_
        refine go_seq ?_
        refine go_region 5 rfl rfl ?_
        refine s_val rfl rfl (r_loadN Try.isAgg25 Try.sizeOf25 rfl p3.rd (by first | exact bs_len (by omega) | exact bs_len (by simp; done) | exact bs_len (by simp; omega))) rfl ?_
        refine s_val rfl rfl (r_loadN Try.isAgg25 Try.sizeOf25 rfl p12.rd (by first | exact bs_len (by omega) | exact bs_len (by simp; done) | exact bs_len (by simp; omega))) rfl ?_
        refine s_val rfl rfl (r_loadN Try.isAgg31 Try.sizeOf31 rfl p6.rd rfl) rfl ?_
        refine s_do rfl rfl (w_call Try.call35 rfl (proved_spec root (hashB 1 ch) i n P a np cp _ (by first | omega | (simp; done) | (simp; omega)) (by first | omega | (simp; done) | (simp; omega)) hP hc hnp h32 (hsl.k C_w13))) rfl ?_
        rintro _ w15 ⟨rfl, c_w15⟩
        have hs_w15 : w13.heap.size ≤ w15.heap.size := Chg.size c_w15
        replace p3 := p3.k c_w15
        replace p6 := p6.k c_w15
        replace p12 := p12.k c_w15
        have C_w15 := Chg.pure C_w13 c_w15
        refine s_val rfl rfl (r_assign) rfl ?_
        refine s_end ?_
        refine go_ret ?_
        refine ⟨_, .cons rfl (.nil), ?_⟩
        exact ⟨rfl, C_w15⟩

end Go.Proofs.Ytdnccchcflaphaa
