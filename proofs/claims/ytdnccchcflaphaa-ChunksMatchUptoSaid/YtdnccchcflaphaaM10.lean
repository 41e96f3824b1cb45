/- M10: contracts of functions of the program: called in any world that meets a contract's premises, the function returns what the contract says and changes no more than it says. -/
import Derived.Test.YtdnccchcflaphaaM9
import Derived.Test.YtdnccchcflaphaaEng8
import Derived.Test.YtdnccchcflaphaaEng9
import Derived.Test.YtdnccchcflaphaaEng10
import Derived.Test.YtdnccchcflaphaaChecked
open Go Go.Eng Go.Proofs
namespace Go.Proofs.Ytdnccchcflaphaa
/-- the root of a list, the sum of two being H of both -/
def rootH (H : List UInt8 → List UInt8) (L : List (List UInt8)) : List UInt8 :=
  if h : L.length ≤ 1 then L.getD 0 [] else H (rootH H (L.take (halfN L.length)) ++ rootH H (L.drop (halfN L.length)))
termination_by L.length
decreasing_by all_goals (have h1 := halfN_lt (n := L.length) (by omega); have h2 := halfN_pos L.length; simp; omega)
theorem rootH_len {H : List UInt8 → List UInt8} (hH : ∀ l, (H l).length = 32) {L : List (List UInt8)} (h32 : All32 L) (h0 : 0 < L.length) : (rootH H L).length = 32 := by
  rw [rootH]
  split
  · exact h32.get h0
  · exact hH _
def pathH (H : List UInt8 → List UInt8) (L : List (List UInt8)) (i : Nat) : List (List UInt8) :=
  if h : L.length ≤ 1 then [] else if i < halfN L.length then pathH H (L.take (halfN L.length)) i ++ [rootH H (L.drop (halfN L.length))] else pathH H (L.drop (halfN L.length)) (i - halfN L.length) ++ [rootH H (L.take (halfN L.length))]
termination_by L.length
decreasing_by all_goals (have h1 := halfN_lt (n := L.length) (by omega); have h2 := halfN_pos L.length; simp; omega)
def stepsN (i n : Nat) : Nat :=
  if h : n ≤ 1 then 0 else if i < halfN n then stepsN i (halfN n) + 1 else stepsN (i - halfN n) (n - halfN n) + 1
termination_by n
decreasing_by all_goals (have h1 := halfN_lt (n := n) (by omega); have h2 := halfN_pos n; omega)
def leadH (H : List UInt8 → List UInt8) (leaf : List UInt8) (i n : Nat) (P : List (List UInt8)) : List UInt8 :=
  if h : n ≤ 1 then leaf else if i < halfN n then H (leadH H leaf i (halfN n) (P.take (P.length - 1)) ++ P.getD (P.length - 1) []) else H (P.getD (P.length - 1) [] ++ leadH H leaf (i - halfN n) (n - halfN n) (P.take (P.length - 1)))
termination_by n
decreasing_by all_goals (have h1 := halfN_lt (n := n) (by omega); have h2 := halfN_pos n; omega)
theorem leadH_len {H : List UInt8 → List UInt8} (hH : ∀ l, (H l).length = 32) {leaf : List UInt8} (hl : leaf.length = 32) (i n : Nat) (P : List (List UInt8)) : (leadH H leaf i n P).length = 32 := by
  rw [leadH]
  split
  · exact hl
  · split <;> exact hH _
theorem pathH_32 {H : List UInt8 → List UInt8} (hH : ∀ l, (H l).length = 32) : ∀ (m : Nat) (L : List (List UInt8)) (i : Nat), L.length = m → All32 L → All32 (pathH H L i) := by
  intro m
  induction m using Nat.strongRecOn with
  | _ m ih =>
    intro L i hm h32
    rw [pathH]
    split
    · exact All32.nil
    · have h1 := halfN_lt (n := L.length) (by omega)
      have h2 := halfN_pos L.length
      split
      · exact (ih _ (by rw [← hm]; exact h1) _ i (by rw [List.length_take]; omega) (h32.take _)).app (All32.one (rootH_len hH (h32.drop _) (by rw [List.length_drop]; omega)))
      · exact (ih (L.length - halfN L.length) (by omega) _ _ (by rw [List.length_drop]) (h32.drop _)).app (All32.one (rootH_len hH (h32.take _) (by rw [List.length_take]; omega)))
theorem pathH_len (H : List UInt8 → List UInt8) : ∀ (m : Nat) (L : List (List UInt8)) (i : Nat), L.length = m → (pathH H L i).length = stepsN i L.length := by
  intro m
  induction m using Nat.strongRecOn with
  | _ m ih =>
    intro L i hm
    rw [pathH, stepsN]
    split
    · rfl
    · have h1 := halfN_lt (n := L.length) (by omega)
      have h2 := halfN_pos L.length
      split
      · have e : (L.take (halfN L.length)).length = halfN L.length := by rw [List.length_take]; omega
        rw [List.length_append, ih (halfN L.length) (by omega) _ i e, e]; rfl
      · have e : (L.drop (halfN L.length)).length = L.length - halfN L.length := by rw [List.length_drop]
        rw [List.length_append, ih (L.length - halfN L.length) (by omega) _ _ e, e]; rfl
theorem rootH_one (H : List UInt8 → List UInt8) {L : List (List UInt8)} (h : L.length ≤ 1) : rootH H L = L.getD 0 [] := by rw [rootH, dif_pos h]
theorem rootH_two (H : List UInt8 → List UInt8) {L : List (List UInt8)} (h : 2 ≤ L.length) : rootH H L = H (rootH H (L.take (halfN L.length)) ++ rootH H (L.drop (halfN L.length))) := by
  conv => lhs; rw [rootH, dif_neg (by omega)]
theorem pathH_one (H : List UInt8 → List UInt8) {L : List (List UInt8)} (i : Nat) (h : L.length ≤ 1) : pathH H L i = [] := by rw [pathH, dif_pos h]
theorem pathH_lt (H : List UInt8 → List UInt8) {L : List (List UInt8)} {i : Nat} (h : 2 ≤ L.length) (hi : i < halfN L.length) : pathH H L i = pathH H (L.take (halfN L.length)) i ++ [rootH H (L.drop (halfN L.length))] := by
  conv => lhs; rw [pathH, dif_neg (by omega), if_pos hi]
theorem pathH_ge (H : List UInt8 → List UInt8) {L : List (List UInt8)} {i : Nat} (h : 2 ≤ L.length) (hi : ¬ i < halfN L.length) : pathH H L i = pathH H (L.drop (halfN L.length)) (i - halfN L.length) ++ [rootH H (L.take (halfN L.length))] := by
  conv => lhs; rw [pathH, dif_neg (by omega), if_neg hi]
theorem leadH_one (H : List UInt8 → List UInt8) (leaf : List UInt8) (i : Nat) {n : Nat} (P : List (List UInt8)) (h : n ≤ 1) : leadH H leaf i n P = leaf := by rw [leadH, dif_pos h]
theorem leadH_lt (H : List UInt8 → List UInt8) (leaf : List UInt8) {i n : Nat} (P : List (List UInt8)) (h : 2 ≤ n) (hi : i < halfN n) : leadH H leaf i n P = H (leadH H leaf i (halfN n) (P.take (P.length - 1)) ++ P.getD (P.length - 1) []) := by
  conv => lhs; rw [leadH, dif_neg (by omega), if_pos hi]
theorem leadH_ge (H : List UInt8 → List UInt8) (leaf : List UInt8) {i n : Nat} (P : List (List UInt8)) (h : 2 ≤ n) (hi : ¬ i < halfN n) : leadH H leaf i n P = H (P.getD (P.length - 1) [] ++ leadH H leaf (i - halfN n) (n - halfN n) (P.take (P.length - 1))) := by
  conv => lhs; rw [leadH, dif_neg (by omega), if_neg hi]
theorem steps_one (i : Nat) {n : Nat} (h : n ≤ 1) : stepsN i n = 0 := by rw [stepsN, dif_pos h]
theorem steps_lt {i n : Nat} (h : 2 ≤ n) (hi : i < halfN n) : stepsN i n = stepsN i (halfN n) + 1 := by conv => lhs; rw [stepsN, dif_neg (by omega), if_pos hi]
theorem steps_ge {i n : Nat} (h : 2 ≤ n) (hi : ¬ i < halfN n) : stepsN i n = stepsN (i - halfN n) (n - halfN n) + 1 := by conv => lhs; rw [stepsN, dif_neg (by omega), if_neg hi]
theorem lead_path (H : List UInt8 → List UInt8) : ∀ (m : Nat) (L : List (List UInt8)) (i : Nat), L.length = m → i < m → leadH H (L.getD i []) i L.length (pathH H L i) = rootH H L := by
  intro m
  induction m using Nat.strongRecOn with
  | _ m ih =>
    intro L i hm hi
    by_cases h : L.length ≤ 1
    · rw [leadH_one _ _ _ _ h, rootH_one _ h]
      have : i = 0 := by omega
      rw [this]
    · have h1 := halfN_lt (n := L.length) (by omega)
      have h2 := halfN_pos L.length
      by_cases hk : i < halfN L.length
      · have e : (L.take (halfN L.length)).length = halfN L.length := by rw [List.length_take]; omega
        have := ih (halfN L.length) (by omega) _ i e hk
        rw [e] at this
        have g : (L.take (halfN L.length)).getD i [] = L.getD i [] := by
          rw [List.getD_eq_getElem?_getD, List.getD_eq_getElem?_getD, List.getElem?_take_of_lt hk]
        rw [g] at this
        rw [leadH_lt _ _ _ (by omega) hk, pathH_lt _ (by omega) hk, rootH_two H (L := L) (by omega)]
        simp only [List.length_append, List.length_singleton, Nat.add_sub_cancel, List.take_left]
        rw [this]
        simp
      · have e : (L.drop (halfN L.length)).length = L.length - halfN L.length := by rw [List.length_drop]
        have := ih (L.length - halfN L.length) (by omega) _ (i - halfN L.length) e (by omega)
        rw [e] at this
        have g : (L.drop (halfN L.length)).getD (i - halfN L.length) [] = L.getD i [] := by
          rw [List.getD_eq_getElem?_getD, List.getD_eq_getElem?_getD, List.getElem?_drop]
          congr 2; omega
        rw [g] at this
        rw [leadH_ge _ _ _ (by omega) hk, pathH_ge _ (by omega) hk, rootH_two H (L := L) (by omega)]
        simp only [List.length_append, List.length_singleton, Nat.add_sub_cancel, List.take_left]
        rw [this]
        simp

set_option maxHeartbeats 800000 in
theorem rootB_spec (m : Nat) (L : List (List UInt8)) (a : Option Addr) (n c : Nat) (w : World) (hm : L.length = m) (hn : L.length = n) (h0 : 0 < n) (hb : n < 4294967296) (hc : n ≤ c) (h32 : All32 L) (hsl : SlAt w a (bs L.flatten)) :
    Rtn Try.prog 45 [Value.slice a n c].toArray w (fun v w' => v = .agg (bs (rootH (hashB 2) L)).toArray ∧ Kept w w') := by
  induction m using Nat.strongRecOn generalizing L a n c w
  rename_i m ih
  refine fn_body (l := [Value.slice a n c]) 22 [.cell 2 25] Try.func45 rfl Try.ntmps45 (Nat.le_of_ble_eq_true rfl) (by rw [Try.results45]) ?_
  refine go_seq ?_
  refine go_region 1 rfl rfl ?_
  refine s_do rfl rfl (w_alloc (bs (List.replicate 32 0)) Try.zeroValue25 (by kernel_rfl)) rfl ?_
  rintro _ w1 ⟨b2, rfl, hl_b2, hu_b2, p3, c_w1⟩
  have hs_w1 : w.heap.size ≤ w1.heap.size := Chg.size c_w1
  have C_w1 := Chg.pure (Chg.refl no w) c_w1
  have hn_b2 : w.heap.size ≤ b2 := by have := Chg.size C_w1; omega
  refine s_end ?_
  refine go_seq ?_
  refine go_seq ?_
  refine go_region 3 rfl rfl ?_
  refine s_val rfl rfl (r_move) rfl ?_
  refine s_val rfl rfl (r_len Try.runUnderlying29 rfl) rfl ?_
  refine s_val rfl rfl (r_eql rfl rfl) rfl ?_
  refine s_end ?_
  refine go_ifb _ rfl (fun h1 => ?_) (fun h1 => ?_)
  · first | replace h1 := of_decide_eq_true h1 | replace h1 := of_decide_eq_false (nt h1) | skip
    refine go_seq ?_
    refine go_region 4 rfl rfl ?_
    refine s_val rfl rfl (r_move) rfl ?_
    refine s_val rfl rfl (r_indexSl (k := 0) Try.runUnderlying29 Try.sizeOf25 rfl (hsl.k C_w1) (sums_ne h32 (by first | omega | (simp; omega))) rfl (by first | rfl | omega) (by omega)) rfl ?_
    have hg_e4 := All32.get h32 (k := 0) (by first | omega | (simp; omega))
    refine s_val rfl rfl (r_loadSlN Try.isAgg25 Try.sizeOf25 rfl (hsl.k C_w1) (bs_len (All32.get h32 (by first | omega | (simp; omega)))) (sums_ne h32 (by first | omega | (simp; omega))) (sum_get h32 (k := 0) (by first | omega | (simp; omega)))) rfl ?_
    refine s_do rfl rfl (w_storeA (o := 0) Try.sizeOf25 rfl rfl (by first | exact bs_len (by omega) | exact bs_len (by simp; done) | exact bs_len (by simp; omega)) (flat_bs _) p3 (by first | exact bs_len (by omega) | exact bs_len (by simp; done) | exact bs_len (by simp; omega))) rfl ?_
    rintro _ w5 ⟨q_w5, c_w5⟩
    have hs_w5 : w1.heap.size ≤ w5.heap.size := Chg.size c_w5
    have C_w5 := Chg.newRng C_w1 c_w5 (by omega)
    have p3 := q_w5
    refine s_end ?_
    refine go_ret ?_
    refine ⟨_, .cons ⟨_, rfl, run_load_agg Try.isAgg25 Try.sizeOf25 (by first | exact bs_len (by omega) | exact bs_len (by simp; done) | exact bs_len (by simp; omega)) p3.rd⟩ (.nil), ?_⟩
    rw [rootH_one _ (by omega)]
    exact ⟨rfl, C_w5⟩
  · first | replace h1 := of_decide_eq_false h1 | replace h1 := of_decide_eq_true (nf h1) | skip
    refine go_skip ?_
    refine go_seq ?_
    refine go_region 4 rfl rfl ?_
    refine s_val rfl rfl (r_move) rfl ?_
    refine s_val rfl rfl (r_len Try.runUnderlying29 rfl) rfl ?_
    refine s_do rfl rfl (w_call Try.call58 rfl (split_spec n _ (by omega) (by omega))) rfl ?_
    rintro _ w6 ⟨rfl, c_w6⟩
    have hs_w6 : w1.heap.size ≤ w6.heap.size := Chg.size c_w6
    replace p3 := p3.k c_w6
    have C_w6 := Chg.pure C_w1 c_w6
    have hlt_w6 := halfN_lt (n := n) (by omega)
    have hps_w6 := halfN_pos n
    refine s_val rfl rfl (r_assign) rfl ?_
    refine s_end ?_
    refine go_seq ?_
    refine go_drawsK 7 (.take 0 (.take 1 (.take 2 (.take 4 (.take 5 (.take 6 (.eff 3 (.eff 7 (.eff 8 (.eff 9 .done)))))))))) (by kernel_rfl) (by kernel_rfl) fun w7 c_w7 => ?_
    have hs_w7 : w6.heap.size ≤ w7.heap.size := Chg.size c_w7
    replace p3 := p3.k c_w7
    have C_w7 := Chg.pure C_w6 c_w7
    have p3_0 := p3
    refine s_takeK rfl rfl (w0 := w7) (fun x_ c_ => r_move) ?_
    refine s_takeK rfl rfl (w0 := w7) (fun x_ c_ => r_move) ?_
    have s8 := SlAt.cutS_take hsl h32 (halfN n) c (by omega)
    refine s_takeK rfl rfl (w0 := w7) (fun x_ c_ => r_sliceSl (l := 0) (h := (halfN n)) (m := c) Try.runUnderlying29 Try.sizeOf25 rfl rfl ⟨_, _, rfl, by first | rfl | omega⟩ rfl (by first | decide | (intro h_; cases h_)) (by first | decide | omega) (by first | decide | omega | (intro _; omega)) (by first | exact Nat.le_refl _ | omega)) ?_
    refine s_takeK rfl rfl (w0 := w7) (fun x_ c_ => r_move) ?_
    refine s_takeK rfl rfl (w0 := w7) (fun x_ c_ => r_move) ?_
    have s9 := SlAt.cutS_drop hsl h32 (halfN n) c (by omega)
    refine s_takeK rfl rfl (w0 := w7) (fun x_ c_ => r_sliceSl (l := (halfN n)) (h := n) (m := c) Try.runUnderlying29 Try.sizeOf25 rfl ⟨_, _, rfl, by first | rfl | omega⟩ rfl rfl (by first | decide | (intro h_; cases h_)) (by first | decide | omega) (by first | decide | omega | (intro _; omega)) (by first | exact Nat.le_refl _ | omega)) ?_
    refine s_fxK rfl rfl (w_call Try.call45 rfl (ih (List.length (L.take (halfN n))) (by first | omega | (simp; omega)) (L.take (halfN n)) _ _ _ _ rfl (by first | omega | (simp; done) | (simp; omega)) (by first | omega | (simp; done) | (simp; omega)) (by first | omega | (simp; done) | (simp; omega)) (by first | omega | (simp; done) | (simp; omega)) (h32.take (halfN n)) (s8.k C_w7))) ?_
    rintro _ w10 ⟨rfl, c_w10⟩
    have hs_w10 : w7.heap.size ≤ w10.heap.size := Chg.size c_w10
    replace p3 := p3.k c_w10
    have C_w10 := Chg.pure C_w7 c_w10
    have hr_w10 : (rootH (hashB 2) (L.take (halfN n))).length = 32 := rootH_len (hashB_length 2) (h32.take (halfN n)) (by first | omega | (simp; done) | (simp; omega))
    have K_w10 := Chg.pure (Chg.refl no w7) c_w10
    refine ⟨K_w10, ?_⟩
    refine s_do rfl rfl (w_call Try.call45 rfl (ih (List.length (L.drop (halfN n))) (by first | omega | (simp; omega)) (L.drop (halfN n)) _ _ _ _ rfl (by first | omega | (simp; done) | (simp; omega)) (by first | omega | (simp; done) | (simp; omega)) (by first | omega | (simp; done) | (simp; omega)) (by first | omega | (simp; done) | (simp; omega)) (h32.drop (halfN n)) (s9.k C_w10))) rfl ?_
    rintro _ w11 ⟨rfl, c_w11⟩
    have hs_w11 : w10.heap.size ≤ w11.heap.size := Chg.size c_w11
    replace p3 := p3.k c_w11
    have C_w11 := Chg.pure C_w10 c_w11
    have hr_w11 : (rootH (hashB 2) (L.drop (halfN n))).length = 32 := rootH_len (hashB_length 2) (h32.drop (halfN n)) (by first | omega | (simp; done) | (simp; omega))
    refine s_do rfl rfl (w_call Try.call52 rfl (nodeB_spec (rootH (hashB 2) (L.take (halfN n))) (rootH (hashB 2) (L.drop (halfN n))) _ (by first | omega | (simp; done) | (simp; omega)) (by first | omega | (simp; done) | (simp; omega)))) rfl ?_
    rintro _ w12 ⟨rfl, c_w12⟩
    have hs_w12 : w11.heap.size ≤ w12.heap.size := Chg.size c_w12
    replace p3 := p3.k c_w12
    have C_w12 := Chg.pure C_w11 c_w12
    refine s_do rfl rfl (w_storeA (o := 0) Try.sizeOf25 rfl rfl (by first | exact bs_len (by omega) | exact bs_len (by simp; done) | exact bs_len (by simp; omega)) (flat_bs _) p3 (by first | exact bs_len (by omega) | exact bs_len (by simp; done) | exact bs_len (by simp; omega))) rfl ?_
    rintro _ w13 ⟨q_w13, c_w13⟩
    have hs_w13 : w12.heap.size ≤ w13.heap.size := Chg.size c_w13
    have C_w13 := Chg.newRng C_w12 c_w13 (by omega)
    have p3 := q_w13
    refine s_end ?_
    refine go_ret ?_
    refine ⟨_, .cons ⟨_, rfl, run_load_agg Try.isAgg25 Try.sizeOf25 (by first | exact bs_len (by omega) | exact bs_len (by simp; done) | exact bs_len (by simp; omega)) p3.rd⟩ (.nil), ?_⟩
    rw [rootH_two _ (by omega), hn]
    exact ⟨rfl, C_w13⟩

set_option maxHeartbeats 800000 in
theorem rootR_spec (m : Nat) (L : List (List UInt8)) (a : Option Addr) (n c : Nat) (w : World) (hm : L.length = m) (hn : L.length = n) (h0 : 0 < n) (hb : n < 4294967296) (hc : n ≤ c) (h32 : All32 L) (hsl : SlAt w a (bs L.flatten)) :
    Rtn Try.prog 12 [Value.slice a n c].toArray w (fun v w' => v = .agg (bs (rootH (hashR 2) L)).toArray ∧ Kept w w') := by
  induction m using Nat.strongRecOn generalizing L a n c w
  rename_i m ih
  refine fn_body (l := [Value.slice a n c]) 22 [.cell 2 25] Try.func12 rfl Try.ntmps12 (Nat.le_of_ble_eq_true rfl) (by rw [Try.results12]) ?_
  refine go_seq ?_
  refine go_region 1 rfl rfl ?_
  refine s_do rfl rfl (w_alloc (bs (List.replicate 32 0)) Try.zeroValue25 (by kernel_rfl)) rfl ?_
  rintro _ w1 ⟨b2, rfl, hl_b2, hu_b2, p3, c_w1⟩
  have hs_w1 : w.heap.size ≤ w1.heap.size := Chg.size c_w1
  have C_w1 := Chg.pure (Chg.refl no w) c_w1
  have hn_b2 : w.heap.size ≤ b2 := by have := Chg.size C_w1; omega
  refine s_end ?_
  refine go_seq ?_
  refine go_seq ?_
  refine go_region 3 rfl rfl ?_
  refine s_val rfl rfl (r_move) rfl ?_
  refine s_val rfl rfl (r_len Try.runUnderlying29 rfl) rfl ?_
  refine s_val rfl rfl (r_eql rfl rfl) rfl ?_
  refine s_end ?_
  refine go_ifb _ rfl (fun h1 => ?_) (fun h1 => ?_)
  · first | replace h1 := of_decide_eq_true h1 | replace h1 := of_decide_eq_false (nt h1) | skip
    refine go_seq ?_
    refine go_region 4 rfl rfl ?_
    refine s_val rfl rfl (r_move) rfl ?_
    refine s_val rfl rfl (r_indexSl (k := 0) Try.runUnderlying29 Try.sizeOf25 rfl (hsl.k C_w1) (sums_ne h32 (by first | omega | (simp; omega))) rfl (by first | rfl | omega) (by omega)) rfl ?_
    have hg_e4 := All32.get h32 (k := 0) (by first | omega | (simp; omega))
    refine s_val rfl rfl (r_loadSlN Try.isAgg25 Try.sizeOf25 rfl (hsl.k C_w1) (bs_len (All32.get h32 (by first | omega | (simp; omega)))) (sums_ne h32 (by first | omega | (simp; omega))) (sum_get h32 (k := 0) (by first | omega | (simp; omega)))) rfl ?_
    refine s_do rfl rfl (w_storeA (o := 0) Try.sizeOf25 rfl rfl (by first | exact bs_len (by omega) | exact bs_len (by simp; done) | exact bs_len (by simp; omega)) (flat_bs _) p3 (by first | exact bs_len (by omega) | exact bs_len (by simp; done) | exact bs_len (by simp; omega))) rfl ?_
    rintro _ w5 ⟨q_w5, c_w5⟩
    have hs_w5 : w1.heap.size ≤ w5.heap.size := Chg.size c_w5
    have C_w5 := Chg.newRng C_w1 c_w5 (by omega)
    have p3 := q_w5
    refine s_end ?_
    refine go_ret ?_
    refine ⟨_, .cons ⟨_, rfl, run_load_agg Try.isAgg25 Try.sizeOf25 (by first | exact bs_len (by omega) | exact bs_len (by simp; done) | exact bs_len (by simp; omega)) p3.rd⟩ (.nil), ?_⟩
    rw [rootH_one _ (by omega)]
    exact ⟨rfl, C_w5⟩
  · first | replace h1 := of_decide_eq_false h1 | replace h1 := of_decide_eq_true (nf h1) | skip
    refine go_skip ?_
    refine go_seq ?_
    refine go_region 4 rfl rfl ?_
    refine s_val rfl rfl (r_move) rfl ?_
    refine s_val rfl rfl (r_len Try.runUnderlying29 rfl) rfl ?_
    refine s_do rfl rfl (w_call Try.call32 rfl (half_spec n _ (by omega) (by omega))) rfl ?_
    rintro _ w6 ⟨rfl, c_w6⟩
    have hs_w6 : w1.heap.size ≤ w6.heap.size := Chg.size c_w6
    replace p3 := p3.k c_w6
    have C_w6 := Chg.pure C_w1 c_w6
    have hlt_w6 := halfN_lt (n := n) (by omega)
    have hps_w6 := halfN_pos n
    refine s_val rfl rfl (r_assign) rfl ?_
    refine s_end ?_
    refine go_seq ?_
    refine go_drawsK 7 (.take 0 (.take 1 (.take 2 (.take 4 (.take 5 (.take 6 (.eff 3 (.eff 7 (.eff 8 (.eff 9 .done)))))))))) (by kernel_rfl) (by kernel_rfl) fun w7 c_w7 => ?_
    have hs_w7 : w6.heap.size ≤ w7.heap.size := Chg.size c_w7
    replace p3 := p3.k c_w7
    have C_w7 := Chg.pure C_w6 c_w7
    have p3_0 := p3
    refine s_takeK rfl rfl (w0 := w7) (fun x_ c_ => r_move) ?_
    refine s_takeK rfl rfl (w0 := w7) (fun x_ c_ => r_move) ?_
    have s8 := SlAt.cutS_take hsl h32 (halfN n) c (by omega)
    refine s_takeK rfl rfl (w0 := w7) (fun x_ c_ => r_sliceSl (l := 0) (h := (halfN n)) (m := c) Try.runUnderlying29 Try.sizeOf25 rfl rfl ⟨_, _, rfl, by first | rfl | omega⟩ rfl (by first | decide | (intro h_; cases h_)) (by first | decide | omega) (by first | decide | omega | (intro _; omega)) (by first | exact Nat.le_refl _ | omega)) ?_
    refine s_takeK rfl rfl (w0 := w7) (fun x_ c_ => r_move) ?_
    refine s_takeK rfl rfl (w0 := w7) (fun x_ c_ => r_move) ?_
    have s9 := SlAt.cutS_drop hsl h32 (halfN n) c (by omega)
    refine s_takeK rfl rfl (w0 := w7) (fun x_ c_ => r_sliceSl (l := (halfN n)) (h := n) (m := c) Try.runUnderlying29 Try.sizeOf25 rfl ⟨_, _, rfl, by first | rfl | omega⟩ rfl rfl (by first | decide | (intro h_; cases h_)) (by first | decide | omega) (by first | decide | omega | (intro _; omega)) (by first | exact Nat.le_refl _ | omega)) ?_
    refine s_fxK rfl rfl (w_call Try.call12 rfl (ih (List.length (L.take (halfN n))) (by first | omega | (simp; omega)) (L.take (halfN n)) _ _ _ _ rfl (by first | omega | (simp; done) | (simp; omega)) (by first | omega | (simp; done) | (simp; omega)) (by first | omega | (simp; done) | (simp; omega)) (by first | omega | (simp; done) | (simp; omega)) (h32.take (halfN n)) (s8.k C_w7))) ?_
    rintro _ w10 ⟨rfl, c_w10⟩
    have hs_w10 : w7.heap.size ≤ w10.heap.size := Chg.size c_w10
    replace p3 := p3.k c_w10
    have C_w10 := Chg.pure C_w7 c_w10
    have hr_w10 : (rootH (hashR 2) (L.take (halfN n))).length = 32 := rootH_len (hashR_length 2) (h32.take (halfN n)) (by first | omega | (simp; done) | (simp; omega))
    have K_w10 := Chg.pure (Chg.refl no w7) c_w10
    refine ⟨K_w10, ?_⟩
    refine s_do rfl rfl (w_call Try.call12 rfl (ih (List.length (L.drop (halfN n))) (by first | omega | (simp; omega)) (L.drop (halfN n)) _ _ _ _ rfl (by first | omega | (simp; done) | (simp; omega)) (by first | omega | (simp; done) | (simp; omega)) (by first | omega | (simp; done) | (simp; omega)) (by first | omega | (simp; done) | (simp; omega)) (h32.drop (halfN n)) (s9.k C_w10))) rfl ?_
    rintro _ w11 ⟨rfl, c_w11⟩
    have hs_w11 : w10.heap.size ≤ w11.heap.size := Chg.size c_w11
    replace p3 := p3.k c_w11
    have C_w11 := Chg.pure C_w10 c_w11
    have hr_w11 : (rootH (hashR 2) (L.drop (halfN n))).length = 32 := rootH_len (hashR_length 2) (h32.drop (halfN n)) (by first | omega | (simp; done) | (simp; omega))
    refine s_do rfl rfl (w_call Try.call33 rfl (nodeR_spec (rootH (hashR 2) (L.take (halfN n))) (rootH (hashR 2) (L.drop (halfN n))) _ (by first | omega | (simp; done) | (simp; omega)) (by first | omega | (simp; done) | (simp; omega)))) rfl ?_
    rintro _ w12 ⟨rfl, c_w12⟩
    have hs_w12 : w11.heap.size ≤ w12.heap.size := Chg.size c_w12
    replace p3 := p3.k c_w12
    have C_w12 := Chg.pure C_w11 c_w12
    refine s_do rfl rfl (w_storeA (o := 0) Try.sizeOf25 rfl rfl (by first | exact bs_len (by omega) | exact bs_len (by simp; done) | exact bs_len (by simp; omega)) (flat_bs _) p3 (by first | exact bs_len (by omega) | exact bs_len (by simp; done) | exact bs_len (by simp; omega))) rfl ?_
    rintro _ w13 ⟨q_w13, c_w13⟩
    have hs_w13 : w12.heap.size ≤ w13.heap.size := Chg.size c_w13
    have C_w13 := Chg.newRng C_w12 c_w13 (by omega)
    have p3 := q_w13
    refine s_end ?_
    refine go_ret ?_
    refine ⟨_, .cons ⟨_, rfl, run_load_agg Try.isAgg25 Try.sizeOf25 (by first | exact bs_len (by omega) | exact bs_len (by simp; done) | exact bs_len (by simp; omega)) p3.rd⟩ (.nil), ?_⟩
    rw [rootH_two _ (by omega), hn]
    exact ⟨rfl, C_w13⟩


theorem steps_le : ∀ (n i : Nat), stepsN i n ≤ n := by
  intro n
  induction n using Nat.strongRecOn with
  | _ n ih =>
    intro i
    by_cases h : n ≤ 1
    · rw [steps_one i h]; omega
    · have h1 := halfN_lt (n := n) (by omega)
      have h2 := halfN_pos n
      by_cases hi : i < halfN n
      · rw [steps_lt (by omega) hi]; have := ih _ h1 i; omega
      · rw [steps_ge (by omega) hi]; have := ih (n - halfN n) (by omega) (i - halfN n); omega
theorem pathH_le (H : List UInt8 → List UInt8) (L : List (List UInt8)) (i : Nat) : (pathH H L i).length ≤ L.length := by
  rw [pathH_len H _ L i rfl]; exact steps_le _ _

end Go.Proofs.Ytdnccchcflaphaa
