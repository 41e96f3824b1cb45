/- M13: contracts of functions of the program: called in any world that meets a contract's premises, the function returns what the contract says and changes no more than it says. -/
import Derived.Test.YtdnccchcflaphaaM12
import Derived.Test.YtdnccchcflaphaaEng8
import Derived.Test.YtdnccchcflaphaaEng9
import Derived.Test.YtdnccchcflaphaaEng10
import Derived.Test.YtdnccchcflaphaaEng11
import Derived.Test.YtdnccchcflaphaaChecked
open Go Go.Eng Go.Proofs
namespace Go.Proofs.Ytdnccchcflaphaa
theorem bytesEq_spec (x y : List UInt8) (a b : Option Addr) (n m c1 c2 : Nat) (w : World) (hx : x.length = n) (hy : y.length = m) (hsa : SlAt w a (bs x)) (hsb : SlAt w b (bs y)) :
    Rtn Try.prog 14 [Value.slice a n c1, Value.slice b m c2].toArray w (fun v w' => v = .bool (decide (x = y)) ∧ Kept w w') := by
  refine fn_body (l := [Value.slice a n c1, Value.slice b m c2]) 10 [.tmp 4] Try.func14 rfl Try.ntmps14 (Nat.le_of_ble_eq_true rfl) (by rw [Try.results14]) ?_
  refine go_seq ?_
  refine go_region 1 rfl rfl ?_
  refine s_val rfl rfl (r_assign) rfl ?_
  refine s_end ?_
  refine go_seq ?_
  refine go_region 6 rfl rfl ?_
  refine s_val rfl rfl (r_move) rfl ?_
  refine s_val rfl rfl (r_convStr Try.underlying22 Try.underlying5 Try.underlying9 rfl (hsa.k (Chg.refl no w)) (by first | omega | (simp; done) | (simp; omega))) rfl ?_
  refine s_val rfl rfl (r_move) rfl ?_
  refine s_val rfl rfl (r_convStr Try.underlying22 Try.underlying5 Try.underlying9 rfl (hsb.k (Chg.refl no w)) (by first | omega | (simp; done) | (simp; omega))) rfl ?_
  refine s_val rfl rfl (r_eqStr Try.underlying9 rfl rfl) rfl ?_
  refine s_val rfl rfl (r_assign) rfl ?_
  refine s_end ?_
  refine go_ret ?_
  refine ⟨_, .cons rfl (.nil), ?_⟩
  exact ⟨rfl, (Chg.refl no w)⟩


theorem take_snoc_getD {L : List (List UInt8)} {k : Nat} (h : k < L.length) : L.take (k + 1) = L.take k ++ [L.getD k []] := by
  rw [List.take_add_one]; simp [h]
theorem take_ne {L M : List (List UInt8)} {k : Nat} (h : k < L.length) (h2 : k < M.length) (hne : L.getD k [] ≠ M.getD k []) : L ≠ M := fun he => hne (by rw [he])

theorem sumsEq_spec (L M : List (List UInt8)) (a b : Option Addr) (n m c1 c2 : Nat) (w : World) (hn : L.length = n) (hm : M.length = m) (hnb : n < 4611686018427387904) (h32 : All32 L) (m32 : All32 M) (hsl : SlAt w a (bs L.flatten)) (hsm : SlAt w b (bs M.flatten)) :
    Rtn Try.prog 15 [Value.slice a n c1, Value.slice b m c2].toArray w (fun v w' => v = .bool (decide (L = M)) ∧ Kept w w') := by
  refine fn_body (l := [Value.slice a n c1, Value.slice b m c2]) 26 [.tmp 4] Try.func15 rfl Try.ntmps15 (Nat.le_of_ble_eq_true rfl) (by rw [Try.results15]) ?_
  refine go_seq ?_
  refine go_region 1 rfl rfl ?_
  refine s_val rfl rfl (r_assign) rfl ?_
  refine s_end ?_
  refine go_seq ?_
  refine go_seq ?_
  refine go_region 5 rfl rfl ?_
  refine s_val rfl rfl (r_move) rfl ?_
  refine s_val rfl rfl (r_len Try.runUnderlying29 rfl) rfl ?_
  refine s_val rfl rfl (r_move) rfl ?_
  refine s_val rfl rfl (r_len Try.runUnderlying29 rfl) rfl ?_
  refine s_val rfl rfl (r_neq rfl rfl) rfl ?_
  refine s_end ?_
  refine go_ifb _ rfl (fun h1 => ?_) (fun h1 => ?_)
  · first | replace h1 := of_decide_eq_true h1 | replace h1 := of_decide_eq_false (nt h1) | skip
    refine go_seq ?_
    refine go_region 1 rfl rfl ?_
    refine s_val rfl rfl (r_assign) rfl ?_
    refine s_end ?_
    refine go_ret ?_
    refine ⟨_, .cons rfl (.nil), ?_⟩
    have hne : L ≠ M := fun he => by rw [he] at hn; omega
    exact ⟨by rw [decide_eq_false hne]; rfl, (Chg.refl no w)⟩
  · first | replace h1 := of_decide_eq_false h1 | replace h1 := of_decide_eq_true (nf h1) | skip
    refine go_skip ?_
    refine go_seq ?_
    refine go_seq ?_
    refine go_region 3 rfl rfl ?_
    refine s_val rfl rfl (r_move) rfl ?_
    refine s_val rfl rfl (r_len Try.runUnderlying29 rfl) rfl ?_
    refine s_val rfl rfl (r_move) rfl ?_
    refine s_end ?_
    refine go_block ?_
    refine go_loopM (σ := Nat) [(4, 5), (13, 25)] (fun (k : Nat) e' w' => e' 13 = i64 (k : Nat) ∧ k ≤ n ∧ L.take k = M.take k ∧ Chg no w w') (fun (k : Nat) => n - k) 0 ?_ ?_
    · exact ⟨rfl, by omega, rfl, (Chg.refl no w)⟩
    rintro k f2 w1 ⟨e3, hk, hkt, C_w1⟩
    obtain ⟨f4, rfl⟩ : ∃ g_, f2 = upd g_ 13 (i64 (k : Nat)) := ⟨f2, upd_id e3⟩
    have hs_w1 : w.heap.size ≤ w1.heap.size := Chg.size C_w1
    refine go_seq ?_
    refine go_region 1 rfl rfl ?_
    refine s_val rfl rfl (r_lss rfl rfl) rfl ?_
    refine s_end ?_
    refine go_seq ?_
    refine go_ifb _ rfl (fun h2 => ?_) (fun h2 => ?_)
    · first | replace h2 := of_decide_eq_true h2 | replace h2 := of_decide_eq_false (nt h2) | skip
      refine go_skip ?_
      refine go_seq ?_
      refine go_block ?_
      refine go_seq ?_
      refine go_region 2 rfl rfl ?_
      refine s_val rfl rfl (r_move) rfl ?_
      refine s_val rfl rfl (r_assign) rfl ?_
      refine s_end ?_
      refine go_seq ?_
      refine go_drawsE 8 (.take 0 (.take 1 (.take 2 (.take 3 (.take 4 (.take 5 (.take 6 (.take 7 (.eff 8 .done))))))))) (by kernel_rfl) (by kernel_rfl) fun w5 c_w5 => ?_
      have hs_w5 : w1.heap.size ≤ w5.heap.size := Chg.size c_w5
      have C_w5 := Chg.pure C_w1 c_w5
      refine s_takeE rfl rfl (r_move) ?_
      refine s_takeE rfl rfl (r_move) ?_
      refine s_takeE rfl rfl (r_indexSl (k := k) Try.runUnderlying29 Try.sizeOf25 rfl (hsl.k C_w5) (sums_ne h32 (by first | omega | (simp; omega))) rfl (by first | rfl | omega) (by omega)) ?_
      have hg_e6 := All32.get h32 (k := k) (by first | omega | (simp; omega))
      refine s_takeE rfl rfl (r_loadSlN Try.isAgg25 Try.sizeOf25 rfl (hsl.k C_w5) (bs_len (All32.get h32 (by first | omega | (simp; omega)))) (sums_ne h32 (by first | omega | (simp; omega))) (sum_get h32 (k := k) (by first | omega | (simp; omega)))) ?_
      refine s_takeE rfl rfl (r_move) ?_
      refine s_takeE rfl rfl (r_move) ?_
      refine s_takeE rfl rfl (r_indexSl (k := k) Try.runUnderlying29 Try.sizeOf25 rfl (hsm.k C_w5) (sums_ne m32 (by first | omega | (simp; omega))) rfl (by first | rfl | omega) (by omega)) ?_
      have hg_e7 := All32.get m32 (k := k) (by first | omega | (simp; omega))
      refine s_takeE rfl rfl (r_loadSlN Try.isAgg25 Try.sizeOf25 rfl (hsm.k C_w5) (bs_len (All32.get m32 (by first | omega | (simp; omega)))) (sums_ne m32 (by first | omega | (simp; omega))) (sum_get m32 (k := k) (by first | omega | (simp; omega)))) ?_
      refine s_val rfl rfl (r_neqArr Try.underlying25 Try.underlying5 Try.sizeOf5 rfl rfl (by first | omega | (simp; done) | (simp; omega)) (by first | omega | (simp; done) | (simp; omega)) (by kernel_rfl)) rfl ?_
      refine s_end ?_
      refine go_ifb _ rfl (fun h3 => ?_) (fun h3 => ?_)
      · first | replace h3 := of_decide_eq_true h3 | replace h3 := of_decide_eq_false (nt h3) | skip
        refine go_seq ?_
        refine go_region 1 rfl rfl ?_
        refine s_val rfl rfl (r_assign) rfl ?_
        refine s_end ?_
        refine go_ret (block_ret (loop_ret (block_ret ?_)))
        refine ⟨_, .cons rfl (.nil), ?_⟩
        exact ⟨by rw [decide_eq_false (take_ne (by omega) (by omega) h3)]; rfl, C_w5⟩
      · first | replace h3 := of_decide_eq_false h3 | replace h3 := of_decide_eq_true (nf h3) | skip
        replace h3 := Decidable.not_not.1 h3
        refine go_skip ?_
        refine go_nil (block_normal ?_)
        refine go_region 2 rfl rfl ?_
        refine s_val rfl rfl (r_addi rfl rfl (by omega)) rfl ?_
        refine s_val rfl rfl (r_move) rfl ?_
        refine s_end ?_
        refine go_nil (loop_normal ⟨⟨(k + 1), by first | omega | (dsimp only; omega), ⟨rfl, by omega, by rw [take_snoc_getD (by omega), take_snoc_getD (by omega), hkt, h3], C_w5⟩⟩, (by repeat (first | exact same_refl | exact same_over | refine same_upd rfl ?_ | refine same_over2 rfl ?_))⟩)
    · first | replace h2 := of_decide_eq_false h2 | replace h2 := of_decide_eq_true (nf h2) | skip
      have he : L = M := by have e1 := List.take_of_length_le (l := L) (i := k) (by omega); have e2 := List.take_of_length_le (l := M) (i := k) (by omega); rw [← e1, ← e2, hkt]
      refine go_exit (loop_exit (block_hit ?_))
      refine go_seq ?_
      refine go_region 1 rfl rfl ?_
      refine s_val rfl rfl (r_assign) rfl ?_
      refine s_end ?_
      refine go_ret ?_
      refine ⟨_, .cons rfl (.nil), ?_⟩
      exact ⟨by rw [decide_eq_true he]; rfl, C_w1⟩

theorem when_spec (b : Bool) (e : Int) (w : World) :
    Rtn Try.prog 8 [.bool b, i64 e].toArray w (fun v w' => v = i64 (if b then e else 0) ∧ Kept w w') := by
  refine fn_body (l := [.bool b, i64 e]) 7 [.tmp 4] Try.func8 rfl Try.ntmps8 (Nat.le_of_ble_eq_true rfl) (by rw [Try.results8]) ?_
  refine go_seq ?_
  refine go_region 1 rfl rfl ?_
  refine s_val rfl rfl (r_assign) rfl ?_
  refine s_end ?_
  refine go_seq ?_
  refine go_seq ?_
  refine go_region 1 rfl rfl ?_
  refine s_val rfl rfl (r_move) rfl ?_
  refine s_end ?_
  refine go_ifb _ rfl (fun h1 => ?_) (fun h1 => ?_)
  · first | replace h1 := of_decide_eq_true h1 | replace h1 := of_decide_eq_false (nt h1) | skip
    refine go_seq ?_
    refine go_region 2 rfl rfl ?_
    refine s_val rfl rfl (r_move) rfl ?_
    refine s_val rfl rfl (r_assign) rfl ?_
    refine s_end ?_
    refine go_ret ?_
    refine ⟨_, .cons rfl (.nil), ?_⟩
    subst h1
    exact ⟨rfl, (Chg.refl no w)⟩
  · first | replace h1 := of_decide_eq_false h1 | replace h1 := of_decide_eq_true (nf h1) | skip
    refine go_skip ?_
    refine go_seq ?_
    refine go_region 1 rfl rfl ?_
    refine s_val rfl rfl (r_assign) rfl ?_
    refine s_end ?_
    refine go_ret ?_
    refine ⟨_, .cons rfl (.nil), ?_⟩
    have h1' : b = false := by cases b <;> simp_all
    subst h1'
    exact ⟨rfl, (Chg.refl no w)⟩

theorem in_spec (n lo hi : Int) (w : World) :
    Rtn Try.prog 13 [i64 n, i64 lo, i64 hi].toArray w (fun v w' => v = .bool (decide (lo ≤ n ∧ n ≤ hi)) ∧ Kept w w') := by
  refine fn_body (l := [i64 n, i64 lo, i64 hi]) 15 [.tmp 6] Try.func13 rfl Try.ntmps13 (Nat.le_of_ble_eq_true rfl) (by rw [Try.results13]) ?_
  refine go_seq ?_
  refine go_region 1 rfl rfl ?_
  refine s_val rfl rfl (r_assign) rfl ?_
  refine s_end ?_
  refine go_seq ?_
  refine go_region 9 rfl rfl ?_
  refine s_val rfl rfl (r_move) rfl ?_
  refine s_val rfl rfl (r_move) rfl ?_
  refine s_val rfl rfl (r_geq rfl rfl) rfl ?_
  refine s_valB rfl rfl (r_move) rfl (fun h1 => ?_) (fun h1 => ?_)
  · first | replace h1 := of_decide_eq_true h1 | replace h1 := of_decide_eq_false (nt h1) | skip
    have h1 := h1
    refine s_val_g rfl rfl (r_move) rfl ?_
    refine s_val_g rfl rfl (r_move) rfl ?_
    refine s_val_g rfl rfl (r_leq rfl rfl) rfl ?_
    refine s_val rfl rfl (r_pick true rfl) rfl ?_
    refine s_val rfl rfl (r_assign) rfl ?_
    refine s_end ?_
    refine go_ret ?_
    refine ⟨_, .cons rfl (.nil), ?_⟩
    refine ⟨congrArg Value.bool ?_, (Chg.refl no w)⟩
    first | (rw [Bool.eq_iff_iff]; simp only [decide_eq_true_eq]; omega) | (symm; apply decide_eq_false; omega)
  · first | replace h1 := of_decide_eq_false h1 | replace h1 := of_decide_eq_true (nf h1) | skip
    have h1 := h1
    refine s_val_not rfl rfl ?_
    refine s_val_not rfl rfl ?_
    refine s_val_not rfl rfl ?_
    refine s_val rfl rfl (r_pick false rfl) rfl ?_
    refine s_val rfl rfl (r_assign) rfl ?_
    refine s_end ?_
    refine go_ret ?_
    refine ⟨_, .cons rfl (.nil), ?_⟩
    refine ⟨congrArg Value.bool ?_, (Chg.refl no w)⟩
    first | (rw [Bool.eq_iff_iff]; simp only [decide_eq_true_eq]; omega) | (symm; apply decide_eq_false; omega)

end Go.Proofs.Ytdnccchcflaphaa
