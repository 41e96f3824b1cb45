/- M15: contracts of functions of the program: called in any world that meets a contract's premises, the function returns what the contract says and changes no more than it says. -/
import Derived.Test.YtdnccchcflaphaaM14
import Derived.Test.YtdnccchcflaphaaEng8
import Derived.Test.YtdnccchcflaphaaEng9
import Derived.Test.YtdnccchcflaphaaEng10
import Derived.Test.YtdnccchcflaphaaEng11
import Derived.Test.YtdnccchcflaphaaEng12
import Derived.Test.YtdnccchcflaphaaChecked
open Go Go.Eng Go.Proofs
namespace Go.Proofs.Ytdnccchcflaphaa
set_option maxHeartbeats 1000000 in
theorem chunk1_spec (m l n₀ tb1 tb2 n c : Nat) (a : Option Addr) (J Jx : List (Option Addr × Nat) → World → Prop) (w : World) (hn : n ≤ 1048576) (hc : n ≤ c) (h1 : tb1 < n₀) (h2 : tb2 < n₀) (hab : AbidesFrom w.heap.size J) (hY : ∀ pre x W1, J pre W1 → pre.length < (n + 1023) / 1024 → YieldAt Fence.wide (m - 1) Try.prog l #[Value.slice x.1 x.2 x.2] W1 fun e W' => (e = .returned (.bool true) ∧ J (pre ++ [x]) W' ∧ RowKit.Below n₀ W1 W') ∨ (e = .returned (.bool false) ∧ Jx (pre ++ [x]) W')) (hJ0 : J [] w) (ht1 : Rd w tb1 0 [Value.slice a n c]) (ht2 : Rd w tb2 0 [i64 1024]) :
    Rtn Try.prog 57 [.func (.yield l) #[] #[], .pointer (some ⟨tb1, 0, none⟩), .pointer (some ⟨tb2, 0, none⟩)].toArray w (fun _ w' => J (chP a n ((n + 1023) / 1024)) w' ∨ ∃ pre, Jx pre w') := by
  refine fn_body (l := [.func (.yield l) #[] #[], .pointer (some ⟨tb1, 0, none⟩), .pointer (some ⟨tb2, 0, none⟩)]) 31 [] Try.func57 rfl Try.ntmps57 (Nat.le_of_ble_eq_true rfl) (by rw [Try.results57]) ?_
  refine go_seq ?_
  refine go_region 1 rfl rfl ?_
  refine s_val rfl rfl (r_assign) rfl ?_
  refine s_end ?_
  refine go_block ?_
  refine go_loopM (σ := Nat) [(4, 30)] (fun (k : Nat) e' w' => e' 4 = i64 ((1024 * k : Nat) : Int) ∧ k ≤ (n + 1023) / 1024 ∧ J (chP a n k) w' ∧ Chg (byd n₀) w w') (fun (k : Nat) => n - 1024 * k) 0 ?_ ?_
  · exact ⟨rfl, by omega, hJ0, (Chg.refl (byd n₀) w)⟩
  rintro k f2 w1 ⟨e3, hk, hJk, C_w1⟩
  obtain ⟨f4, rfl⟩ : ∃ g_, f2 = upd g_ 4 (i64 ((1024 * k : Nat) : Int)) := ⟨f2, upd_id e3⟩
  have hs_w1 : w.heap.size ≤ w1.heap.size := Chg.size C_w1
  have hab0 := hab
  refine go_seq ?_
  refine go_seq ?_
  refine go_region 4 rfl rfl ?_
  refine s_val rfl rfl (r_move) rfl ?_
  refine s_val rfl rfl (r_load1 Try.isAgg22 rfl (ht1.kept C_w1 (fun j_ hj_ m_ => by have : n₀ ≤ tb1 := m_; omega))) rfl ?_
  refine s_val rfl rfl (r_len Try.runUnderlying22 rfl) rfl ?_
  refine s_val rfl rfl (r_lss rfl rfl) rfl ?_
  refine s_end ?_
  refine go_ifb _ rfl (fun hlt => ?_) (fun hlt => ?_)
  · first | replace hlt := of_decide_eq_true hlt | replace hlt := of_decide_eq_false (nt hlt) | skip
    refine go_skip ?_
    refine go_seq ?_
    refine go_block ?_
    refine go_seq ?_
    refine go_drawsE 5 (.take 0 (.take 1 (.take 2 (.take 3 (.take 4 (.eff 5 (.eff 6 .done))))))) (by kernel_rfl) (by kernel_rfl) fun w5 c_w5 => ?_
    have hs_w5 : w1.heap.size ≤ w5.heap.size := Chg.size c_w5
    replace hJk := hab _ _ _ none hJk (Chg.grown c_w5) (fun _ e_ => by cases e_)
    have C_w5 := Chg.pure C_w1 c_w5
    refine s_takeE rfl rfl (r_load1 Try.isAgg3 rfl (ht2.kept C_w5 (fun j_ hj_ m_ => by have : n₀ ≤ tb2 := m_; omega))) ?_
    refine s_takeE rfl rfl (r_load1 Try.isAgg22 rfl (ht1.kept C_w5 (fun j_ hj_ m_ => by have : n₀ ≤ tb1 := m_; omega))) ?_
    refine s_takeE rfl rfl (r_move) ?_
    refine s_takeE rfl rfl (r_sliceSl (l := (1024 * k)) (h := n) (m := c) Try.runUnderlying22 Try.sizeOf5 rfl ⟨_, _, rfl, by first | rfl | omega⟩ rfl rfl (by first | decide | (intro h_; cases h_)) (by first | decide | omega) (by first | decide | omega | (intro _; omega)) (by first | exact Nat.le_refl _ | omega)) ?_
    refine s_takeE rfl rfl (r_len Try.runUnderlying22 rfl) ?_
    refine s_val rfl rfl (r_min rfl rfl) rfl ?_
    refine s_val rfl rfl (r_assign) rfl ?_
    refine s_end ?_
    refine go_seq ?_
    refine go_regionT m 12 rfl ?_
    show TAt none _ _ _ _ _ _ [0, 1, 2, 3, 4, 5, 6, 7, 8, 9, 10, 11] _ _
    refine t_val rfl rfl (by rintro _ ⟨⟩; decide) (fun _ h_ => by cases h_) (r_move) ?_
    refine t_val rfl rfl (by rintro _ ⟨⟩; decide) (fun _ h_ => by cases h_) (r_load1 Try.isAgg22 rfl (ht1.kept C_w5 (fun j_ hj_ m_ => by have : n₀ ≤ tb1 := m_; omega))) ?_
    refine t_val rfl rfl (by rintro _ ⟨⟩; decide) (fun _ h_ => by cases h_) (r_move) ?_
    refine t_val rfl rfl (by rintro _ ⟨⟩; decide) (fun _ h_ => by cases h_) (r_move) ?_
    refine t_val rfl rfl (by rintro _ ⟨⟩; decide) (fun _ h_ => by cases h_) (r_move) ?_
    refine t_val rfl rfl (by rintro _ ⟨⟩; decide) (fun _ h_ => by cases h_) (r_addi rfl rfl (by omega)) ?_
    refine t_val rfl rfl (by rintro _ ⟨⟩; decide) (fun _ h_ => by cases h_) (r_move) ?_
    refine t_val rfl rfl (by rintro _ ⟨⟩; decide) (fun _ h_ => by cases h_) (r_move) ?_
    refine t_val rfl rfl (by rintro _ ⟨⟩; decide) (fun _ h_ => by cases h_) (r_addi rfl rfl (by omega)) ?_
    refine t_val rfl rfl (by rintro _ ⟨⟩; decide) (fun _ h_ => by cases h_) (r_sliceSl (l := (1024 * k)) (h := ((1024 * k) + (min 1024 (n - (1024 * k))))) (m := ((1024 * k) + (min 1024 (n - (1024 * k))))) Try.runUnderlying22 Try.sizeOf5 rfl ⟨_, _, rfl, by first | rfl | omega⟩ ⟨_, _, rfl, by first | rfl | omega⟩ ⟨_, _, rfl, by first | rfl | omega⟩ (by first | decide | (intro h_; cases h_)) (by first | decide | omega) (by first | decide | omega | (intro _; omega)) (by first | exact Nat.le_refl _ | omega)) ?_
    obtain ⟨fn_, tm_, as_, bo_, hy_, hR_⟩ := hY _ ((cutA a (1024 * k) ((1024 * k) + (min 1024 (n - (1024 * k)))) 1), (((1024 * k) + (min 1024 (n - (1024 * k)))) - (1024 * k))) _ hJk (by rw [chP_length]; omega)
    refine t_round rfl rfl (by rintro _ ⟨⟩; decide) (fun _ h_ => by cases h_) (r_yield rfl rfl hy_) hR_ ?_
    rintro _ w8 (⟨rfl, hJ2, hb_⟩ | ⟨rfl, hJx⟩)
    · refine ⟨_, rfl, ?_⟩
      have c_w8 := Chg.of_below hb_
      have C_w8 := Chg.into C_w5 c_w8 (fun _ _ _ m => m)
      refine t_val rfl rfl (by rintro _ ⟨⟩; decide) (fun _ h_ => by cases h_) (r_not rfl) ?_
      refine t_go ?_
      refine go_false rfl ?_
      refine go_skip ?_
      refine go_nil (block_normal ?_)
      refine go_region 4 rfl rfl ?_
      refine s_val rfl rfl (r_move) rfl ?_
      refine s_val rfl rfl (r_load1 Try.isAgg3 rfl (ht2.kept C_w8 (fun j_ hj_ m_ => by have : n₀ ≤ tb2 := m_; omega))) rfl ?_
      refine s_val rfl rfl (r_addi rfl rfl (by omega)) rfl ?_
      refine s_val rfl rfl (r_assign) rfl ?_
      refine s_end ?_
      refine go_nil (loop_normal ⟨⟨(k + 1), by first | omega | (dsimp only; omega), ⟨rfl, by omega, hJ2, C_w8⟩⟩, (by repeat (first | exact same_refl | exact same_over | refine same_upd rfl ?_ | refine same_over2 rfl ?_))⟩)
    · refine ⟨_, rfl, ?_⟩
      refine t_val rfl rfl (by rintro _ ⟨⟩; decide) (fun _ h_ => by cases h_) (r_not rfl) ?_
      refine t_go ?_
      refine go_true rfl ?_
      refine go_ret (block_ret (loop_ret (block_ret ?_)))
      refine ⟨_, .nil, ?_⟩
      exact .inr ⟨_, hJx⟩
  · first | replace hlt := of_decide_eq_false hlt | replace hlt := of_decide_eq_true (nf hlt) | skip
    obtain hke : k = (n + 1023) / 1024 := by omega
    refine go_exit (loop_exit (block_hit ?_))
    refine go_nil ?_
    refine ⟨_, .nil, ?_⟩
    rw [← hke]; exact .inl hJk

end Go.Proofs.Ytdnccchcflaphaa
