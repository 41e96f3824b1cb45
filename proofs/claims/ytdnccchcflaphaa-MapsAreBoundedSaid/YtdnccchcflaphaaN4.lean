/- N4: contracts of functions of the program: called in any world that meets a contract's premises, the function returns what the contract says and changes no more than it says. -/
import Derived.Test.YtdnccchcflaphaaN3
import Derived.Test.YtdnccchcflaphaaEng8
import Derived.Test.YtdnccchcflaphaaEng9
import Derived.Test.YtdnccchcflaphaaEng10
import Derived.Test.YtdnccchcflaphaaEng11
import Derived.Test.YtdnccchcflaphaaEng12
import Derived.Test.YtdnccchcflaphaaChecked
open Go Go.Eng Go.Proofs
namespace Go.Proofs.Ytdnccchcflaphaa
theorem hex1_spec (bb : Nat) (w : World) (hsl : SlAt w (some ⟨bb, 0, none⟩) (bs [1])) :
    Rtn Try.prog 37 [Value.slice (some ⟨bb, 0, none⟩) 1 1].toArray w (fun v w' => v = .string ⟨[48, 49].toArray⟩ ∧ Kept w w') := by
  refine fn_body (l := [Value.slice (some ⟨bb, 0, none⟩) 1 1]) 28 [.tmp 2] Try.func37 rfl Try.ntmps37 (Nat.le_of_ble_eq_true rfl) (by rw [Try.results37]) ?_
  refine go_seq ?_
  refine go_region 1 rfl rfl ?_
  refine s_val rfl rfl (r_assign) rfl ?_
  refine s_end ?_
  refine go_seq ?_
  refine go_region 5 rfl rfl ?_
  refine s_val rfl rfl (r_move) rfl ?_
  refine s_val rfl rfl (r_len Try.runUnderlying22 rfl) rfl ?_
  refine s_val rfl rfl (r_muli rfl rfl (by omega)) rfl ?_
  refine s_do rfl rfl (w_make (n := 0) (c := (2 * 1)) (E := 5) Try.underlying22 (i := Try.t5) (by kernel_rfl) rfl rfl rfl rfl rfl (by first | rfl | omega) (by first | rfl | omega) (by omega) (by first | decide | (show _ * 1 ≤ _; omega) | (show _ * 8 ≤ _; omega)) (by omega)) rfl ?_
  rintro _ w1 ⟨b2, rfl, hl_b2, hu_b2, o4, p3, c_w1⟩
  have hs_w1 : w.heap.size ≤ w1.heap.size := Chg.size c_w1
  have C_w1 := Chg.pure (Chg.refl no w) c_w1
  have hn_b2 : w.heap.size ≤ b2 := by have := Chg.size C_w1; omega
  refine s_val rfl rfl (r_assign) rfl ?_
  refine s_end ?_
  refine go_seq ?_
  refine go_seq ?_
  refine go_region 3 rfl rfl ?_
  refine s_val rfl rfl (r_move) rfl ?_
  refine s_val rfl rfl (r_len Try.runUnderlying22 rfl) rfl ?_
  refine s_val rfl rfl (r_move) rfl ?_
  refine s_end ?_
  refine go_block ?_
  refine go_loopM (σ := Nat × Option Addr × Nat × Nat) [(3, 3), (5, 5), (12, 25)] (fun (x_ : Nat × Option Addr × Nat × Nat) e' w' => match x_ with | (k, a1, n1, c1) => e' 12 = i64 (k : Nat) ∧ e' 3 = Value.slice a1 n1 c1 ∧ k ≤ 1 ∧ n1 = 2 * k ∧ w.heap.size ≤ w'.heap.size ∧ Owns w' w.heap.size 5 1 (Value.slice a1 n1 c1) n1 (bs (hexT k)) ∧ n1 ≤ c1 ∧ Chg no w w') (fun (x_ : Nat × Option Addr × Nat × Nat) => match x_ with | (k, a1, n1, c1) => 1 - k) (0, some ⟨b2, 0, none⟩, 0, 2 * 1) ?_ ?_
  · exact ⟨rfl, rfl, by omega, rfl, by omega, o4, by omega, C_w1⟩
  rintro ⟨k, a1, n1, c1⟩ f6 w5 ⟨e7, e8, hk, hn1, hB_ho1, ho1, hc1, C_w5⟩
  have ob_10 : ∃ g_, f6 = upd g_ 12 (i64 (k : Nat)) := ⟨f6, upd_id e7⟩
  obtain ⟨f9, rfl⟩ := ob_10
  have ob_12 : ∃ g_, f9 = upd g_ 3 (Value.slice a1 n1 c1) := ⟨f9, upd_id e8⟩
  obtain ⟨f11, rfl⟩ := ob_12
  clear e7 e8
  have hs_w5 : w.heap.size ≤ w5.heap.size := Chg.size C_w5
  refine go_seq ?_
  refine go_region 1 rfl rfl ?_
  refine s_val rfl rfl (r_lss rfl rfl) rfl ?_
  refine s_end ?_
  refine go_seq ?_
  refine go_ifb _ rfl (fun h => ?_) (fun h => ?_)
  · first | replace h := of_decide_eq_true h | replace h := of_decide_eq_false (nt h) | skip
    have ob_13 : k = 0 := by omega
    obtain rfl := ob_13
    refine go_skip ?_
    refine go_seq ?_
    refine go_block ?_
    refine go_seq ?_
    refine go_region 3 rfl rfl ?_
    refine s_val rfl rfl (r_indexSl (k := 0) Try.runUnderlying22 Try.sizeOf5 rfl (hsl.k C_w5) (bs_ne (by decide)) rfl (by first | rfl | omega) (by omega)) rfl ?_
    refine s_val rfl rfl (r_loadSl1 Try.isAgg5 rfl (hsl.k C_w5) (bs_get (by first | omega | (simp; done) | (simp; omega)))) rfl ?_
    refine s_val rfl rfl (r_assign) rfl ?_
    refine s_end ?_
    refine go_drawsM (M := no) 8 (.take 0 (.take 1 (.take 2 (.take 3 (.take 4 (.take 5 (.take 6 (.eff 7 (.eff 8 (.eff 9 .done)))))))))) (by kernel_rfl) (by kernel_rfl) fun w14 c_w14 => ?_
    have hs_w14 : w5.heap.size ≤ w14.heap.size := Chg.size c_w14
    replace ho1 := ho1.k c_w14
    have C_w14 := Chg.pure C_w5 c_w14
    have ho1_0 := ho1
    refine s_takeM (M := no) rfl rfl (w0 := w14) (fun x_ c_ => r_move) ?_
    refine s_takeM (M := no) rfl rfl (w0 := w14) (fun x_ c_ => r_move) ?_
    refine s_takeM (M := no) rfl rfl (w0 := w14) (fun x_ c_ => r_shr8 rfl rfl (by omega)) ?_
    refine s_takeM (M := no) rfl rfl (w0 := w14) (fun x_ c_ => r_indexStr (k := 0) (b := 48) Try.runUnderlying9 rfl rfl (by decide) (by decide)) ?_
    refine s_takeM (M := no) rfl rfl (w0 := w14) (fun x_ c_ => r_move) ?_
    refine s_takeM (M := no) rfl rfl (w0 := w14) (fun x_ c_ => r_and8 (s := 15) rfl rfl) ?_
    refine s_takeM (M := no) rfl rfl (w0 := w14) (fun x_ c_ => r_indexStr (k := 1) (b := 49) Try.runUnderlying9 rfl rfl (by decide) (by decide)) ?_
    refine s_fxM rfl rfl (w_build2 (E := 5) Try.underlying22 (i := Try.t5) (by kernel_rfl) rfl rfl rfl rfl rfl rfl rfl) ?_
    rintro _ w15 ⟨b16, rfl, hl_b16, hu_b16, o18, p17, c_w15⟩
    have ne_b16_ho1 := Owns.ne_ge ho1 hl_b16
    have hs_w15 : w14.heap.size ≤ w15.heap.size := Chg.size c_w15
    replace ho1 := ho1.k c_w15
    have C_w15 := Chg.pure C_w14 c_w15
    have hn_b16 : w.heap.size ≤ b16 := by have := Chg.size C_w15; omega
    clear o18
    replace p17 : Pc w15 b16 0 (bs [48, 49]) := p17
    have K_w15 := Chg.pure (Chg.refl no w14) c_w15
    refine ⟨K_w15, ?_⟩
    refine s_do rfl rfl (w_append (E := 5) (sz := 1) Try.underlying22 rfl (i := Try.t5) (by kernel_rfl) rfl rfl rfl rfl (by rfl) ho1 rfl (SlAt.some p17.rd) (by first | (rw [bs_length]; omega) | (simp [bs_length]; done) | (simp [bs_length]; omega) | rfl) (flat_bs _) (by omega) (by show _ * 1 ≤ _; omega) (by omega)) rfl ?_
    rintro v23 w19 ⟨o20, c_w19⟩
    have hs_w19 : w15.heap.size ≤ w19.heap.size := Chg.size c_w19
    replace p17 := p17.kob c_w19 ne_b16_ho1
    have C_w19 := Chg.newOb C_w15 c_w19 ho1 (by omega)
    have hfo_o20 := Owns.form2 o20
    obtain ⟨A21, cap22, e_o20, hc_cap22⟩ := hfo_o20
    subst e_o20
    replace o20 := Owns.appB o20
    refine s_val rfl rfl (r_assign) rfl ?_
    refine s_end ?_
    refine go_nil (block_normal ?_)
    refine go_region 2 rfl rfl ?_
    refine s_val rfl rfl (r_addi rfl rfl (by omega)) rfl ?_
    refine s_val rfl rfl (r_move) rfl ?_
    refine s_end ?_
    refine go_nil (loop_normal ⟨⟨(0 + 1, _, n1 + 2, _), by first | omega | (dsimp only; omega), ⟨rfl, rfl, by omega, by omega, by omega, o20, by omega, C_w19⟩⟩, (by repeat (first | exact same_refl | exact same_over | refine same_upd rfl ?_ | refine same_over2 rfl ?_))⟩)
  · first | replace h := of_decide_eq_false h | replace h := of_decide_eq_true (nf h) | skip
    have ob_24 : k = 1 := by omega
    obtain rfl := ob_24
    have hlx : (hexT 1).length = 2 := rfl
    refine go_exit (loop_exit (block_hit ?_))
    refine go_seq ?_
    refine go_region 3 rfl rfl ?_
    refine s_val rfl rfl (r_move) rfl ?_
    refine s_val rfl rfl (r_convStr Try.underlying22 Try.underlying5 Try.underlying9 rfl (Owns.sl ho1) (by first | omega | (simp; done) | (simp; omega))) rfl ?_
    refine s_val rfl rfl (r_assign) rfl ?_
    refine s_end ?_
    refine go_ret ?_
    refine ⟨_, .cons rfl (.nil), ?_⟩
    exact ⟨rfl, C_w5⟩

theorem landed_spec (w : World) :
    Rtn Try.prog 20 [].toArray w (fun v w' => v = .bool true ∧ Kept w w') := by
  refine fn_body (l := []) 4 [.tmp 0] Try.func20 rfl Try.ntmps20 (Nat.le_of_ble_eq_true rfl) (by rw [Try.results20]) ?_
  refine go_seq ?_
  refine go_region 1 rfl rfl ?_
  refine s_val rfl rfl (r_assign) rfl ?_
  refine s_end ?_
  refine go_seq ?_
  refine go_region 4 rfl rfl ?_
  refine s_do rfl rfl (w_build1 (E := 5) Try.underlying22 (i := Try.t5) (by kernel_rfl) rfl rfl rfl rfl rfl) rfl ?_
  rintro _ w1 ⟨b2, rfl, hl_b2, hu_b2, o4, p3, c_w1⟩
  have hs_w1 : w.heap.size ≤ w1.heap.size := Chg.size c_w1
  have C_w1 := Chg.pure (Chg.refl no w) c_w1
  have hn_b2 : w.heap.size ≤ b2 := by have := Chg.size C_w1; omega
  replace p3 : Pc w1 b2 0 (bs [1]) := p3
  refine s_do rfl rfl (w_call Try.call37 rfl (hex1_spec _ _ (SlAt.some p3.rd))) rfl ?_
  rintro _ w5 ⟨rfl, c_w5⟩
  have hs_w5 : w1.heap.size ≤ w5.heap.size := Chg.size c_w5
  replace p3 := p3.k c_w5
  have C_w5 := Chg.pure C_w1 c_w5
  refine s_val rfl rfl (r_eqStr (l := [48, 49]) (m := [48, 49]) Try.underlying9 rfl rfl) rfl ?_
  refine s_val rfl rfl (r_assign) rfl ?_
  refine s_end ?_
  refine go_ret ?_
  refine ⟨_, .cons rfl (.nil), ?_⟩
  exact ⟨rfl, C_w5⟩

end Go.Proofs.Ytdnccchcflaphaa
