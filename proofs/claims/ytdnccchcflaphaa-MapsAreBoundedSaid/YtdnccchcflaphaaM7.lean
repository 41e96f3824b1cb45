/- M7: contracts of functions of the program: called in any world that meets a contract's premises, the function returns what the contract says and changes no more than it says. -/
import Derived.Test.YtdnccchcflaphaaM6
import Derived.Test.YtdnccchcflaphaaEng8
import Derived.Test.YtdnccchcflaphaaEng9
import Derived.Test.YtdnccchcflaphaaChecked
open Go Go.Eng Go.Proofs
namespace Go.Proofs.Ytdnccchcflaphaa

theorem SlsOk.one {w : World} {a : Option Addr} {n c : Nat} {l : List UInt8} (hl : l.length = n) (h0 : 0 < n) (hc : n ≤ c) (h : SlAt w a (bs l)) : SlsOk w [.slice a n c] [l] :=
  ⟨rfl, fun k hk => by
    obtain rfl : k = 0 := by simp at hk; omega
    exact ⟨a, n, c, rfl, hl, h0, hc, h⟩⟩
theorem SlsOk.two {w : World} {a a2 : Option Addr} {n c n2 c2 : Nat} {l l2 : List UInt8} (hl : l.length = n) (h0 : 0 < n) (hc : n ≤ c) (h : SlAt w a (bs l)) (hl2 : l2.length = n2) (h02 : 0 < n2) (hc2 : n2 ≤ c2) (h2 : SlAt w a2 (bs l2)) :
    SlsOk w [.slice a n c, .slice a2 n2 c2] [l, l2] :=
  ⟨rfl, fun k hk => by
    rcases k with _ | _ | k
    · exact ⟨a, n, c, rfl, hl, h0, hc, h⟩
    · exact ⟨a2, n2, c2, rfl, hl2, h02, hc2, h2⟩
    · simp at hk; omega⟩

theorem sumOf_spec (d : Int) (l : List UInt8) (a : Option Addr) (n c : Nat) (w : World) (h0 : 0 ≤ d) (h1 : d ≤ 255) (hn : l.length = n) (hn0 : 0 < n) (hc : n ≤ c) (hbig : n ≤ 1048576) (hsl : SlAt w a (bs l)) :
    Rtn Try.prog 48 [i64 d, Value.slice a n c].toArray w (fun v w' => v = tup [.agg (bs (hashB d l)).toArray, i64 0] ∧ Kept w w') := by
  refine fn_body (l := [i64 d, Value.slice a n c]) 21 [.cell 4 25, .tmp 5] Try.func48 rfl Try.ntmps48 (Nat.le_of_ble_eq_true rfl) (by rw [Try.results48]) ?_
  refine go_seq ?_
  refine go_region 2 rfl rfl ?_
  refine s_do rfl rfl (w_alloc (bs (List.replicate 32 0)) Try.zeroValue25 (by kernel_rfl)) rfl ?_
  rintro _ w1 ⟨b2, rfl, hl_b2, hu_b2, p3, c_w1⟩
  have hs_w1 : w.heap.size ≤ w1.heap.size := Chg.size c_w1
  have C_w1 := Chg.pure (Chg.refl no w) c_w1
  have hn_b2 : w.heap.size ≤ b2 := by have := Chg.size C_w1; omega
  refine s_val rfl rfl (r_assign) rfl ?_
  refine s_end ?_
  refine go_seq ?_
  refine go_region 9 rfl rfl ?_
  refine s_val rfl rfl (r_move) rfl ?_
  refine s_val rfl rfl (r_move) rfl ?_
  refine s_do rfl rfl (w_build1 (E := 22) Try.underlying37 (i := Try.t22) (by kernel_rfl) rfl rfl rfl rfl rfl) rfl ?_
  rintro _ w4 ⟨b5, rfl, hl_b5, hu_b5, o7, p6, c_w4⟩
  have hs_w4 : w1.heap.size ≤ w4.heap.size := Chg.size c_w4
  replace p3 := p3.k c_w4
  have C_w4 := Chg.pure C_w1 c_w4
  have hn_b5 : w.heap.size ≤ b5 := by have := Chg.size C_w4; omega
  refine s_do rfl rfl (w_call Try.call61 rfl (summed_spec (_) [l] [_] _ _ _ _ (by omega) (by omega) rfl (by decide) (by decide) (by simp; omega) (SlAt.some p6.rd) (SlsOk.one (by first | omega | (simp; done) | (simp; omega)) (by first | omega | (simp; done) | (simp; omega)) (by first | omega | (simp; done) | (simp; omega)) (hsl.k C_w4)))) rfl ?_
  rintro _ w8 ⟨b9, rfl, hl_b9, hu_b9, sm10, p11, c_w8⟩
  have hs_w8 : w4.heap.size ≤ w8.heap.size := Chg.size c_w8
  replace p3 := p3.k c_w8
  replace p6 := p6.k c_w8
  have C_w8 := Chg.pure C_w4 c_w8
  have hn_b9 : w.heap.size ≤ b9 := by have := Chg.size C_w8; omega
  have hfl_b9 : [l].flatten.length ≤ 1048576 := by simp; omega
  refine s_val rfl rfl (r_move) rfl ?_
  refine s_val rfl rfl (r_extract rfl rfl) rfl ?_
  refine s_val rfl rfl (r_extract rfl rfl) rfl ?_
  refine s_val rfl rfl (r_assign) rfl ?_
  refine s_val rfl rfl (r_assign) rfl ?_
  refine s_end ?_
  refine go_seq ?_
  refine go_seq ?_
  refine go_region 2 rfl rfl ?_
  refine s_val rfl rfl (r_move) rfl ?_
  refine s_val rfl rfl (r_neq rfl rfl) rfl ?_
  refine s_end ?_
  refine go_ifb _ rfl (fun h12 => ?_) (fun h12 => ?_)
  · first | replace h12 := of_decide_eq_true h12 | replace h12 := of_decide_eq_false (nt h12) | skip
    exfalso
    omega
  · first | replace h12 := of_decide_eq_false h12 | replace h12 := of_decide_eq_true (nf h12) | skip
    refine go_skip ?_
    refine go_seq ?_
    refine go_region 4 rfl rfl ?_
    refine s_val rfl rfl (r_move) rfl ?_
    refine s_do rfl rfl (w_call Try.call62 rfl (sum_spec _ _ _ _ _ (by omega) sm10 p11.rd)) rfl ?_
    rintro _ w13 ⟨rfl, c_w13⟩
    have hs_w13 : w8.heap.size ≤ w13.heap.size := Chg.size c_w13
    replace p3 := p3.k c_w13
    replace p6 := p6.k c_w13
    replace sm10 := sm10.k c_w13
    replace p11 := p11.k c_w13
    have C_w13 := Chg.pure C_w8 c_w13
    refine s_do rfl rfl (w_storeA (o := 0) Try.sizeOf25 rfl rfl (by first | exact bs_len (by omega) | exact bs_len (by simp; done) | exact bs_len (by simp; omega)) (flat_bs _) p3 (by first | exact bs_len (by omega) | exact bs_len (by simp; done) | exact bs_len (by simp; omega))) rfl ?_
    rintro _ w14 ⟨q_w14, c_w14⟩
    have hs_w14 : w13.heap.size ≤ w14.heap.size := Chg.size c_w14
    replace p6 := p6.kb c_w14 (by omega)
    replace sm10 := sm10.kb c_w14 (by omega)
    replace p11 := p11.kb c_w14 (by omega)
    have C_w14 := Chg.newRng C_w13 c_w14 (by omega)
    have p3 := q_w14
    refine s_val rfl rfl (r_assign) rfl ?_
    refine s_end ?_
    refine go_ret ?_
    refine ⟨_, .cons ⟨_, rfl, run_load_agg Try.isAgg25 Try.sizeOf25 (by first | exact bs_len (by omega) | exact bs_len (by simp; done) | exact bs_len (by simp; omega)) p3.rd⟩ (.cons rfl (.nil)), ?_⟩
    have e_ : [l].flatten = l := by simp
    have e2 : (endF (initS d) [l].flatten [l].flatten.length).take 32 = hashB d l := by rw [e_]; rfl
    exact ⟨congrArg (fun x => tup [Value.agg (bs x).toArray, i64 0]) e2, C_w14⟩

theorem leafB_spec (l : List UInt8) (a : Option Addr) (n c : Nat) (w : World) (hn : l.length = n) (hn0 : 0 < n) (hc : n ≤ c) (hbig : n ≤ 1048576) (hsl : SlAt w a (bs l)) :
    Rtn Try.prog 34 [Value.slice a n c].toArray w (fun v w' => v = tup [.agg (bs (hashB 1 l)).toArray, i64 0] ∧ Kept w w') := by
  refine fn_body (l := [Value.slice a n c]) 8 [.cell 2 25, .tmp 3] Try.func34 rfl Try.ntmps34 (Nat.le_of_ble_eq_true rfl) (by rw [Try.results34]) ?_
  refine go_seq ?_
  refine go_region 2 rfl rfl ?_
  refine s_do rfl rfl (w_alloc (bs (List.replicate 32 0)) Try.zeroValue25 (by kernel_rfl)) rfl ?_
  rintro _ w1 ⟨b2, rfl, hl_b2, hu_b2, p3, c_w1⟩
  have hs_w1 : w.heap.size ≤ w1.heap.size := Chg.size c_w1
  have C_w1 := Chg.pure (Chg.refl no w) c_w1
  have hn_b2 : w.heap.size ≤ b2 := by have := Chg.size C_w1; omega
  refine s_val rfl rfl (r_assign) rfl ?_
  refine s_end ?_
  refine go_seq ?_
  refine go_region 6 rfl rfl ?_
  refine s_val rfl rfl (r_move) rfl ?_
  refine s_do rfl rfl (w_call Try.call48 rfl (sumOf_spec (1) l _ _ _ _ (by omega) (by omega) (by first | omega | (simp; done) | (simp; omega)) (by first | omega | (simp; done) | (simp; omega)) (by first | omega | (simp; done) | (simp; omega)) (by first | omega | (simp; done) | (simp; omega)) (hsl.k C_w1))) rfl ?_
  rintro _ w4 ⟨rfl, c_w4⟩
  have hs_w4 : w1.heap.size ≤ w4.heap.size := Chg.size c_w4
  replace p3 := p3.k c_w4
  have C_w4 := Chg.pure C_w1 c_w4
  refine s_val rfl rfl (r_extract rfl rfl) rfl ?_
  refine s_val rfl rfl (r_extract rfl rfl) rfl ?_
  refine s_do rfl rfl (w_storeA (o := 0) Try.sizeOf25 rfl rfl (by first | exact bs_len (by omega) | exact bs_len (by simp; done) | exact bs_len (by simp; omega)) (flat_bs _) p3 (by first | exact bs_len (by omega) | exact bs_len (by simp; done) | exact bs_len (by simp; omega))) rfl ?_
  rintro _ w5 ⟨q_w5, c_w5⟩
  have hs_w5 : w4.heap.size ≤ w5.heap.size := Chg.size c_w5
  have C_w5 := Chg.newRng C_w4 c_w5 (by omega)
  have p3 := q_w5
  refine s_val rfl rfl (r_assign) rfl ?_
  refine s_end ?_
  refine go_ret ?_
  refine ⟨_, .cons ⟨_, rfl, run_load_agg Try.isAgg25 Try.sizeOf25 (by first | exact bs_len (by omega) | exact bs_len (by simp; done) | exact bs_len (by simp; omega)) p3.rd⟩ (.cons rfl (.nil)), ?_⟩
  exact ⟨rfl, C_w5⟩

theorem grow_spec (n : Nat) (w : World) (hn : 0 < n) (hbig : n ≤ 1048576) :
    Rtn Try.prog 84 [.slice none 0 0, i64 (n : Nat)].toArray w (fun v w' => ∃ a c, v = .slice a 0 c ∧ Owns w' w.heap.size 5 1 (.slice a 0 c) 0 (bs []) ∧ Kept w w') := by
  refine fn_body (l := [.slice none 0 0, i64 (n : Nat)]) 27 [.tmp 4] Try.func84 rfl Try.ntmps84 (Nat.le_of_ble_eq_true rfl) (by rw [Try.results84]) ?_
  refine go_seq ?_
  refine go_region 1 rfl rfl ?_
  refine s_val rfl rfl (r_assign) rfl ?_
  refine s_end ?_
  refine go_seq ?_
  refine go_seq ?_
  refine go_region 2 rfl rfl ?_
  refine s_val rfl rfl (r_move) rfl ?_
  refine s_val rfl rfl (r_lss rfl rfl) rfl ?_
  refine s_end ?_
  refine go_ifb _ rfl (fun h1 => ?_) (fun h1 => ?_)
  · first | replace h1 := of_decide_eq_true h1 | replace h1 := of_decide_eq_false (nt h1) | skip
    exfalso
    omega
  · first | replace h1 := of_decide_eq_false h1 | replace h1 := of_decide_eq_true (nf h1) | skip
    refine go_skip ?_
    refine go_seq ?_
    refine go_seq ?_
    refine go_region 8 rfl rfl ?_
    refine s_val rfl rfl (r_move) rfl ?_
    refine s_val rfl rfl (r_move) rfl ?_
    refine s_val rfl rfl (r_cap Try.runUnderlying22 rfl) rfl ?_
    refine s_val rfl rfl (r_move) rfl ?_
    refine s_val rfl rfl (r_len Try.runUnderlying22 rfl) rfl ?_
    refine s_val rfl rfl (r_subi rfl rfl (by omega)) rfl ?_
    refine s_val rfl rfl (r_subi rfl rfl (by omega)) rfl ?_
    refine s_val rfl rfl (r_assign) rfl ?_
    refine s_end ?_
    refine go_seq ?_
    refine go_region 2 rfl rfl ?_
    refine s_val rfl rfl (r_move) rfl ?_
    refine s_val rfl rfl (r_gtr rfl rfl) rfl ?_
    refine s_end ?_
    refine go_ifb _ rfl (fun h2 => ?_) (fun h2 => ?_)
    · first | replace h2 := of_decide_eq_true h2 | replace h2 := of_decide_eq_false (nt h2) | skip
      refine go_region 10 rfl rfl ?_
      refine s_val rfl rfl (r_move) rfl ?_
      refine s_val rfl rfl (r_move) rfl ?_
      refine s_val rfl rfl (r_cap Try.runUnderlying22 rfl) rfl ?_
      refine s_val rfl rfl (r_sliceSl (l := 0) (h := 0) (m := 0) Try.runUnderlying22 Try.sizeOf5 rfl rfl ⟨_, _, rfl, by first | rfl | omega⟩ rfl (by decide) (by decide) (by decide) (by decide)) rfl ?_
      refine s_val rfl rfl (r_move) rfl ?_
      refine s_do rfl rfl (w_appendZ (B := w.heap.size) (E := 5) (m := (n - (0 - 0))) Try.underlying22 Try.underlying3 (i := Try.t5) (by kernel_rfl) rfl rfl rfl rfl (by rfl) (Owns.nil _ _ _ _) rfl (by first | rfl | omega) (by omega) (by omega) (by show _ * 1 ≤ _; omega) (Nat.le_refl _)) rfl ?_
      rintro v7 w3 ⟨o4, c_w3⟩
      replace c_w3 := Chg.kept_of_nil c_w3
      have hs_w3 : w.heap.size ≤ w3.heap.size := Chg.size c_w3
      have C_w3 := Chg.pure (Chg.refl no w) c_w3
      obtain ⟨A5, cap6, rfl, hc_cap6, -, -⟩ := Owns.form o4
      replace o4 := Owns.nilZ o4
      refine s_val rfl rfl (r_move) rfl ?_
      refine s_val rfl rfl (r_len Try.runUnderlying22 rfl) rfl ?_
      have o8 : Owns w3 (w.heap.size) 5 1 (.slice (cutA A5 0 cap6 1) (0 - 0) (cap6 - 0)) 0 (bs []) := by rw [cutA_zero]; exact Owns.takeN o4 (n2 := 0) (by omega)
      refine s_val rfl rfl (r_sliceSl (l := 0) (h := 0) (m := cap6) Try.runUnderlying22 Try.sizeOf5 rfl rfl ⟨_, _, rfl, by first | rfl | omega⟩ rfl (by decide) (by omega) (by first | omega | (intro _; omega)) (by exact Nat.le_refl _)) rfl ?_
      refine s_val rfl rfl (r_assign) rfl ?_
      refine s_end ?_
      refine go_seq ?_
      refine go_region 2 rfl rfl ?_
      refine s_val rfl rfl (r_move) rfl ?_
      refine s_val rfl rfl (r_assign) rfl ?_
      refine s_end ?_
      refine go_ret ?_
      refine ⟨_, .cons rfl (.nil), ?_⟩
      exact ⟨_, _, rfl, Owns.mono o8 (by omega), C_w3⟩
    · first | replace h2 := of_decide_eq_false h2 | replace h2 := of_decide_eq_true (nf h2) | skip
      exfalso
      omega

set_option maxHeartbeats 800000 in
theorem concat_spec (ls : List (List UInt8)) (vs : List Value) (a : Option Addr) (n c : Nat) (w : World) (hn : vs.length = n) (hc : n ≤ c) (hbig : n < 4611686018427387904) (hn0 : 0 < ls.flatten.length) (hb : ls.flatten.length ≤ 1048576) (hsl : SlAt w a vs) (hls : SlsOk w vs ls) :
    Rtn Try.prog 65 [Value.slice a n c].toArray w (fun v w' => ∃ a c, v = .slice a ls.flatten.length c ∧ ls.flatten.length ≤ c ∧ Owns w' w.heap.size 5 1 (.slice a ls.flatten.length c) ls.flatten.length (bs ls.flatten) ∧ Kept w w') := by
  have hlv := hls.1
  refine fn_body (l := [Value.slice a n c]) 36 [.tmp 2] Try.func65 rfl Try.ntmps65 (Nat.le_of_ble_eq_true rfl) (by rw [Try.results65]) ?_
  refine go_seq ?_
  refine go_region 1 rfl rfl ?_
  refine s_val rfl rfl (r_assign) rfl ?_
  refine s_end ?_
  refine go_seq ?_
  refine go_region 1 rfl rfl ?_
  refine s_val rfl rfl (r_assign) rfl ?_
  refine s_end ?_
  refine go_seq ?_
  refine go_seq ?_
  refine go_region 3 rfl rfl ?_
  refine s_val rfl rfl (r_move) rfl ?_
  refine s_val rfl rfl (r_len Try.runUnderlying37 rfl) rfl ?_
  refine s_val rfl rfl (r_move) rfl ?_
  refine s_end ?_
  refine go_block ?_
  refine go_loopM (σ := Nat × Nat) [(3, 3), (5, 5), (11, 22)] (fun (x_ : Nat × Nat) e' w' => match x_ with | (k, tk) => e' 11 = i64 (k : Nat) ∧ e' 3 = i64 (tk : Nat) ∧ k ≤ n ∧ tk = (ls.take k).flatten.length ∧ Chg no w w') (fun (x_ : Nat × Nat) => match x_ with | (k, tk) => n - k) (0, 0) ?_ ?_
  · exact ⟨rfl, rfl, by omega, rfl, (Chg.refl no w)⟩
  rintro ⟨k, tk⟩ f2 w1 ⟨e3, e4, hk, htk, C_w1⟩
  obtain ⟨f5, rfl⟩ : ∃ g_, f2 = upd g_ 11 (i64 (k : Nat)) := ⟨f2, upd_id e3⟩
  obtain ⟨f6, rfl⟩ : ∃ g_, f5 = upd g_ 3 (i64 (tk : Nat)) := ⟨f5, upd_id e4⟩
  have hs_w1 : w.heap.size ≤ w1.heap.size := Chg.size C_w1
  refine go_seq ?_
  refine go_region 1 rfl rfl ?_
  refine s_val rfl rfl (r_lss rfl rfl) rfl ?_
  refine s_end ?_
  refine go_seq ?_
  refine go_ifb _ rfl (fun h2 => ?_) (fun h2 => ?_)
  · first | replace h2 := of_decide_eq_true h2 | replace h2 := of_decide_eq_false (nt h2) | skip
    obtain ⟨ak, nk, ck, hvk, hlk, h0k, hck, hak⟩ := hls.2 k (by omega)
    have hak_lt := SlAt.blk hak (bs_ne (by omega))
    have hfl := flat_succ ls k (by omega)
    have hfl2 : (ls.take (k + 1)).flatten.length = (ls.take k).flatten.length + nk := by rw [hfl, List.length_append, hlk]
    have hfl3 := flat_le ls (k + 1)
    refine go_skip ?_
    refine go_seq ?_
    refine go_block ?_
    refine go_seq ?_
    refine go_region 3 rfl rfl ?_
    refine s_val rfl rfl (r_indexSl (k := k) Try.runUnderlying37 Try.sizeOf22 rfl (hsl.k C_w1) (by intro h_; rw [h_] at hn; simp at hn; omega) rfl (by first | rfl | omega) (by omega)) rfl ?_
    refine s_val rfl rfl (r_loadSl1 Try.isAgg22 rfl (hsl.k C_w1) hvk) rfl ?_
    refine s_val rfl rfl (r_assign) rfl ?_
    refine s_end ?_
    refine go_seq ?_
    refine go_region 5 rfl rfl ?_
    refine s_val rfl rfl (r_move) rfl ?_
    refine s_val rfl rfl (r_move) rfl ?_
    refine s_val rfl rfl (r_len Try.runUnderlying22 rfl) rfl ?_
    refine s_val rfl rfl (r_addi rfl rfl (by omega)) rfl ?_
    refine s_val rfl rfl (r_assign) rfl ?_
    refine s_end ?_
    refine go_seq ?_
    refine go_region 2 rfl rfl ?_
    refine s_val rfl rfl (r_move) rfl ?_
    refine s_val rfl rfl (r_lss rfl rfl) rfl ?_
    refine s_end ?_
    refine go_ifb _ rfl (fun h7 => ?_) (fun h7 => ?_)
    · first | replace h7 := of_decide_eq_true h7 | replace h7 := of_decide_eq_false (nt h7) | skip
      exfalso
      omega
    · first | replace h7 := of_decide_eq_false h7 | replace h7 := of_decide_eq_true (nf h7) | skip
      refine go_skip ?_
      refine go_nil (block_normal ?_)
      refine go_region 2 rfl rfl ?_
      refine s_val rfl rfl (r_addi rfl rfl (by omega)) rfl ?_
      refine s_val rfl rfl (r_move) rfl ?_
      refine s_end ?_
      refine go_nil (loop_normal ⟨⟨(k + 1, tk + nk), by first | omega | (dsimp only; omega), ⟨rfl, rfl, by omega, by omega, C_w1⟩⟩, (by repeat (first | exact same_refl | exact same_over | refine same_upd rfl ?_ | refine same_over2 rfl ?_))⟩)
  · first | replace h2 := of_decide_eq_false h2 | replace h2 := of_decide_eq_true (nf h2) | skip
    have hkn : k = n := by omega
    have htl : ls.take k = ls := List.take_of_length_le (by omega)
    rw [htl] at htk
    subst htk
    refine go_exit (loop_exit (block_hit ?_))
    refine go_seq ?_
    refine go_region 3 rfl rfl ?_
    refine s_val rfl rfl (r_move) rfl ?_
    refine s_do rfl rfl (w_call Try.call84 rfl (grow_spec _ _ (by omega) (by omega))) rfl ?_
    rintro _ w8 ⟨A10, cap11, rfl, o9, c_w8⟩
    have hs_w8 : w1.heap.size ≤ w8.heap.size := Chg.size c_w8
    have C_w8 := Chg.pure C_w1 c_w8
    refine s_val rfl rfl (r_assign) rfl ?_
    refine s_end ?_
    refine go_seq ?_
    refine go_seq ?_
    refine go_region 3 rfl rfl ?_
    refine s_val rfl rfl (r_move) rfl ?_
    refine s_val rfl rfl (r_len Try.runUnderlying37 rfl) rfl ?_
    refine s_val rfl rfl (r_move) rfl ?_
    refine s_end ?_
    refine go_block ?_
    refine go_loopM (σ := Nat × Option Addr × Nat × Nat) [(6, 6), (8, 8), (27, 34)] (fun (x_ : Nat × Option Addr × Nat × Nat) e' w' => match x_ with | (k, a1, n1, c1) => e' 27 = i64 (k : Nat) ∧ e' 6 = Value.slice a1 n1 c1 ∧ k ≤ n ∧ n1 = (ls.take k).flatten.length ∧ w1.heap.size ≤ w'.heap.size ∧ Owns w' (w1.heap.size) 5 1 (Value.slice a1 n1 c1) n1 (bs (ls.take k).flatten) ∧ n1 ≤ c1 ∧ Chg no w w') (fun (x_ : Nat × Option Addr × Nat × Nat) => match x_ with | (k, a1, n1, c1) => n - k) (0, A10, 0, cap11) ?_ ?_
    · exact ⟨rfl, rfl, by omega, rfl, by omega, o9, by omega, C_w8⟩
    rintro ⟨k, a1, n1, c1⟩ f13 w12 ⟨e14, e15, hk, hn1, hB_ho1, ho1, hc1, C_w12⟩
    obtain ⟨f16, rfl⟩ : ∃ g_, f13 = upd g_ 27 (i64 (k : Nat)) := ⟨f13, upd_id e14⟩
    obtain ⟨f17, rfl⟩ : ∃ g_, f16 = upd g_ 6 (Value.slice a1 n1 c1) := ⟨f16, upd_id e15⟩
    have hs_w12 : w.heap.size ≤ w12.heap.size := Chg.size C_w12
    refine go_seq ?_
    refine go_region 1 rfl rfl ?_
    refine s_val rfl rfl (r_lss rfl rfl) rfl ?_
    refine s_end ?_
    refine go_seq ?_
    refine go_ifb _ rfl (fun h3 => ?_) (fun h3 => ?_)
    · first | replace h3 := of_decide_eq_true h3 | replace h3 := of_decide_eq_false (nt h3) | skip
      obtain ⟨ak, nk, ck, hvk, hlk, h0k, hck, hak⟩ := hls.2 k (by omega)
      have hak_lt := SlAt.blk hak (bs_ne (by omega))
      have hfl := flat_succ ls k (by omega)
      have hfl2 : (ls.take (k + 1)).flatten.length = (ls.take k).flatten.length + nk := by rw [hfl, List.length_append, hlk]
      have hfl3 := flat_le ls (k + 1)
      refine go_skip ?_
      refine go_seq ?_
      refine go_block ?_
      refine go_seq ?_
      refine go_region 3 rfl rfl ?_
      refine s_val rfl rfl (r_indexSl (k := k) Try.runUnderlying37 Try.sizeOf22 rfl (hsl.k C_w12) (by intro h_; rw [h_] at hn; simp at hn; omega) rfl (by first | rfl | omega) (by omega)) rfl ?_
      refine s_val rfl rfl (r_loadSl1 Try.isAgg22 rfl (hsl.k C_w12) hvk) rfl ?_
      refine s_val rfl rfl (r_assign) rfl ?_
      refine s_end ?_
      refine go_region 4 rfl rfl ?_
      refine s_val rfl rfl (r_move) rfl ?_
      refine s_val rfl rfl (r_move) rfl ?_
      refine s_do rfl rfl (w_append (E := 5) (sz := 1) Try.underlying22 rfl (i := Try.t5) (by kernel_rfl) rfl rfl rfl rfl (by rfl) ho1 rfl (hak.k C_w12) (by first | rfl | (rw [bs_length]; omega) | (simp [bs_length]; done) | (simp [bs_length]; omega)) (flat_bs _) (by omega) (by show _ * 1 ≤ _; omega) (by omega)) rfl ?_
      rintro v22 w18 ⟨o19, c_w18⟩
      have hs_w18 : w12.heap.size ≤ w18.heap.size := Chg.size c_w18
      have C_w18 := Chg.newOb C_w12 c_w18 ho1 (by omega)
      obtain ⟨A20, cap21, rfl, hc_cap21, -, -⟩ := Owns.form o19
      replace o19 := Owns.appB o19
      refine s_val rfl rfl (r_assign) rfl ?_
      refine s_end ?_
      refine go_nil (block_normal ?_)
      refine go_region 2 rfl rfl ?_
      refine s_val rfl rfl (r_addi rfl rfl (by omega)) rfl ?_
      refine s_val rfl rfl (r_move) rfl ?_
      refine s_end ?_
      refine go_nil (loop_normal ⟨⟨(k + 1, _, n1 + nk, _), by first | omega | (dsimp only; omega), ⟨rfl, rfl, by omega, by omega, by omega, by rw [hfl]; exact o19, by omega, C_w18⟩⟩, (by repeat (first | exact same_refl | exact same_over | refine same_upd rfl ?_ | refine same_over2 rfl ?_))⟩)
    · first | replace h3 := of_decide_eq_false h3 | replace h3 := of_decide_eq_true (nf h3) | skip
      have hkn : k = n := by omega
      have htl : ls.take k = ls := List.take_of_length_le (by omega)
      rw [htl] at hn1 ho1
      subst hn1
      refine go_exit (loop_exit (block_hit ?_))
      refine go_seq ?_
      refine go_region 2 rfl rfl ?_
      refine s_val rfl rfl (r_move) rfl ?_
      refine s_val rfl rfl (r_assign) rfl ?_
      refine s_end ?_
      refine go_ret ?_
      refine ⟨_, .cons rfl (.nil), ?_⟩
      exact ⟨_, _, rfl, hc1, Owns.mono ho1 (by omega), C_w12⟩

end Go.Proofs.Ytdnccchcflaphaa
