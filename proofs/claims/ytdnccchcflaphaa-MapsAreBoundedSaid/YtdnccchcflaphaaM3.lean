/- M3: contracts of functions of the program: called in any world that meets a contract's premises, the function returns what the contract says and changes no more than it says. -/
import Derived.Test.YtdnccchcflaphaaM2
import Derived.Test.YtdnccchcflaphaaChecked
open Go Go.Eng Go.Proofs
namespace Go.Proofs.Ytdnccchcflaphaa

/-- the state behind k whole blocks of l -/
def absorb (st l : List UInt8) : Nat → List UInt8
  | 0 => st
  | k + 1 => blockB (absorb st l k) ((l.drop (32 * k)).take 32)
theorem absorb_length (st l : List UInt8) (k : Nat) (h : st.length = 64) : (absorb st l k).length = 64 := by cases k with | zero => exact h | succ k => simp [absorb]
def tailF (st rest l : List UInt8) : List UInt8 × List UInt8 × Nat := (absorb st l (l.length / 32), putAt rest 0 (l.drop (32 * (l.length / 32))), l.length % 32)
/-- what taking octets makes of state, rest and how many there are -/
def takeF (st rest : List UInt8) (h : Nat) (l : List UInt8) : List UInt8 × List UInt8 × Nat :=
  if 0 < h then
    let rest1 := putAt rest h (l.take (32 - h))
    if h + min l.length (32 - h) < 32 then (st, rest1, h + min l.length (32 - h))
    else tailF (blockB st rest1) rest1 (l.drop (min l.length (32 - h)))
  else tailF st rest l
theorem tailF_eq (S R L : List UInt8) (k n : Nat) (hk : n + 32 * k = L.length) (hn : n < 32) : tailF S R L = (absorb S L k, putAt R 0 ((L.drop (32 * k)).take 32), min n 32) := by
  have h1 : L.length / 32 = k := by omega
  have h2 : L.length % 32 = min n 32 := by omega
  rw [tailF, h1, h2, List.take_of_length_le (by rw [List.length_drop]; omega)]

theorem take_spec (st rest l : List UInt8) (sb h n c : Nat) (a : Option Addr) (w : World) (hst : st.length = 64) (hre : rest.length = 32) (hh : h < 32) (hn : l.length = n) (hc : n ≤ c) (hbig : n < 4611686018427387904) (hs : Pc w sb 0 (bs st)) (hrest : Pc w sb 64 (bs rest)) (hhave : Pc w sb 96 [i64 (h : Nat)]) (hsl : SlAt w a (bs l)) (hne : ∀ x, a = some x → x.block ≠ sb) :
    Rtn Try.prog 90 [.pointer (some ⟨sb, 0, none⟩), Value.slice a n c].toArray w (fun _ w' => Pc w' sb 0 (bs (takeF st rest h l).1) ∧ Pc w' sb 64 (bs (takeF st rest h l).2.1) ∧ Pc w' sb 96 [i64 ((takeF st rest h l).2.2 : Nat)] ∧ Chg (rng sb 0 97) w w') := by
  refine fn_body (l := [.pointer (some ⟨sb, 0, none⟩), Value.slice a n c]) 62 [] Try.func90 rfl Try.ntmps90 (Nat.le_of_ble_eq_true rfl) (by rw [Try.results90]) ?_
  refine go_seq ?_
  refine go_seq ?_
  refine go_region 5 rfl rfl ?_
  refine s_val rfl rfl (r_move) rfl ?_
  refine s_val rfl rfl (r_nilCheck rfl) rfl ?_
  refine s_val rfl rfl (r_fieldAddr Try.runUnderlying137 rfl Try.sizeOf3 rfl rfl) rfl ?_
  refine s_val rfl rfl (r_load1 Try.isAgg3 rfl hhave.rd) rfl ?_
  refine s_val rfl rfl (r_gtr rfl rfl) rfl ?_
  refine s_end ?_
  refine go_meet [(1, 1), (4, 4), (10, 43)] (fun e' w' => ∃ (S : List UInt8) (R : List UInt8) (L : List UInt8) (a2 : Option Addr) (n2 : Nat) (c2 : Nat), e' 1 = Value.slice a2 n2 c2 ∧ L.length = n2 ∧ n2 ≤ c2 ∧ S.length = 64 ∧ R.length = 32 ∧ n2 < 4611686018427387904 ∧ takeF st rest h l = tailF S R L ∧ SlAt w a2 (bs L) ∧ (∀ x, a2 = some x → x.block ≠ sb) ∧ Pc w' sb 0 (bs S) ∧ Pc w' sb 64 (bs R) ∧ Pc w' sb 96 [i64 0] ∧ Chg (rng sb 0 97) w w') ?_ ?_
  ·
    refine go_ifb _ rfl (fun h1 => ?_) (fun h1 => ?_)
    · first | replace h1 := of_decide_eq_true h1 | replace h1 := of_decide_eq_false (nt h1) | skip
      have hpl : (putAt rest h (l.take (32 - h))).length = 32 := by rw [putAt_length]; exact hre; rw [List.length_take]; omega
      refine go_seq ?_
      refine go_drawsE 9 (.take 0 (.take 1 (.take 2 (.take 3 (.take 4 (.take 5 (.take 6 (.take 7 (.take 8 (.eff 9 (.eff 10 .done))))))))))) (by kernel_rfl) (by kernel_rfl) fun w3 c_w3 => ?_
      have hs_w3 : w.heap.size ≤ w3.heap.size := Chg.size c_w3
      replace hs := hs.k c_w3
      replace hrest := hrest.k c_w3
      replace hhave := hhave.k c_w3
      have C_w3 := Chg.pure (Chg.refl (rng sb 0 97) w) c_w3
      refine s_takeE rfl rfl (r_move) ?_
      refine s_takeE rfl rfl (r_nilCheck rfl) ?_
      refine s_takeE rfl rfl (r_fieldAddr Try.runUnderlying137 rfl Try.sizeOf24 rfl rfl) ?_
      refine s_takeE rfl rfl (r_move) ?_
      refine s_takeE rfl rfl (r_nilCheck rfl) ?_
      refine s_takeE rfl rfl (r_fieldAddr Try.runUnderlying137 rfl Try.sizeOf3 rfl rfl) ?_
      refine s_takeE rfl rfl (r_load1 Try.isAgg3 rfl hhave.rd) ?_
      refine s_takeE rfl rfl (r_sliceA (l := h) (h := 32) (m := 32) Try.runUnderlying24 Try.sizeOf5 rfl ⟨_, _, rfl, by first | rfl | omega⟩ rfl rfl (by first | decide | (intro h_; cases h_)) (by first | decide | omega) (by first | decide | omega | (intro _; omega)) (by first | decide | omega) (by first | decide | omega)) ?_
      refine s_takeE rfl rfl (r_move) ?_
      refine s_do rfl rfl (w_copy_b (o := 64) (lo := h) Try.underlying22 (by kernel_rfl) rfl rfl hrest (by first | omega | (simp; done) | (simp; omega)) (hsl.kept C_w3 (fun _ _ ha_ _ _ m_ => hne _ ha_ m_.1)) (by first | rfl | omega | (simp; done) | (simp; omega))) rfl ?_
      rintro _ w4 ⟨rfl, q_w4, c_w4⟩
      have hs_w4 : w3.heap.size ≤ w4.heap.size := Chg.size c_w4
      replace hs := hs.ko c_w4 (by first | omega | (simp only [List.length_cons, List.length_nil]; omega) | (rw [bs_length]; omega) | (simp only [List.length_cons, List.length_nil, bs_length]; omega) | (simp [bs_length]; done) | (simp [bs_length]; omega))
      replace hhave := hhave.ko c_w4 (by first | omega | (simp only [List.length_cons, List.length_nil]; omega) | (rw [bs_length]; omega) | (simp only [List.length_cons, List.length_nil, bs_length]; omega) | (simp [bs_length]; done) | (simp [bs_length]; omega))
      have C_w4 := Chg.into C_w3 c_w4 (by intro b' o' _ m; exact ⟨m.1, by have := m.2; omega, by have := m.2; omega⟩)
      have hrest := q_w4
      refine s_val rfl rfl (r_assign) rfl ?_
      refine s_end ?_
      refine go_seq ?_
      refine go_region 9 rfl rfl ?_
      refine s_val rfl rfl (r_move) rfl ?_
      refine s_val rfl rfl (r_nilCheck rfl) rfl ?_
      refine s_val rfl rfl (r_fieldAddr Try.runUnderlying137 rfl Try.sizeOf3 rfl rfl) rfl ?_
      refine s_val rfl rfl (r_load1 Try.isAgg3 rfl hhave.rd) rfl ?_
      refine s_val rfl rfl (r_move) rfl ?_
      refine s_val rfl rfl (r_addi rfl rfl (by omega)) rfl ?_
      refine s_val rfl rfl (r_nilCheck rfl) rfl ?_
      refine s_val rfl rfl (r_fieldAddr Try.runUnderlying137 rfl Try.sizeOf3 rfl rfl) rfl ?_
      refine s_do rfl rfl (w_store1 (o := 96) Try.sizeOf3 rfl rfl rfl rfl hhave) rfl ?_
      rintro _ w5 ⟨q_w5, c_w5⟩
      have hs_w5 : w4.heap.size ≤ w5.heap.size := Chg.size c_w5
      replace hs := hs.ko c_w5 (by first | omega | (simp only [List.length_cons, List.length_nil]; omega) | (rw [bs_length]; omega) | (simp only [List.length_cons, List.length_nil, bs_length]; omega) | (simp [bs_length]; done) | (simp [bs_length]; omega))
      replace hrest := hrest.ko c_w5 (by first | omega | (simp only [List.length_cons, List.length_nil]; omega) | (rw [bs_length]; omega) | (simp only [List.length_cons, List.length_nil, bs_length]; omega) | (simp [bs_length]; done) | (simp [bs_length]; omega))
      have C_w5 := Chg.into C_w4 c_w5 (by intro b' o' _ m; exact ⟨m.1, by have := m.2; omega, by have := m.2; omega⟩)
      have hhave := q_w5
      refine s_end ?_
      refine go_seq ?_
      refine go_region 4 rfl rfl ?_
      refine s_val rfl rfl (r_move) rfl ?_
      refine s_val rfl rfl (r_move) rfl ?_
      have s6 := SlAt.cutB_drop hsl (min n (32 - h)) c (by first | omega | (simp; omega))
      have hne_s6 := cutA_ne (l := (min n (32 - h))) (m := c) (sz := 1) hne
      refine s_val rfl rfl (r_sliceSl (l := (min n (32 - h))) (h := n) (m := c) Try.runUnderlying22 Try.sizeOf5 rfl ⟨_, _, rfl, by first | rfl | omega⟩ rfl rfl (by first | decide | (intro h_; cases h_)) (by first | decide | omega) (by first | decide | omega | (intro _; omega)) (by first | exact Nat.le_refl _ | omega)) rfl ?_
      refine s_val rfl rfl (r_assign) rfl ?_
      refine s_end ?_
      refine go_seq ?_
      refine go_seq ?_
      refine go_region 5 rfl rfl ?_
      refine s_val rfl rfl (r_move) rfl ?_
      refine s_val rfl rfl (r_nilCheck rfl) rfl ?_
      refine s_val rfl rfl (r_fieldAddr Try.runUnderlying137 rfl Try.sizeOf3 rfl rfl) rfl ?_
      refine s_val rfl rfl (r_load1 Try.isAgg3 rfl hhave.rd) rfl ?_
      refine s_val rfl rfl (r_lss rfl rfl) rfl ?_
      refine s_end ?_
      refine go_ifb _ rfl (fun h2 => ?_) (fun h2 => ?_)
      · first | replace h2 := of_decide_eq_true h2 | replace h2 := of_decide_eq_false (nt h2) | skip
        refine go_ret (loop_ret ?_)
        refine ⟨_, .nil, ?_⟩
        have e : takeF st rest h l = (st, putAt rest h (l.take (32 - h)), h + min n (32 - h)) := by rw [takeF, if_pos (by omega), if_pos (by rw [hn]; omega), hn]
        rw [e]; exact ⟨hs, hrest, hhave, C_w5⟩
      · first | replace h2 := of_decide_eq_false h2 | replace h2 := of_decide_eq_true (nf h2) | skip
        refine go_skip ?_
        refine go_seq ?_
        refine go_region 5 rfl rfl ?_
        refine s_val rfl rfl (r_move) rfl ?_
        refine s_val rfl rfl (r_move) rfl ?_
        refine s_val rfl rfl (r_nilCheck rfl) rfl ?_
        refine s_val rfl rfl (r_fieldAddr Try.runUnderlying137 rfl Try.sizeOf24 rfl rfl) rfl ?_
        refine s_do rfl rfl (w_call Try.call93 rfl (blockB_spec _ _ sb _ _ _ (by first | omega | (simp; done) | (simp; omega)) (by first | omega | (simp; done) | (simp; omega)) hs hrest.rd (.inr (by decide)))) rfl ?_
        rintro _ w7 ⟨q_w7, c_w7⟩
        have hs_w7 : w5.heap.size ≤ w7.heap.size := Chg.size c_w7
        replace hrest := hrest.ko c_w7 (by first | omega | (simp only [List.length_cons, List.length_nil]; omega) | (rw [bs_length]; omega) | (simp only [List.length_cons, List.length_nil, bs_length]; omega) | (simp [bs_length]; done) | (simp [bs_length]; omega))
        replace hhave := hhave.ko c_w7 (by first | omega | (simp only [List.length_cons, List.length_nil]; omega) | (rw [bs_length]; omega) | (simp only [List.length_cons, List.length_nil, bs_length]; omega) | (simp [bs_length]; done) | (simp [bs_length]; omega))
        have C_w7 := Chg.into C_w5 c_w7 (by intro b' o' _ m; exact ⟨m.1, by have := m.2; omega, by have := m.2; omega⟩)
        have hs := q_w7
        refine s_end ?_
        refine go_region 4 rfl rfl ?_
        refine s_val rfl rfl (r_move) rfl ?_
        refine s_val rfl rfl (r_nilCheck rfl) rfl ?_
        refine s_val rfl rfl (r_fieldAddr Try.runUnderlying137 rfl Try.sizeOf3 rfl rfl) rfl ?_
        refine s_do rfl rfl (w_store1 (o := 96) Try.sizeOf3 rfl rfl rfl rfl hhave) rfl ?_
        rintro _ w8 ⟨q_w8, c_w8⟩
        have hs_w8 : w7.heap.size ≤ w8.heap.size := Chg.size c_w8
        replace hrest := hrest.ko c_w8 (by first | omega | (simp only [List.length_cons, List.length_nil]; omega) | (rw [bs_length]; omega) | (simp only [List.length_cons, List.length_nil, bs_length]; omega) | (simp [bs_length]; done) | (simp [bs_length]; omega))
        replace hs := hs.ko c_w8 (by first | omega | (simp only [List.length_cons, List.length_nil]; omega) | (rw [bs_length]; omega) | (simp only [List.length_cons, List.length_nil, bs_length]; omega) | (simp [bs_length]; done) | (simp [bs_length]; omega))
        have C_w8 := Chg.into C_w7 c_w8 (by intro b' o' _ m; exact ⟨m.1, by have := m.2; omega, by have := m.2; omega⟩)
        have hhave := q_w8
        refine s_end ?_
        refine go_nil (loop_normal ⟨?_, (by repeat (first | exact same_refl | exact same_over | refine same_upd rfl ?_ | refine same_over2 rfl ?_))⟩)
        exact ⟨_, _, _, _, _, _, rfl, by rw [List.length_drop]; omega, by omega, by simp, by omega, by omega, by rw [takeF, if_pos (by omega), if_neg (by rw [hn]; omega), hn], s6, hne_s6, hs, hrest, hhave, C_w8⟩
    · first | replace h1 := of_decide_eq_false h1 | replace h1 := of_decide_eq_true (nf h1) | skip
      obtain rfl : h = 0 := by omega
      refine go_skip ?_
      refine go_nil (loop_normal ⟨?_, (by repeat (first | exact same_refl | exact same_over | refine same_upd rfl ?_ | refine same_over2 rfl ?_))⟩)
      exact ⟨st, rest, l, a, n, c, rfl, hn, hc, hst, hre, by omega, by rw [takeF, if_neg (by omega)], hsl, hne, hs, hrest, hhave, (Chg.refl (rng sb 0 97) w)⟩
  rintro f2 w1 ⟨S, R, L, a2, n2, c2, e9, hn2, hc2, hS, hR, hbig2, hF, hsl2, hne2, hs, hrest, hhave, C_w1⟩
  obtain ⟨f10, rfl⟩ : ∃ g_, f2 = upd g_ 1 (Value.slice a2 n2 c2) := ⟨f2, upd_id e9⟩
  have hs_w1 : w.heap.size ≤ w1.heap.size := Chg.size C_w1
  refine go_seq ?_
  refine go_block ?_
  refine go_loopM (σ := Nat × Option Addr × Nat × Nat) [(1, 1), (44, 52)] (fun (x_ : Nat × Option Addr × Nat × Nat) e' w' => match x_ with | (k, a3, n3, c3) => e' 1 = Value.slice a3 n3 c3 ∧ n3 + 32 * k = n2 ∧ n3 ≤ c3 ∧ SlAt w a3 (bs (L.drop (32 * k))) ∧ (∀ x, a3 = some x → x.block ≠ sb) ∧ Pc w' sb 0 (bs (absorb S L k)) ∧ Pc w' sb 64 (bs R) ∧ Pc w' sb 96 [i64 0] ∧ Chg (rng sb 0 97) w w') (fun (x_ : Nat × Option Addr × Nat × Nat) => match x_ with | (k, a3, n3, c3) => n3) (0, a2, n2, c2) ?_ ?_
  · exact ⟨rfl, by omega, by omega, hsl2, hne2, hs, hrest, hhave, C_w1⟩
  rintro ⟨k, a3, n3, c3⟩ f12 w11 ⟨e13, hk, hc3, hsl3, hne3, hs, hrest, hhave, C_w11⟩
  obtain ⟨f14, rfl⟩ : ∃ g_, f12 = upd g_ 1 (Value.slice a3 n3 c3) := ⟨f12, upd_id e13⟩
  have hs_w11 : w.heap.size ≤ w11.heap.size := Chg.size C_w11
  have hab := absorb_length S L k hS
  have hlen3 : (L.drop (32 * k)).length = n3 := by rw [List.length_drop]; omega
  refine go_seq ?_
  refine go_seq ?_
  refine go_region 3 rfl rfl ?_
  refine s_val rfl rfl (r_move) rfl ?_
  refine s_val rfl rfl (r_len Try.runUnderlying22 rfl) rfl ?_
  refine s_val rfl rfl (r_geq rfl rfl) rfl ?_
  refine s_end ?_
  refine go_ifb _ rfl (fun h4 => ?_) (fun h4 => ?_)
  · first | replace h4 := of_decide_eq_true h4 | replace h4 := of_decide_eq_false (nt h4) | skip
    obtain ⟨bb, bo, rfl, hrd⟩ := SlAt.pos hsl3 (by intro hx; have := congrArg List.length hx; rw [bs_length] at this; simp at this; omega)
    have hbb := hne3 _ rfl
    have hlt : ((L.drop (32 * k)).take 32).length = 32 := by rw [List.length_take]; omega
    refine go_skip ?_
    refine go_block ?_
    refine go_seq ?_
    refine go_region 4 rfl rfl ?_
    refine s_val rfl rfl (r_move) rfl ?_
    refine s_val rfl rfl (r_move) rfl ?_
    refine s_val rfl rfl (r_toArr Try.runUnderlying24 rfl (by first | decide | omega)) rfl ?_
    refine s_do rfl rfl (w_call Try.call93 rfl (blockB_spec _ _ sb _ _ _ (by first | omega | (simp; done) | (simp; omega)) (by first | omega | (simp; done) | (simp; omega)) hs (Rd.takeB (hrd.kept C_w11 (fun j hj m => hbb m.1)) 32) (.inl (by omega)))) rfl ?_
    rintro _ w15 ⟨q_w15, c_w15⟩
    have hs_w15 : w11.heap.size ≤ w15.heap.size := Chg.size c_w15
    replace hrest := hrest.ko c_w15 (by first | omega | (simp only [List.length_cons, List.length_nil]; omega) | (rw [bs_length]; omega) | (simp only [List.length_cons, List.length_nil, bs_length]; omega) | (simp [bs_length]; done) | (simp [bs_length]; omega))
    replace hhave := hhave.ko c_w15 (by first | omega | (simp only [List.length_cons, List.length_nil]; omega) | (rw [bs_length]; omega) | (simp only [List.length_cons, List.length_nil, bs_length]; omega) | (simp [bs_length]; done) | (simp [bs_length]; omega))
    have C_w15 := Chg.into C_w11 c_w15 (by intro b' o' _ m; exact ⟨m.1, by have := m.2; omega, by have := m.2; omega⟩)
    have hs := q_w15
    refine s_end ?_
    refine go_region 3 rfl rfl ?_
    refine s_val rfl rfl (r_move) rfl ?_
    have s16 := SlAt.cutB_drop hsl3 32 c3 (by first | omega | (simp; omega))
    have hne_s16 := cutA_ne (l := 32) (m := c3) (sz := 1) hne3
    refine s_val rfl rfl (r_sliceSl (l := 32) (h := n3) (m := c3) Try.runUnderlying22 Try.sizeOf5 rfl ⟨_, _, rfl, by first | rfl | omega⟩ rfl rfl (by first | decide | (intro h_; cases h_)) (by first | decide | omega) (by first | decide | omega | (intro _; omega)) (by first | exact Nat.le_refl _ | omega)) rfl ?_
    refine s_val rfl rfl (r_assign) rfl ?_
    refine s_end ?_
    refine go_nil (block_normal ?_)
    refine go_nil (loop_normal ⟨⟨(k + 1, _, n3 - 32, c3 - 32), by first | omega | (dsimp only; omega), ⟨rfl, by omega, by omega, by have := s16; rwa [List.drop_drop] at this, hne_s16, hs, hrest, hhave, C_w15⟩⟩, (by repeat (first | exact same_refl | exact same_over | refine same_upd rfl ?_ | refine same_over2 rfl ?_))⟩)
  · first | replace h4 := of_decide_eq_false h4 | replace h4 := of_decide_eq_true (nf h4) | skip
    have hpl2 : (putAt R 0 ((L.drop (32 * k)).take 32)).length = 32 := by rw [putAt_length _ _ _ (by rw [List.length_take]; omega)]; exact hR
    refine go_exit (loop_exit (block_hit ?_))
    refine go_region 10 rfl rfl ?_
    refine s_val rfl rfl (r_move) rfl ?_
    refine s_val rfl rfl (r_move) rfl ?_
    refine s_val rfl rfl (r_nilCheck rfl) rfl ?_
    refine s_val rfl rfl (r_fieldAddr Try.runUnderlying137 rfl Try.sizeOf24 rfl rfl) rfl ?_
    refine s_val rfl rfl (r_sliceA (l := 0) (h := 32) (m := 32) Try.runUnderlying24 Try.sizeOf5 rfl rfl rfl rfl (by first | decide | (intro h_; cases h_)) (by first | decide | omega) (by first | decide | omega | (intro _; omega)) (by first | decide | omega) (by first | decide | omega)) rfl ?_
    refine s_val rfl rfl (r_move) rfl ?_
    refine s_do rfl rfl (w_copy_b (o := 64) (lo := 0) Try.underlying22 (by kernel_rfl) rfl rfl hrest (by first | omega | (simp; done) | (simp; omega)) (hsl3.kept C_w11 (fun _ _ ha_ _ _ m_ => hne3 _ ha_ m_.1)) (by first | rfl | omega | (simp; done) | (simp; omega))) rfl ?_
    rintro _ w17 ⟨rfl, q_w17, c_w17⟩
    have hs_w17 : w11.heap.size ≤ w17.heap.size := Chg.size c_w17
    replace hs := hs.ko c_w17 (by first | omega | (simp only [List.length_cons, List.length_nil]; omega) | (rw [bs_length]; omega) | (simp only [List.length_cons, List.length_nil, bs_length]; omega) | (simp [bs_length]; done) | (simp [bs_length]; omega))
    replace hhave := hhave.ko c_w17 (by first | omega | (simp only [List.length_cons, List.length_nil]; omega) | (rw [bs_length]; omega) | (simp only [List.length_cons, List.length_nil, bs_length]; omega) | (simp [bs_length]; done) | (simp [bs_length]; omega))
    have C_w17 := Chg.into C_w11 c_w17 (by intro b' o' _ m; exact ⟨m.1, by have := m.2; omega, by have := m.2; omega⟩)
    have hrest := q_w17
    refine s_val rfl rfl (r_nilCheck rfl) rfl ?_
    refine s_val rfl rfl (r_fieldAddr Try.runUnderlying137 rfl Try.sizeOf3 rfl rfl) rfl ?_
    refine s_do rfl rfl (w_store1 (o := 96) Try.sizeOf3 rfl rfl rfl rfl hhave) rfl ?_
    rintro _ w18 ⟨q_w18, c_w18⟩
    have hs_w18 : w17.heap.size ≤ w18.heap.size := Chg.size c_w18
    replace hs := hs.ko c_w18 (by first | omega | (simp only [List.length_cons, List.length_nil]; omega) | (rw [bs_length]; omega) | (simp only [List.length_cons, List.length_nil, bs_length]; omega) | (simp [bs_length]; done) | (simp [bs_length]; omega))
    replace hrest := hrest.ko c_w18 (by first | omega | (simp only [List.length_cons, List.length_nil]; omega) | (rw [bs_length]; omega) | (simp only [List.length_cons, List.length_nil, bs_length]; omega) | (simp [bs_length]; done) | (simp [bs_length]; omega))
    have C_w18 := Chg.into C_w17 c_w18 (by intro b' o' _ m; exact ⟨m.1, by have := m.2; omega, by have := m.2; omega⟩)
    have hhave := q_w18
    refine s_end ?_
    refine go_nil ?_
    refine ⟨_, .nil, ?_⟩
    have e := tailF_eq S R L k n3 (by omega) (by omega)
    rw [hF, e]; exact ⟨hs, hrest, hhave, C_w18⟩

end Go.Proofs.Ytdnccchcflaphaa
