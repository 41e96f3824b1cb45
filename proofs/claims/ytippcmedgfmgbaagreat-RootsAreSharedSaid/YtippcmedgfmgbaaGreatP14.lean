/- YtippcmedgfmgbaaGreatP14: a calculus of walks, plain facts of the numbers that are shared, and contracts of functions of the program: called in any world that meets a contract's premises, a function returns what the contract says and changes no more than it says. -/
import Derived.Test.YtippcmedgfmgbaaGreatP02
import Derived.Test.YtippcmedgfmgbaaGreatP04
import Derived.Test.YtippcmedgfmgbaaGreatP09
import Derived.Test.YtippcmedgfmgbaaGreatP10
import Derived.Test.YtippcmedgfmgbaaGreatP12
import Derived.Test.YtippcmedgfmgbaaGreatP13
import Derived.Test.YtippcmedgfmgbaaGreatChecked
section
open Go Go.Eng Go.Proofs
namespace Go.Proofs.YtippcmedgfmgbaaGreat
set_option maxHeartbeats 1000000 in
theorem appendSeq_spec (tb1 tb2 n c : Nat) (a : Option Addr) (w : World) (hn : n ≤ 1048576) (hc : n ≤ c) (h1 : tb1 < w.heap.size) (h2 : tb2 < w.heap.size) (ht1 : Rd w tb1 0 [Value.slice a n c]) (ht2 : Rd w tb2 0 [i64 1024]) :
    Rtn Tryz.prog 87 [Value.slice none 0 0, Value.func (.func 88) #[] [Value.pointer (some ⟨tb1, 0, none⟩), Value.pointer (some ⟨tb2, 0, none⟩)].toArray].toArray w
      (fun v w' => Owns w' w.heap.size 55 1 v ((n + 1023) / 1024) (chVals (chP a n ((n + 1023) / 1024))) ∧ Kept w w') := by
  unfold Rtn
  refine (callsIn_wide (n := 5)).1 ?_
  refine callsIn_of_wp_marks Tryz.func87 rfl trivial ?_
  have hargs := is_args 13 [Value.slice none 0 0, Value.func (.func 88) #[] [Value.pointer (some ⟨tb1, 0, none⟩), Value.pointer (some ⟨tb2, 0, none⟩)].toArray] (by simp)
  obtain ⟨a0, ha0⟩ : ∃ a0 : Act, a0 = { tmps := [Value.slice none 0 0, Value.func (.func 88) #[] [Value.pointer (some ⟨tb1, 0, none⟩), Value.pointer (some ⟨tb2, 0, none⟩)].toArray].toArray ++ Array.replicate (13 - [Value.slice none 0 0, Value.func (.func 88) #[] [Value.pointer (some ⟨tb1, 0, none⟩), Value.pointer (some ⟨tb2, 0, none⟩)].toArray].toArray.size) undef, defers := [] } := ⟨_, rfl⟩
  rw [← ha0] at hargs
  have hnt : Tryz.f87.ntmps = 13 := Tryz.ntmps87
  rw [hnt, ← ha0]
  refine wpIn_seq ?_
  refine wpIn_region ?_
  refine (show TAt none _ _ _ _ 13 [] [0, 1] _ w from ?_) _ hargs
  refine t_op rfl rfl (by rintro _ ⟨⟩; decide) (fun _ h_ => by cases h_) (w_box1 rfl rfl) ?_
  rintro _ w1 ⟨bx, rfl, hlb, hub, hbx, c1⟩
  refine t_val rfl rfl (by rintro _ ⟨⟩; decide) (fun _ h_ => by cases h_) r_assign ?_
  refine t_end fun a1 ha1 => ?_
  refine wpIn_seq ?_
  refine wpIn_seq ?_
  refine wpIn_region ?_
  refine (show TAt none _ _ _ _ 13 [] [0] _ w1 from ?_) _ ha1
  refine t_val rfl rfl (by rintro _ ⟨⟩; decide) (fun _ h_ => by cases h_) r_move ?_
  refine t_end fun a2 ha2 => ?_
  obtain ⟨t2, d2⟩ := a2
  obtain rfl : d2 = [] := ha2.2
  refine wpIn_block ?_
  have hs1 : w.heap.size ≤ w1.heap.size := Chg.size c1
  have hb1 : RowKit.Below w.heap.size w w1 := Chg.below c1
  -- what stands between two rounds
  let I : List (Option Addr × Nat) → World → Prop := fun pre W => (∃ v, Pc W bx 0 [v] ∧ Owns W w.heap.size 55 1 v pre.length (chVals pre) ∧ some bx ≠ v.ownBlock) ∧ RowKit.Below w.heap.size w W
  have hI : OwnFrom w1.heap.size I := by
    rintro pre W W' row ⟨⟨v, hp, ho, hbo⟩, hb⟩ hg hr
    have hne : some bx ≠ row := fun e => by have := (hr bx e.symm).1; omega
    refine ⟨⟨v, hp.other (hg.block bx (hp.lt (by simp)) hne), ho.grown hg fun r e => (hr r e).2, hbo⟩, ?_⟩
    exact hb.grown hg (by have := hb.size; omega) (fun k e => by have := (hr k e).1; omega)
  have hseq : SeqStopsK Fence.wide (5 - 1) Tryz.prog 88 [Value.pointer (some ⟨tb1, 0, none⟩), Value.pointer (some ⟨tb2, 0, none⟩)].toArray (fun x : Option Addr × Nat => #[Value.slice x.1 x.2 x.2]) (RowKit.Below w.heap.size) (fun xs => xs = chP a n ((n + 1023) / 1024)) (fun _ => True) ((n + 1023) / 1024) w := by
    intro l J Jx W hW hJ _ hY h0
    refine callsIn_wide.2 ?_
    have c2 : Chg (byd w.heap.size) w W := Chg.of_below hW
    have := chunk1_spec (5 - 1) l w.heap.size tb1 tb2 n c a J Jx W hn hc h1 h2 hJ (fun pre x W1 hp hl => hY pre x W1 hp hl) h0 (ht1.kept c2 fun _ _ m => by have : w.heap.size ≤ tb1 := m; omega) (ht2.kept c2 fun _ _ m => by have : w.heap.size ≤ tb2 := m; omega)
    unfold Rtn at this
    refine Calls.mono this ?_
    rintro e w' ⟨v, rfl, h⟩
    refine ⟨⟨v, rfl⟩, ?_⟩
    rcases h with h | ⟨pre, h⟩
    · exact .inl ⟨_, rfl, h⟩
    · exact .inr ⟨pre, trivial, h⟩
  refine wpIn_rangeFunc_ownF rfl (by decide) (by rw [ha2.eval]; rfl) trivial Tryz.call88 hseq (fun h k => h.trans k) ?hKb hb1 (fun _ => rfl) I (fun _ _ _ => False) hI ?hIx ?h0 (fun x => ({ tmps := t2.setIfInBounds 7 (Value.slice x.1 x.2 x.2), defers := [] } : Act).put (some 5) (Value.slice x.1 x.2 x.2)) ?assign ?body ?done ?stop
  case hKb =>
    intro W l o o' hl h ho hw
    exact belowK_b hs1 W l o o' hl h ho hw
  case hIx =>
    intro _ s W W' row h _ _
    exact h.elim
  case h0 => exact ⟨⟨Value.slice none 0 0, hbx, Owns.nil _ _ _ _, by simp [Value.ownBlock]⟩, hb1⟩
  case assign =>
    intro l x W K hK
    have hz := ha2.put (d := some 7) (by rintro _ ⟨⟩; decide) (Value.slice x.1 x.2 x.2)
    have e2 : Array.foldl (fun (t : Array Value) (x : Nat × Value) => t.setIfInBounds x.1 x.2) t2 ((#[7] : Array Nat).zip #[Value.slice x.1 x.2 x.2]) = t2.setIfInBounds 7 (Value.slice x.1 x.2 x.2) := by simp
    show Code.wpIn _ _ _ _ _ { tmps := Array.foldl (fun (t : Array Value) (x : Nat × Value) => t.setIfInBounds x.1 x.2) t2 ((#[7] : Array Nat).zip #[Value.slice x.1 x.2 x.2]), defers := [] } W
    rw [e2]
    refine wpIn_region ?_
    refine (show TAt (some l) _ _ _ _ 13 [] [0] _ W from ?_) _ hz
    refine t_val rfl rfl (by rintro _ ⟨⟩; decide) (fun _ h_ => by cases h_) r_assign ?_
    refine t_end fun a' ha' => ?_
    have he := ha'.unique (hz.put (d := some 5) (by rintro _ ⟨⟩; decide) (Value.slice x.1 x.2 x.2))
    rw [he]
    exact hK
  case body =>
    rintro l pre x W ⟨⟨v, hp, ho, hbo⟩, hb⟩ hlen
    have hz := (ha2.put (d := some 7) (by rintro _ ⟨⟩; decide) (Value.slice x.1 x.2 x.2)).put (d := some 5) (by rintro _ ⟨⟩; decide) (Value.slice x.1 x.2 x.2)
    refine wpIn_block ?_
    refine wpIn_region ?_
    refine (show TAt (some l) _ _ _ _ 13 [] [0, 1, 2, 3, 4] _ W from ?_) _ hz
    refine t_val rfl rfl (by rintro _ ⟨⟩; decide) (fun _ h_ => by cases h_) (r_load1 Tryz.isAgg62 rfl hp.rd) ?_
    refine t_val rfl rfl (by rintro _ ⟨⟩; decide) (fun _ h_ => by cases h_) r_move ?_
    refine t_op rfl rfl (by rintro _ ⟨⟩; decide) (fun _ h_ => by cases h_) (w_build1 (v := Value.slice x.1 x.2 x.2) (E := 55) Tryz.underlying62 (i := Tryz.t55) (by kernel_rfl) rfl rfl rfl rfl rfl) ?_
    rintro _ W1 ⟨bk, rfl, hl1, hu1, -, p1, k1⟩
    have ho1 := ho.k k1
    have hp1 := hp.k k1
    have hne1 := Owns.ne_ge ho hl1
    have hbx1 : bx < W1.heap.size := hp1.lt (by simp)
    have hsz : W.heap.size ≤ W1.heap.size := Chg.size k1
    have hbs := hb.size
    refine t_op rfl rfl (by rintro _ ⟨⟩; decide) (fun _ h_ => by cases h_) (w_appendAt (E := 55) (sz := 1) Tryz.underlying62 rfl (i := Tryz.t55) (by kernel_rfl) rfl rfl rfl rfl (by rfl) ho1 rfl (SlAt.some p1.rd) rfl (flat_one rfl) (by decide) (by omega) (by show _ * 24 ≤ _; omega) (by omega)) ?_
    rintro v2 W2 ⟨ho2, hat, k2⟩
    have hnb : some bx ≠ v.ownBlock := hbo
    have hnb2 : some bx ≠ v2.ownBlock := by
      rcases hat with h | h
      · rw [h]; exact hbo
      · rw [h]; intro h'; cases h'; exact Nat.lt_irrefl _ hbx1
    have hp2 := hp1.kob k2 hnb
    obtain ⟨A2, c2, rfl, -, -, -⟩ := Owns.form ho2
    refine t_op rfl rfl (by rintro _ ⟨⟩) (fun _ h_ => by cases h_) (w_store1 (o := 0) Tryz.sizeOf62 rfl rfl rfl rfl hp2) ?_
    rintro _ W3 ⟨hp3, k3⟩
    refine t_end fun a' _ => ?_
    have ho3 := ho2.kb k3 hnb2
    have hsz2 : W1.heap.size ≤ W2.heap.size := Chg.size k2
    have b1 : RowKit.Below w.heap.size W W1 := below_of k1 hbs (fun _ _ m => m.elim)
    have b2 : RowKit.Below w.heap.size W1 W2 := below_of k2 (by omega) (fun k o' m => by
      rcases Nat.lt_or_ge k w.heap.size with h | h
      · exact absurd m (Owns.ne_lt ho1 h)
      · exact h)
    have b3 : RowKit.Below w.heap.size W2 W3 := below_of k3 (by omega) (fun k o' m => by have := m.1; omega)
    have q1 : KeepsOthers W W1 := keeps_of k1 (fun _ _ m _ => m.elim)
    have q2 : KeepsOthers W1 W2 := keeps_of k2 (fun k o' m _ => ho1.cells k o' m)
    have q3 : KeepsOthers W2 W3 := keeps_of k3 (fun k o' m _ => by have := m.1; subst this; exact cells_of_cell (hp2.1 0 _ rfl))
    refine ⟨(q1.trans q2).trans q3, (b1.trans b2).trans b3, ⟨_, hp3, ?_, hnb2⟩, ((hb.trans b1).trans b2).trans b3⟩
    have : (chVals (pre ++ [x])) = chVals pre ++ [Value.slice x.1 x.2 x.2] := by simp [chVals]
    rw [this, List.length_append]
    exact ho3
  case done =>
    rintro D xs W hD rfl ⟨⟨v, hp, ho, hbo⟩, hb⟩ hdef
    show Code.wpIn _ _ _ (Code.seq _ _) _ _ _
    refine wpIn_seq ?_
    refine wpIn_region ?_
    refine (show TAt none _ _ _ _ 13 [{ target := .collected D, args := #[] }] [0, 1] _ W from ?_) _ ⟨ha2.1, rfl⟩
    refine t_val rfl rfl (by rintro _ ⟨⟩; decide) (fun _ h_ => by cases h_) (r_load1 Tryz.isAgg62 rfl hp.rd) ?_
    refine t_val rfl rfl (by rintro _ ⟨⟩; decide) (fun _ h_ => by cases h_) r_assign ?_
    refine t_end fun a' ha' => ?_
    obtain ⟨t', d'⟩ := a'
    obtain rfl : d' = [{ target := .collected D, args := #[] }] := ha'.2
    refine wpIn_ret ?_
    have hg := grownBy_putObj' W D (.deferred none)
    refine ⟨by simp, .inl ⟨D, _, rfl, run_takeDeferred hdef, ?_⟩⟩
    refine ⟨_, results_run ha'.1.read (rs := [.tmp 4]) (by rw [Tryz.results87]) (.cons rfl .nil), v, rfl, ?_, ?_⟩
    · have := ho.grown hg (fun r e => by cases e; exact ⟨_, hdef, rfl⟩)
      rwa [chP_length] at this
    · exact Chg.of_below0 (hb.grown hg (by have := hb.size; omega) (fun k e => by cases e; omega))
  case stop =>
    rintro D c' pre W _ _ h _
    exact h.elim
end Go.Proofs.YtippcmedgfmgbaaGreat
end
section
open Go Go.Eng Go.Proofs
namespace Go.Proofs.YtippcmedgfmgbaaGreat
theorem chunk_spec (a : Option Addr) (n c : Nat) (w : World) :
  Rtn Tryz.prog 67 [Value.slice a n c, i64 1024].toArray w (fun v w' => ∃ t1 t2, v = .func (.func 88) #[] [Value.pointer (some ⟨t1, 0, none⟩), Value.pointer (some ⟨t2, 0, none⟩)].toArray ∧ t1 < w'.heap.size ∧ t2 < w'.heap.size ∧ Rd w' t1 0 [Value.slice a n c] ∧ Rd w' t2 0 [i64 1024] ∧ Kept w w') := by
 refine fn_body (l := [Value.slice a n c, i64 1024]) 9 [.tmp 4] Tryz.func67 rfl Tryz.ntmps67 (Nat.le_of_ble_eq_true rfl) (by rw [Tryz.results67]) ?_
 refine go_seq ?_
 refine go_region 3 rfl rfl ?_
 refine s_do rfl rfl (w_box1 rfl rfl) rfl ?_
 rintro _ w1 ⟨b2, rfl, hl_b2, hu_b2, p3, c_w1⟩
 have hs_w1 : w.heap.size ≤ w1.heap.size := Chg.size c_w1
 have C_w1 := Chg.pure (Chg.refl no w) c_w1
 have hn_b2 : w.heap.size ≤ b2 := by have := Chg.size C_w1; omega
 refine s_do rfl rfl (w_box1 rfl rfl) rfl ?_
 rintro _ w4 ⟨b5, rfl, hl_b5, hu_b5, p6, c_w4⟩
 have hs_w4 : w1.heap.size ≤ w4.heap.size := Chg.size c_w4
 replace p3 := p3.k c_w4
 have C_w4 := Chg.pure C_w1 c_w4
 have hn_b5 : w.heap.size ≤ b5 := by have := Chg.size C_w4; omega
 refine s_val rfl rfl (r_assign) rfl ?_
 refine s_end ?_
 refine go_seq ?_
 refine go_seq ?_
 refine go_region 2 rfl rfl ?_
 refine s_val rfl rfl (r_load1 Tryz.isAgg3 rfl p6.rd) rfl ?_
 refine s_val rfl rfl (r_lss rfl rfl) rfl ?_
 refine s_end ?_
 refine go_ifb _ rfl (fun h7 => ?_) (fun h7 => ?_)
 ·first | replace h7 := dcT h7 | replace h7 := dcF (nt h7) | skip
  exfalso
  omega
 ·first | replace h7 := dcF h7 | replace h7 := dcT (nf h7) | skip
  refine go_skip ?_
  refine go_seq ?_
  refine go_region 2 rfl rfl ?_
  refine s_val rfl rfl (r_makeFunc rfl) rfl ?_
  refine s_val rfl rfl (r_assign) rfl ?_
  refine s_end ?_
  refine go_ret ?_
  refine ⟨_, .cons rfl (.nil), ?_⟩
  exact ⟨_, _, rfl, by omega, by omega, p3.rd, p6.rd, C_w4⟩
theorem collect_spec (tb1 tb2 n c : Nat) (a : Option Addr) (w : World) (hn : n ≤ 1048576) (hc : n ≤ c) (h1 : tb1 < w.heap.size) (h2 : tb2 < w.heap.size) (ht1 : Rd w tb1 0 [Value.slice a n c]) (ht2 : Rd w tb2 0 [i64 1024]) :
  Rtn Tryz.prog 66 [Value.func (.func 88) #[] [Value.pointer (some ⟨tb1, 0, none⟩), Value.pointer (some ⟨tb2, 0, none⟩)].toArray].toArray w (fun v w' => Owns w' w.heap.size 55 1 v ((n + 1023) / 1024) (chVals (chP a n ((n + 1023) / 1024))) ∧ Kept w w') := by
 refine fn_body (l := [Value.func (.func 88) #[] [Value.pointer (some ⟨tb1, 0, none⟩), Value.pointer (some ⟨tb2, 0, none⟩)].toArray]) 5 [.tmp 2] Tryz.func66 rfl Tryz.ntmps66 (Nat.le_of_ble_eq_true rfl) (by rw [Tryz.results66]) ?_
 refine go_seq ?_
 refine go_region 1 rfl rfl ?_
 refine s_val rfl rfl (r_assign) rfl ?_
 refine s_end ?_
 refine go_seq ?_
 refine go_region 3 rfl rfl ?_
 refine s_val rfl rfl (r_move) rfl ?_
 refine s_do rfl rfl (w_call Tryz.call87 rfl (appendSeq_spec _ _ n c _ _ (by omega) (by omega) (by omega) (by omega) (ht1.k (Chg.refl no w)) (ht2.k (Chg.refl no w)))) rfl ?_
 rintro v5 w1 ⟨o2, c_w1⟩
 have hs_w1 : w.heap.size ≤ w1.heap.size := Chg.size c_w1
 have C_w1 := Chg.pure (Chg.refl no w) c_w1
 have hfo_o2 := Owns.form2 o2
 obtain ⟨A3, cap4, e_o2, hc_cap4⟩ := hfo_o2
 subst e_o2
 refine s_val rfl rfl (r_assign) rfl ?_
 refine s_end ?_
 refine go_ret ?_
 refine ⟨_, .cons rfl (.nil), ?_⟩
 exact ⟨Owns.mono o2 (by omega), C_w1⟩
theorem chunksB_spec (l : List UInt8) (a : Option Addr) (n c : Nat) (w : World) (hn : l.length = n) (h0 : 0 < n) (hbig : n ≤ 1048576) (hc : n ≤ c) (hsl : SlAt w a (bs l)) :
  Rtn Tryz.prog 40 [Value.slice a n c].toArray w (fun v w' => ∃ a' c' vs, v = tup [Value.slice a' (chunksL l).length c', i64 0] ∧ (chunksL l).length ≤ c' ∧ Owns w' w.heap.size 55 1 (Value.slice a' (chunksL l).length c') (chunksL l).length vs ∧ (∀ w0, SlAt w0 a (bs l) → SlsOk w0 vs (chunksL l)) ∧ Kept w w') := by
 refine fn_body (l := [Value.slice a n c]) 13 [.tmp 2, .tmp 3] Tryz.func40 rfl Tryz.ntmps40 (Nat.le_of_ble_eq_true rfl) (by rw [Tryz.results40]) ?_
 refine go_seq ?_
 refine go_region 2 rfl rfl ?_
 refine s_val rfl rfl (r_assign) rfl ?_
 refine s_val rfl rfl (r_assign) rfl ?_
 refine s_end ?_
 refine go_seq ?_
 refine go_seq ?_
 refine go_region 3 rfl rfl ?_
 refine s_val rfl rfl (r_move) rfl ?_
 refine s_val rfl rfl (r_len Tryz.runUnderlying55 rfl) rfl ?_
 refine s_val rfl rfl (r_eql rfl rfl) rfl ?_
 refine s_end ?_
 refine go_ifb _ rfl (fun h1 => ?_) (fun h1 => ?_)
 ·first | replace h1 := dcT h1 | replace h1 := dcF (nt h1) | skip
  exfalso
  omega
 ·first | replace h1 := dcF h1 | replace h1 := dcT (nf h1) | skip
  refine go_skip ?_
  refine go_seq ?_
  refine go_seq ?_
  refine go_region 3 rfl rfl ?_
  refine s_val rfl rfl (r_move) rfl ?_
  refine s_val rfl rfl (r_len Tryz.runUnderlying55 rfl) rfl ?_
  refine s_val rfl rfl (r_gtr rfl rfl) rfl ?_
  refine s_end ?_
  refine go_ifb _ rfl (fun h2 => ?_) (fun h2 => ?_)
  ·first | replace h2 := dcT h2 | replace h2 := dcF (nt h2) | skip
   exfalso
   omega
  ·first | replace h2 := dcF h2 | replace h2 := dcT (nf h2) | skip
   refine go_skip ?_
   refine go_seq ?_
   refine go_region 5 rfl rfl ?_
   refine s_val rfl rfl (r_move) rfl ?_
   refine s_do rfl rfl (w_call Tryz.call67 rfl (chunk_spec _ _ _ _)) rfl ?_
   rintro _ w3 ⟨tb4, tb5, rfl, hu_tb4, hu_tb5, p6, p7, c_w3⟩
   have hs_w3 : w.heap.size ≤ w3.heap.size := Chg.size c_w3
   have C_w3 := Chg.pure (Chg.refl no w) c_w3
   refine s_do rfl rfl (w_call Tryz.call66 rfl (collect_spec _ _ n c _ _ (by omega) (by omega) (by omega) (by omega) p6 p7)) rfl ?_
   rintro v12 w8 ⟨o9, c_w8⟩
   have hs_w8 : w3.heap.size ≤ w8.heap.size := Chg.size c_w8
   replace p6 := p6.k c_w8
   replace p7 := p7.k c_w8
   have C_w8 := Chg.pure C_w3 c_w8
   have hfo_o9 := Owns.form2 o9
   obtain ⟨A10, cap11, e_o9, hc_cap11⟩ := hfo_o9
   subst e_o9
   refine s_val rfl rfl (r_assign) rfl ?_
   refine s_val rfl rfl (r_assign) rfl ?_
   refine s_end ?_
   refine go_ret ?_
   refine ⟨_, .cons rfl (.cons rfl (.nil)), ?_⟩
   have hl2 := (chunksL_len n l hn h0).1
   rw [hl2]
   exact ⟨_, _, _, rfl, hc_cap11, Owns.mono o9 (by omega), fun w0 h_ => chunks_ok hn h0 hc h_, C_w8⟩
end Go.Proofs.YtippcmedgfmgbaaGreat
end
section
open Go Go.Eng Go.Proofs
namespace Go.Proofs.YtippcmedgfmgbaaGreat
theorem rootOf_spec (l : List UInt8) (a : Option Addr) (n c : Nat) (w : World) (hn : l.length = n) (h0 : 0 < n) (hbig : n ≤ 1048576) (hc : n ≤ c) (hsl : SlAt w a (bs l)) :
  Rtn Tryz.prog 19 [Value.slice a n c].toArray w (fun v w' => v = tup [.agg (bs (rootH (hashB 2) ((chunksL l).map (hashB 1)))).toArray, i64 ((chunksL l).length : Nat), i64 0] ∧ Kept w w') := by
 refine fn_body (l := [Value.slice a n c]) 27 [.cell 2 27, .tmp 3, .tmp 4] Tryz.func19 rfl Tryz.ntmps19 (Nat.le_of_ble_eq_true rfl) (by rw [Tryz.results19]) ?_
 refine go_seq ?_
 refine go_region 3 rfl rfl ?_
 refine s_do rfl rfl (w_alloc (bs (List.replicate 32 0)) Tryz.zeroValue27 (by kernel_rfl)) rfl ?_
 rintro _ w1 ⟨b2, rfl, hl_b2, hu_b2, p3, c_w1⟩
 have hs_w1 : w.heap.size ≤ w1.heap.size := Chg.size c_w1
 have C_w1 := Chg.pure (Chg.refl no w) c_w1
 have hn_b2 : w.heap.size ≤ b2 := by have := Chg.size C_w1; omega
 refine s_val rfl rfl (r_assign) rfl ?_
 refine s_val rfl rfl (r_assign) rfl ?_
 refine s_end ?_
 refine go_seq ?_
 refine go_region 7 rfl rfl ?_
 refine s_val rfl rfl (r_move) rfl ?_
 refine s_do rfl rfl (w_call Tryz.call40 rfl (chunksB_spec l _ n _ _ hn (by omega) (by omega) (by omega) (hsl.k C_w1))) rfl ?_
 rintro _ w4 ⟨A6, cap7, vs8, rfl, hc_cap7, o5, hok9, c_w4⟩
 have hs_w4 : w1.heap.size ≤ w4.heap.size := Chg.size c_w4
 replace p3 := p3.k c_w4
 have C_w4 := Chg.pure C_w1 c_w4
 replace hok9 := hok9 w hsl
 have hcl_o5 := (chunksL_len n l hn (by omega)).1
 refine s_val rfl rfl (r_move) rfl ?_
 refine s_val rfl rfl (r_extract rfl rfl) rfl ?_
 refine s_val rfl rfl (r_extract rfl rfl) rfl ?_
 refine s_val rfl rfl (r_assign) rfl ?_
 refine s_val rfl rfl (r_assign) rfl ?_
 refine s_end ?_
 refine go_seq ?_
 refine go_seq ?_
 refine go_region 2 rfl rfl ?_
 refine s_val rfl rfl (r_move) rfl ?_
 refine s_val rfl rfl (r_neq rfl rfl) rfl ?_
 refine s_end ?_
 refine go_ifb _ rfl (fun h10 => ?_) (fun h10 => ?_)
 ·first | replace h10 := dcT h10 | replace h10 := dcF (nt h10) | skip
  exfalso
  omega
 ·first | replace h10 := dcF h10 | replace h10 := dcT (nf h10) | skip
  refine go_skip ?_
  refine go_seq ?_
  refine go_region 9 rfl rfl ?_
  refine s_val rfl rfl (r_move) rfl ?_
  refine s_do rfl rfl (w_call Tryz.call42 rfl (leaves_spec (chunksL l) vs8 _ _ _ _ hok9.1.symm (by omega) (by omega) (fun k => by have := chunksL_small hn (by omega) k; omega) (Owns.sl o5) (hok9.k C_w4))) rfl ?_
  rintro _ w11 ⟨A13, cap14, rfl, hc_cap14, o12, c_w11⟩
  have hs_w11 : w4.heap.size ≤ w11.heap.size := Chg.size c_w11
  replace p3 := p3.k c_w11
  replace o5 := o5.k c_w11
  have C_w11 := Chg.pure C_w4 c_w11
  refine s_do rfl rfl (w_call Tryz.call41 rfl (root_spec ((chunksL l).map (hashB 1)) _ _ _ _ (by first | omega | (simp; try omega)) (by omega) (by omega) (by omega) (map32 (hashB_length 1) _) (Owns.sl o12))) rfl ?_
  rintro _ w15 ⟨rfl, c_w15⟩
  have hs_w15 : w11.heap.size ≤ w15.heap.size := Chg.size c_w15
  replace p3 := p3.k c_w15
  replace o5 := o5.k c_w15
  replace o12 := o12.k c_w15
  have C_w15 := Chg.pure C_w11 c_w15
  have hr_w15 : (rootH (hashB 2) ((chunksL l).map (hashB 1))).length = 32 := rootH_len (hashB_length 2) (map32 (hashB_length 1) _) (by rw [List.length_map]; omega)
  refine s_val rfl rfl (r_move) rfl ?_
  refine s_val rfl rfl (r_extract rfl rfl) rfl ?_
  refine s_val rfl rfl (r_extract rfl rfl) rfl ?_
  refine s_do rfl rfl (w_alloc (bs (List.replicate 32 0)) Tryz.zeroValue27 (by kernel_rfl)) rfl ?_
  rintro _ w16 ⟨b17, rfl, hl_b17, hu_b17, p18, c_w16⟩
  have ne_b17_o5 := Owns.ne_ge o5 hl_b17
  have ne_b17_o12 := Owns.ne_ge o12 hl_b17
  have hs_w16 : w15.heap.size ≤ w16.heap.size := Chg.size c_w16
  replace p3 := p3.k c_w16
  replace o5 := o5.k c_w16
  replace o12 := o12.k c_w16
  have C_w16 := Chg.pure C_w15 c_w16
  have hn_b17 : w.heap.size ≤ b17 := by have := Chg.size C_w16; omega
  refine s_do rfl rfl (w_storeA (o := 0) Tryz.sizeOf27 rfl rfl (bs_len (by first | omega | (simp; try omega))) (flat_bs _) p18 (bs_len (by first | omega | (simp; try omega)))) rfl ?_
  rintro _ w19 ⟨q_w19, c_w19⟩
  have hs_w19 : w16.heap.size ≤ w19.heap.size := Chg.size c_w19
  replace p3 := p3.kb c_w19 (by omega)
  replace o5 := o5.kb c_w19 ne_b17_o5
  replace o12 := o12.kb c_w19 ne_b17_o12
  have C_w19 := Chg.newRng C_w16 c_w19 (by omega)
  have p18 := q_w19
  refine s_val rfl rfl (r_assign) rfl ?_
  refine s_end ?_
  refine go_seq ?_
  refine go_region 7 rfl rfl ?_
  refine s_val rfl rfl (r_loadN Tryz.isAgg27 Tryz.sizeOf27 rfl p18.rd (bs_len (by first | omega | (simp; try omega)))) rfl ?_
  refine s_val rfl rfl (r_move) rfl ?_
  refine s_val rfl rfl (r_len Tryz.runUnderlying62 rfl) rfl ?_
  refine s_val rfl rfl (r_move) rfl ?_
  refine s_do rfl rfl (w_storeA (o := 0) Tryz.sizeOf27 rfl rfl (bs_len (by first | omega | (simp; try omega))) (flat_bs _) p3 (bs_len (by first | omega | (simp; try omega)))) rfl ?_
  rintro _ w20 ⟨q_w20, c_w20⟩
  have hs_w20 : w19.heap.size ≤ w20.heap.size := Chg.size c_w20
  replace o5 := o5.kb c_w20 (Owns.ne_lt o5 (by omega))
  replace o12 := o12.kb c_w20 (Owns.ne_lt o12 (by omega))
  replace p18 := p18.kb c_w20 (by omega)
  have C_w20 := Chg.newRng C_w19 c_w20 (by omega)
  have p3 := q_w20
  refine s_val rfl rfl (r_assign) rfl ?_
  refine s_val rfl rfl (r_assign) rfl ?_
  refine s_end ?_
  refine go_ret ?_
  refine ⟨_, .cons ⟨_, rfl, run_load_agg Tryz.isAgg27 Tryz.sizeOf27 (bs_len (by first | omega | (simp; try omega))) p3.rd⟩ (.cons rfl (.cons rfl (.nil))), ?_⟩
  exact ⟨rfl, C_w20⟩
theorem vaults_spec (w : World) :
  Rtn Tryz.prog 6 [].toArray w (fun v w' => v = .bool true ∧ Kept w w') := by
 have hcl := (chunksL_len 1025 (List.replicate 1025 0) List.length_replicate (by decide)).1
 have hr_ := rootH_len (hashB_length 2) (map32 (hashB_length 1) (chunksL (List.replicate 1025 0))) (by rw [List.length_map]; omega)
 refine fn_body (l := []) 16 [.tmp 0] Tryz.func6 rfl Tryz.ntmps6 (Nat.le_of_ble_eq_true rfl) (by rw [Tryz.results6]) ?_
 refine go_seq ?_
 refine go_region 1 rfl rfl ?_
 refine s_val rfl rfl (r_assign) rfl ?_
 refine s_end ?_
 refine go_seq ?_
 refine go_region 10 rfl rfl ?_
 refine s_do rfl rfl (w_make (n := 1025) (c := 1025) (E := 5) Tryz.underlying55 (i := Tryz.t5) (by kernel_rfl) rfl rfl rfl rfl rfl (by first | rfl | omega) (by first | rfl | omega) (by omega) (by first | decide | (show _ * 1 ≤ _; omega) | (show _ * 8 ≤ _; omega)) (by omega)) rfl ?_
 rintro _ w1 ⟨b2, rfl, hl_b2, hu_b2, o4, p3, c_w1⟩
 have hs_w1 : w.heap.size ≤ w1.heap.size := Chg.size c_w1
 have C_w1 := Chg.pure (Chg.refl no w) c_w1
 have hn_b2 : w.heap.size ≤ b2 := by have := Chg.size C_w1; omega
 replace p3 : Pc w1 b2 0 (bs (List.replicate 1025 0)) := by rw [bs_rep]; exact p3
 refine s_do rfl rfl (w_call Tryz.call19 rfl (rootOf_spec (List.replicate 1025 0) _ _ _ _ (by first | exact List.length_replicate | omega) (by omega) (by omega) (by omega) (SlAt.some p3.rd))) rfl ?_
 rintro _ w5 ⟨rfl, c_w5⟩
 have hs_w5 : w1.heap.size ≤ w5.heap.size := Chg.size c_w5
 replace p3 := p3.k c_w5
 have C_w5 := Chg.pure C_w1 c_w5
 refine s_val rfl rfl (r_move) rfl ?_
 refine s_val rfl rfl (r_extract rfl rfl) rfl ?_
 refine s_val rfl rfl (r_extract rfl rfl) rfl ?_
 refine s_val rfl rfl (r_extract rfl rfl) rfl ?_
 refine s_do rfl rfl (w_alloc (bs (List.replicate 32 0)) Tryz.zeroValue27 (by kernel_rfl)) rfl ?_
 rintro _ w6 ⟨b7, rfl, hl_b7, hu_b7, p8, c_w6⟩
 have hs_w6 : w5.heap.size ≤ w6.heap.size := Chg.size c_w6
 replace p3 := p3.k c_w6
 have C_w6 := Chg.pure C_w5 c_w6
 have hn_b7 : w.heap.size ≤ b7 := by have := Chg.size C_w6; omega
 refine s_do rfl rfl (w_storeA (o := 0) Tryz.sizeOf27 rfl rfl (bs_len (by first | omega | (simp; try omega))) (flat_bs _) p8 (bs_len (by first | omega | (simp; try omega)))) rfl ?_
 rintro _ w9 ⟨q_w9, c_w9⟩
 have hs_w9 : w6.heap.size ≤ w9.heap.size := Chg.size c_w9
 replace p3 := p3.kb c_w9 (by omega)
 have C_w9 := Chg.newRng C_w6 c_w9 (by omega)
 have p8 := q_w9
 refine s_val rfl rfl (r_assign) rfl ?_
 refine s_val rfl rfl (r_assign) rfl ?_
 refine s_end ?_
 refine go_seq ?_
 refine go_region 7 rfl rfl ?_
 refine s_val rfl rfl (r_move) rfl ?_
 refine s_val rfl rfl (r_eql rfl rfl) rfl ?_
 refine s_valB rfl rfl (r_move) rfl (fun h10 => ?_) (fun h10 => ?_)
 ·first | replace h10 := dcT h10 | replace h10 := dcF (nt h10) | skip
  have h1 := h10
  refine s_val_g rfl rfl (r_move) rfl ?_
  refine s_val_g rfl rfl (r_eql rfl rfl) rfl ?_
  refine s_val rfl rfl (r_pick true rfl) rfl ?_
  refine s_val rfl rfl (r_assign) rfl ?_
  refine s_end ?_
  refine go_ret ?_
  refine ⟨_, .cons rfl (.nil), ?_⟩
  exact ⟨congrArg Value.bool (decide_eq_true (by omega)), C_w9⟩
 ·first | replace h10 := dcF h10 | replace h10 := dcT (nf h10) | skip
  exfalso
  omega
end Go.Proofs.YtippcmedgfmgbaaGreat
end
section
open Go Go.Eng Go.Proofs
namespace Go.Proofs.YtippcmedgfmgbaaGreat
theorem at_shr (S : List Shr) (o : Nat) (ax ay : Option Addr) (n cx cy : Nat) (q : F) (w : World) (hn : S.length = n) (hb : n ≤ 64) (hnd : (S.map (·.x)).Nodup) (hsx : SlAt w ax (fs (S.map (·.x)))) (hsy : SlAt w ay (fs (S.map fun s => s.y.getD o 0))) :
    Rtn Tryz.prog 56 [Value.slice ax n cx, Value.slice ay n cy, fi q].toArray w (fun v w' => v = fi (lagOf S o q) ∧ Kept w w') := by
  have := at_spec (S.map (·.x)) (S.map fun s => s.y.getD o 0) ax ay n cx cy q w (by rw [List.length_map]; exact hn) (by rw [List.length_map]; exact hn) (by omega) hnd hsx hsy
  rw [List.length_map] at this
  exact this
set_option maxHeartbeats 2000000 in
set_option maxRecDepth 100000 in
theorem liesR_spec (S : List Shr) (a : Option Addr) (n c : Nat) (s : Shr) (w : World) (hn : S.length = n) (hb : n ≤ 64) (hS : AllS S) (hxn : (S.map (·.x)).Nodup) (hsl : SlAt w a (scells S)) (hs : SOk s) :
  Rtn Tryz.prog 28 [Value.slice a n c, Value.agg (scell s).toArray].toArray w (fun v w' => v = .bool (liesR S s) ∧ Kept w w') := by
 have hsy := hs.2
 refine fn_body (l := [Value.slice a n c, Value.agg (scell s).toArray]) 29 [.tmp 4] Tryz.func28 rfl Tryz.ntmps28 (Nat.le_of_ble_eq_true rfl) (by rw [Tryz.results28]) ?_
 refine go_seq ?_
 refine go_region 2 rfl rfl ?_
 refine s_do rfl rfl (w_boxA rfl) rfl ?_
 rintro _ w1 ⟨b2, rfl, hl_b2, hu_b2, p3, c_w1⟩
 have hs_w1 : w.heap.size ≤ w1.heap.size := Chg.size c_w1
 have C_w1 := Chg.pure (Chg.refl no w) c_w1
 have hn_b2 : w.heap.size ≤ b2 := by have := Chg.size C_w1; omega
 have p4 : Pc w1 b2 0 (bs s.h) := Pc.shrH p3
 have hlH_p4 : (s.h).length = 16 := hs.1
 have p5 : Pc w1 b2 16 [fi s.x] := Pc.shrX p3 hs
 have p6 : Pc w1 b2 17 (us s.y) := Pc.shrY p3 hs
 have hlY_p6 : (s.y).length = 32 := hs.2
 clear p3
 refine s_val rfl rfl (r_assign) rfl ?_
 refine s_end ?_
 refine go_seq ?_
 refine go_seq ?_
 refine go_region 1 rfl rfl ?_
 refine s_val rfl rfl (r_move) rfl ?_
 refine s_end ?_
 refine go_block ?_
 refine go_loopM (σ := Nat) [(4, 28)] (fun (k : Nat) e' w' => e' 8 = i64 (k : Nat) ∧ k ≤ 32 ∧ (∀ o, o < k → lagOf S o s.x = s.y.getD o 0) ∧ Pc w' b2 16 [fi s.x] ∧ Pc w' b2 17 (us s.y) ∧ b2 < w'.heap.size ∧ Chg no w w') (fun (k : Nat) => 32 - k) 0 ?_ ?_
 ·exact ⟨rfl, by omega, (fun o h_ => absurd h_ (Nat.not_lt_zero o)), p5, p6, by omega, C_w1⟩
 rintro k f8 w7 ⟨e9, hk, hz, pX, pY, hu3, C_w7⟩
 have ob_11 : ∃ g_, f8 = upd g_ 8 (i64 (k : Nat)) := ⟨f8, upd_id e9⟩
 obtain ⟨f10, rfl⟩ := ob_11
 clear e9
 have hs_w7 : w.heap.size ≤ w7.heap.size := Chg.size C_w7
 refine go_seq ?_
 refine go_region 1 rfl rfl ?_
 refine s_val rfl rfl (r_lss rfl rfl) rfl ?_
 refine s_end ?_
 refine go_seq ?_
 refine go_ifb _ rfl (fun h1 => ?_) (fun h1 => ?_)
 ·first | replace h1 := dcT h1 | replace h1 := dcF (nt h1) | skip
  refine go_skip ?_
  refine go_seq ?_
  refine go_block ?_
  refine go_seq ?_
  refine go_region 2 rfl rfl ?_
  refine s_val rfl rfl (r_move) rfl ?_
  refine s_val rfl rfl (r_assign) rfl ?_
  refine s_end ?_
  refine go_seq ?_
  refine go_region 8 rfl rfl ?_
  refine s_val rfl rfl (r_move) rfl ?_
  refine s_val rfl rfl (r_move) rfl ?_
  refine s_do rfl rfl (w_call Tryz.call55 rfl (places_spec S _ _ _ k _ hn (by omega) (by omega) hS (hsl.k C_w7))) rfl ?_
  rintro _ w12 ⟨aX, cX, aY, cY, rfl, hcX, hcY, hqX, hqY, hX, hY, c_w12⟩
  have hs_w12 : w7.heap.size ≤ w12.heap.size := Chg.size c_w12
  replace pX := pX.k c_w12
  replace pY := pY.k c_w12
  have C_w12 := Chg.pure C_w7 c_w12
  refine s_val rfl rfl (r_move) rfl ?_
  refine s_val rfl rfl (r_extract rfl rfl) rfl ?_
  refine s_val rfl rfl (r_extract rfl rfl) rfl ?_
  refine s_val rfl rfl (r_assign) rfl ?_
  refine s_val rfl rfl (r_assign) rfl ?_
  refine s_end ?_
  refine go_seq ?_
  refine go_drawsK 10 (.take 0 (.take 1 (.take 2 (.take 3 (.take 5 (.take 6 (.take 7 (.take 8 (.take 9 (.eff 4 (.eff 10 .done))))))))))) (by kernel_rfl) (by kernel_rfl) fun w13 c_w13 => ?_
  have hs_w13 : w12.heap.size ≤ w13.heap.size := Chg.size c_w13
  replace pX := pX.k c_w13
  replace pY := pY.k c_w13
  replace hX := hX.k c_w13
  replace hY := hY.k c_w13
  have C_w13 := Chg.pure C_w12 c_w13
  have pX_0 := pX
  have pY_0 := pY
  have hX_0 := hX
  have hY_0 := hY
  refine s_takeK rfl rfl (w0 := w13) (fun x_ c_ => r_move) ?_
  refine s_takeK rfl rfl (w0 := w13) (fun x_ c_ => r_move) ?_
  refine s_takeK rfl rfl (w0 := w13) (fun x_ c_ => r_fieldAddr Tryz.runUnderlying40 rfl Tryz.sizeOf3 rfl rfl) ?_
  refine s_takeK rfl rfl (w0 := w13) (fun x_ c_ => r_load1 Tryz.isAgg3 rfl (pX_0.k c_).rd) ?_
  refine s_takeK rfl rfl (w0 := w13) (fun x_ c_ => r_move) ?_
  refine s_takeK rfl rfl (w0 := w13) (fun x_ c_ => r_fieldAddr Tryz.runUnderlying40 rfl Tryz.sizeOf38 rfl rfl) ?_
  refine s_takeK rfl rfl (w0 := w13) (fun x_ c_ => r_indexArr (k := k) Tryz.runUnderlying38 Tryz.sizeOf25 rfl rfl (by first | rfl | omega) (by first | decide | omega)) ?_
  refine s_takeK rfl rfl (w0 := w13) (fun x_ c_ => r_load1 Tryz.isAgg25 rfl (Rd.at1 (pY_0.k c_).rd (us_get (by first | omega | (simp; try omega))))) ?_
  refine s_takeK rfl rfl (w0 := w13) (fun x_ c_ => r_conv_F Tryz.runUnderlying25 Tryz.runUnderlying3 rfl) ?_
  refine s_fxK rfl rfl (w_call Tryz.call56 rfl (at_shr S k _ _ _ _ _ s.x _ hn (by omega) hxn hX hY)) ?_
  rintro _ w14 ⟨rfl, c_w14⟩
  have hs_w14 : w13.heap.size ≤ w14.heap.size := Chg.size c_w14
  replace pX := pX.k c_w14
  replace pY := pY.k c_w14
  replace hX := hX.k c_w14
  replace hY := hY.k c_w14
  have C_w14 := Chg.pure C_w13 c_w14
  have K_w14 := Chg.pure (Chg.refl no w13) c_w14
  refine ⟨K_w14, ?_⟩
  refine s_val rfl rfl (r_neq rfl rfl) rfl ?_
  refine s_end ?_
  refine go_ifb _ rfl (fun h2 => ?_) (fun h2 => ?_)
  ·first | replace h2 := dcT h2 | replace h2 := dcF (nt h2) | skip
   refine go_seq ?_
   refine go_region 1 rfl rfl ?_
   refine s_val rfl rfl (r_assign) rfl ?_
   refine s_end ?_
   refine go_ret (block_ret (loop_ret (block_ret ?_)))
   refine ⟨_, .cons rfl (.nil), ?_⟩
   exact ⟨congrArg Value.bool (liesR_false (k := k) (by omega) (fun e_ => h2 (by rw [e_]))).symm, C_w14⟩
  ·first | replace h2 := dcF h2 | replace h2 := dcT (nf h2) | skip
   refine go_skip ?_
   refine go_nil (block_normal ?_)
   refine go_region 2 rfl rfl ?_
   refine s_val rfl rfl (r_addi rfl rfl (by omega)) rfl ?_
   refine s_val rfl rfl (r_move) rfl ?_
   refine s_end ?_
   refine go_nil (loop_normal ⟨⟨(k + 1), by first | omega | (dsimp only; omega), ⟨rfl, by omega, lt_step hz (f_ext (by omega)), pX, pY, by omega, C_w14⟩⟩, (by repeat (first | exact same_refl | exact same_over | refine same_upd rfl ?_ | refine same_over2 rfl ?_))⟩)
 ·first | replace h1 := dcF h1 | replace h1 := dcT (nf h1) | skip
  have hzz : ∀ o, o < 32 → lagOf S o s.x = s.y.getD o 0 := fun o h_ => hz o (by omega)
  refine go_exit (loop_exit (block_hit ?_))
  refine go_seq ?_
  refine go_region 1 rfl rfl ?_
  refine s_val rfl rfl (r_assign) rfl ?_
  refine s_end ?_
  refine go_ret ?_
  refine ⟨_, .cons rfl (.nil), ?_⟩
  exact ⟨congrArg Value.bool (liesR_true hzz).symm, C_w7⟩
set_option maxHeartbeats 2000000 in
set_option maxRecDepth 100000 in
theorem secretOf_spec (S : List Shr) (a : Option Addr) (n c : Nat) (w : World) (hn : S.length = n) (hb : n ≤ 64) (hS : AllS S) (hxn : (S.map (·.x)).Nodup) (hsl : SlAt w a (scells S)) :
  Rtn Tryz.prog 30 [Value.slice a n c].toArray w (fun v w' => (∀ r, secretF S = some r → v = tup [.agg (bs r).toArray, .bool true]) ∧ (secretF S = none → v = tup [.agg (bs (List.replicate 32 0)).toArray, .bool false]) ∧ Kept w w') := by
 refine fn_body (l := [Value.slice a n c]) 30 [.cell 2 23, .tmp 3] Tryz.func30 rfl Tryz.ntmps30 (Nat.le_of_ble_eq_true rfl) (by rw [Tryz.results30]) ?_
 refine go_seq ?_
 refine go_region 2 rfl rfl ?_
 refine s_do rfl rfl (w_alloc (bs (List.replicate 32 0)) Tryz.zeroValue23 (by kernel_rfl)) rfl ?_
 rintro _ w1 ⟨b2, rfl, hl_b2, hu_b2, p3, c_w1⟩
 have hs_w1 : w.heap.size ≤ w1.heap.size := Chg.size c_w1
 have C_w1 := Chg.pure (Chg.refl no w) c_w1
 have hn_b2 : w.heap.size ≤ b2 := by have := Chg.size C_w1; omega
 refine s_val rfl rfl (r_assign) rfl ?_
 refine s_end ?_
 refine go_seq ?_
 refine go_region 1 rfl rfl ?_
 refine s_do rfl rfl (w_alloc (bs (List.replicate 32 0)) Tryz.zeroValue23 (by kernel_rfl)) rfl ?_
 rintro _ w4 ⟨b5, rfl, hl_b5, hu_b5, p6, c_w4⟩
 have hs_w4 : w1.heap.size ≤ w4.heap.size := Chg.size c_w4
 replace p3 := p3.k c_w4
 have C_w4 := Chg.pure C_w1 c_w4
 have hn_b5 : w.heap.size ≤ b5 := by have := Chg.size C_w4; omega
 refine s_end ?_
 refine go_seq ?_
 refine go_seq ?_
 refine go_region 1 rfl rfl ?_
 refine s_val rfl rfl (r_move) rfl ?_
 refine s_end ?_
 refine go_block ?_
 refine go_loopM (σ := Nat) [(3, 3), (5, 28)] (fun (k : Nat) e' w' => e' 9 = i64 (k : Nat) ∧ k ≤ 32 ∧ (∀ o, o < k → ¬ 255 < (lagOf S o 0).val) ∧ Pc w' b2 0 (bs (List.replicate 32 0)) ∧ b2 < w'.heap.size ∧ Pc w' b5 0 (bs (secTo S k)) ∧ b5 < w'.heap.size ∧ Chg no w w') (fun (k : Nat) => 32 - k) 0 ?_ ?_
 ·exact ⟨rfl, by omega, (fun o h_ => absurd h_ (Nat.not_lt_zero o)), p3, by omega, p6, by omega, C_w4⟩
 rintro k f8 w7 ⟨e9, hk, hz, p3, hu_b2, p6, hu_b5, C_w7⟩
 have ob_11 : ∃ g_, f8 = upd g_ 9 (i64 (k : Nat)) := ⟨f8, upd_id e9⟩
 obtain ⟨f10, rfl⟩ := ob_11
 clear e9
 have hs_w7 : w.heap.size ≤ w7.heap.size := Chg.size C_w7
 have hsl_ := secTo_length S k
 refine go_seq ?_
 refine go_region 1 rfl rfl ?_
 refine s_val rfl rfl (r_lss rfl rfl) rfl ?_
 refine s_end ?_
 refine go_seq ?_
 refine go_ifb _ rfl (fun h1 => ?_) (fun h1 => ?_)
 ·first | replace h1 := dcT h1 | replace h1 := dcF (nt h1) | skip
  refine go_skip ?_
  refine go_seq ?_
  refine go_block ?_
  refine go_seq ?_
  refine go_region 2 rfl rfl ?_
  refine s_val rfl rfl (r_move) rfl ?_
  refine s_val rfl rfl (r_assign) rfl ?_
  refine s_end ?_
  refine go_seq ?_
  refine go_region 8 rfl rfl ?_
  refine s_val rfl rfl (r_move) rfl ?_
  refine s_val rfl rfl (r_move) rfl ?_
  refine s_do rfl rfl (w_call Tryz.call55 rfl (places_spec S _ _ _ k _ hn (by omega) (by omega) hS (hsl.k C_w7))) rfl ?_
  rintro _ w12 ⟨aX, cX, aY, cY, rfl, hcX, hcY, hqX, hqY, hX, hY, c_w12⟩
  have hs_w12 : w7.heap.size ≤ w12.heap.size := Chg.size c_w12
  replace p3 := p3.k c_w12
  replace p6 := p6.k c_w12
  have C_w12 := Chg.pure C_w7 c_w12
  refine s_val rfl rfl (r_move) rfl ?_
  refine s_val rfl rfl (r_extract rfl rfl) rfl ?_
  refine s_val rfl rfl (r_extract rfl rfl) rfl ?_
  refine s_val rfl rfl (r_assign) rfl ?_
  refine s_val rfl rfl (r_assign) rfl ?_
  refine s_end ?_
  refine go_seq ?_
  refine go_region 4 rfl rfl ?_
  refine s_val rfl rfl (r_move) rfl ?_
  refine s_val rfl rfl (r_move) rfl ?_
  refine s_do rfl rfl (w_call Tryz.call56 rfl (at_shr S k _ _ _ _ _ (0 : F) _ hn (by omega) hxn hX hY)) rfl ?_
  rintro _ w13 ⟨rfl, c_w13⟩
  have hs_w13 : w12.heap.size ≤ w13.heap.size := Chg.size c_w13
  replace p3 := p3.k c_w13
  replace p6 := p6.k c_w13
  have C_w13 := Chg.pure C_w12 c_w13
  refine s_val rfl rfl (r_assign) rfl ?_
  refine s_end ?_
  refine go_seq ?_
  refine go_seq ?_
  refine go_region 2 rfl rfl ?_
  refine s_val rfl rfl (r_move) rfl ?_
  refine s_val rfl rfl (r_gtr rfl rfl) rfl ?_
  refine s_end ?_
  refine go_ifb _ rfl (fun h2 => ?_) (fun h2 => ?_)
  ·first | replace h2 := dcT h2 | replace h2 := dcF (nt h2) | skip
   refine go_seq ?_
   refine go_region 3 rfl rfl ?_
   refine s_val rfl rfl (r_buildA Tryz.zeroValue23 Tryz.runUnderlying23 Tryz.sizeOf5 (cs := bs (List.replicate 32 0)) (by kernel_rfl)) rfl ?_
   refine s_do rfl rfl (w_storeA (o := 0) Tryz.sizeOf23 rfl rfl (bs_len (by first | omega | (simp; try omega))) (flat_bs _) p3 (bs_len (by first | omega | (simp; try omega)))) rfl ?_
   rintro _ w14 ⟨q_w14, c_w14⟩
   have hs_w14 : w13.heap.size ≤ w14.heap.size := Chg.size c_w14
   replace p6 := p6.kb c_w14 (by omega)
   have C_w14 := Chg.newRng C_w13 c_w14 (by omega)
   have p3 := q_w14
   refine s_val rfl rfl (r_assign) rfl ?_
   refine s_end ?_
   refine go_ret (block_ret (loop_ret (block_ret ?_)))
   refine ⟨_, .cons ⟨_, rfl, run_load_agg Tryz.isAgg23 Tryz.sizeOf23 (bs_len (by first | omega | (simp; try omega))) p3.rd⟩ (.cons rfl (.nil)), ?_⟩
   have hm_ := secretF_none (X := S) (k := k) (by omega) (by omega)
   exact ⟨fun r_ h_ => (Option.some_ne_none _ (h_.symm.trans hm_)).elim, fun _ => rfl, C_w14⟩
  ·first | replace h2 := dcF h2 | replace h2 := dcT (nf h2) | skip
   refine go_skip ?_
   refine go_region 5 rfl rfl ?_
   refine s_val rfl rfl (r_move) rfl ?_
   refine s_val rfl rfl (r_move) rfl ?_
   refine s_val rfl rfl (r_conv_u8 Tryz.runUnderlying3 Tryz.runUnderlying5 rfl) rfl ?_
   refine s_val rfl rfl (r_indexArr (k := k) Tryz.runUnderlying23 Tryz.sizeOf5 rfl rfl (by first | rfl | omega) (by first | decide | omega)) rfl ?_
   refine s_do rfl rfl (w_set_b (o := 0) (k := k) Tryz.sizeOf5 rfl rfl p6 (by first | omega | (simp; try omega))) rfl ?_
   rintro _ w15 ⟨q_w15, c_w15⟩
   have hs_w15 : w13.heap.size ≤ w15.heap.size := Chg.size c_w15
   replace p3 := p3.kb c_w15 (by omega)
   have C_w15 := Chg.newRng C_w13 c_w15 (by omega)
   have p6 := q_w15
   refine s_end ?_
   refine go_nil (block_normal ?_)
   refine go_region 2 rfl rfl ?_
   refine s_val rfl rfl (r_addi rfl rfl (by omega)) rfl ?_
   refine s_val rfl rfl (r_move) rfl ?_
   refine s_end ?_
   refine go_nil (loop_normal ⟨⟨(k + 1), by first | omega | (dsimp only; omega), ⟨rfl, by omega, lt_step hz (by omega), p3, by omega, p6, by omega, C_w15⟩⟩, (by repeat (first | exact same_refl | exact same_over | refine same_upd rfl ?_ | refine same_over2 rfl ?_))⟩)
 ·first | replace h1 := dcF h1 | replace h1 := dcT (nf h1) | skip
  have ob_16 : k = 32 := by omega
  obtain rfl := ob_16
  refine go_exit (loop_exit (block_hit ?_))
  refine go_seq ?_
  refine go_region 3 rfl rfl ?_
  refine s_val rfl rfl (r_loadN Tryz.isAgg23 Tryz.sizeOf23 rfl p6.rd (bs_len (by first | omega | (simp; try omega)))) rfl ?_
  refine s_do rfl rfl (w_storeA (o := 0) Tryz.sizeOf23 rfl rfl (bs_len (by first | omega | (simp; try omega))) (flat_bs _) p3 (bs_len (by first | omega | (simp; try omega)))) rfl ?_
  rintro _ w17 ⟨q_w17, c_w17⟩
  have hs_w17 : w7.heap.size ≤ w17.heap.size := Chg.size c_w17
  replace p6 := p6.kb c_w17 (by omega)
  have C_w17 := Chg.newRng C_w7 c_w17 (by omega)
  have p3 := q_w17
  refine s_val rfl rfl (r_assign) rfl ?_
  refine s_end ?_
  refine go_ret ?_
  refine ⟨_, .cons ⟨_, rfl, run_load_agg Tryz.isAgg23 Tryz.sizeOf23 (bs_len (by first | omega | (simp; try omega))) p3.rd⟩ (.cons rfl (.nil)), ?_⟩
  have hm_ := secretF_some hz
  exact ⟨fun r_ h_ => congrArg (fun q_ => tup [Value.agg (bs q_).toArray, Value.bool true]) (Option.some.inj (hm_.symm.trans h_)), fun h_ => (Option.some_ne_none _ (hm_.symm.trans h_)).elim, C_w17⟩
theorem cloneS_spec (S : List Shr) (a : Option Addr) (n c : Nat) (w : World) (hn : S.length = n) (hb : n ≤ 64) (hS : AllS S) (hsl : SlAt w a (scells S)) :
  Rtn Tryz.prog 29 [Value.slice a n c].toArray w (fun v w' => Owns w' w.heap.size 40 49 v n (scells S) ∧ Kept w w') := by
 refine fn_body (l := [Value.slice a n c]) 8 [.tmp 2] Tryz.func29 rfl Tryz.ntmps29 (Nat.le_of_ble_eq_true rfl) (by rw [Tryz.results29]) ?_
 refine go_seq ?_
 refine go_region 1 rfl rfl ?_
 refine s_val rfl rfl (r_assign) rfl ?_
 refine s_end ?_
 refine go_seq ?_
 refine go_seq ?_
 refine go_region 2 rfl rfl ?_
 refine s_val rfl rfl (r_move) rfl ?_
 refine s_val rfl rfl (r_eqNil Tryz.underlying26 rfl) rfl ?_
 refine s_end ?_
 refine go_ifb _ rfl (fun h1 => ?_) (fun h1 => ?_)
 ·first | replace h1 := dcT h1 | replace h1 := dcF (nt h1) | skip
  refine go_seq ?_
  refine go_region 1 rfl rfl ?_
  refine s_val rfl rfl (r_assign) rfl ?_
  refine s_end ?_
  refine go_ret ?_
  refine ⟨_, .cons rfl (.nil), ?_⟩
  have hL0 : S = [] := by
   rcases hsl with h_ | ⟨b_, o_, h_, _⟩
   ·exact List.eq_nil_of_length_eq_zero (by have h2_ := congrArg List.length h_; rw [scells_len hS, List.length_nil] at h2_; omega)
   ·rw [h_] at h1; cases h1
  subst hL0
  subst hn
  exact ⟨Owns.nil _ _ _ _, (Chg.refl no w)⟩
 ·first | replace h1 := dcF h1 | replace h1 := dcT (nf h1) | skip
  refine go_skip ?_
  refine go_seq ?_
  refine go_region 4 rfl rfl ?_
  refine s_do rfl rfl (w_build0 (E := 40) (sz := 49) Tryz.underlying26 (i := Tryz.t40) (by kernel_rfl) rfl rfl) rfl ?_
  rintro v3 w1 ⟨o2, c_w1⟩
  have hs_w1 : w.heap.size ≤ w1.heap.size := Chg.size c_w1
  have C_w1 := Chg.pure (Chg.refl no w) c_w1
  have hfo_o2 := Owns.form2 o2
  obtain ⟨A4, cap5, e_o2, hc_cap5⟩ := hfo_o2
  subst e_o2
  refine s_val rfl rfl (r_move) rfl ?_
  refine s_do rfl rfl (w_append (E := 40) (sz := 49) Tryz.underlying26 rfl (i := Tryz.t40) (by kernel_rfl) rfl rfl rfl rfl (by rfl) o2 rfl (hsl.k C_w1) (by rw [scells_len hS, hn]) (flat_scells _) (by omega) (by show _ * 88 ≤ _; omega) (by omega)) rfl ?_
  rintro v10 w6 ⟨o7, c_w6⟩
  have hs_w6 : w1.heap.size ≤ w6.heap.size := Chg.size c_w6
  have C_w6 := Chg.newOb C_w1 c_w6 o2 (by omega)
  have hfo_o7 := Owns.form2 o7
  obtain ⟨A8, cap9, e_o7, hc_cap9⟩ := hfo_o7
  subst e_o7
  refine s_val rfl rfl (r_assign) rfl ?_
  refine s_end ?_
  refine go_ret ?_
  refine ⟨_, .cons rfl (.nil), ?_⟩
  have hq_ : Owns w6 w.heap.size 40 49 (Value.slice A8 n cap9) n (scells S) := by have h_ := o7; rw [Nat.zero_add] at h_; exact Owns.mono h_ (by omega)
  exact ⟨by show Owns _ _ _ _ (Value.slice _ (0 + n) _) n _; rw [Nat.zero_add]; exact hq_, C_w6⟩
end Go.Proofs.YtippcmedgfmgbaaGreat
end
section
open Go Go.Eng Go.Proofs
namespace Go.Proofs.YtippcmedgfmgbaaGreat
set_option maxHeartbeats 8000000 in
set_option maxRecDepth 100000 in
theorem chooseC_spec (m : Nat) (S : List Shr) (aL : Option Addr) (n cL need most b2 b3 b4 b5 b6 : Nat) (hn : S.length = n) (hb : n ≤ 64) (hS : AllS S) (hnd : need ≤ n) (hm0 : most ≤ 64) (hne2 : b2 ≠ b5) (hne3 : b3 ≠ b5) (hne4 : b4 ≠ b5) (hne6 : b6 ≠ b5) (X : List Shr) (from_ : Nat) (aB : Option Addr) (nB cB : Nat) (fv : Value) (w : World) (hm : m = n - from_) (hf : from_ ≤ n) (hXl : X.length = nB) (hXn : nB ≤ need) (hX : AllS X) (hxn : ((X ++ S.drop from_).map (·.x)).Nodup) (hsl : SlAt w aL (scells S)) (hsX : SlAt w aB (scells X)) (h2 : Rd w b2 0 [i64 (need : Nat)]) (h3 : Rd w b3 0 [Value.slice aL n cL]) (h4 : Rd w b4 0 [i64 (most : Nat)]) (h5 : Pc w b5 0 [fv]) (h6 : Rd w b6 0 [(Value.func (.func 27) #[] [.pointer (some ⟨b2, 0, none⟩), .pointer (some ⟨b3, 0, none⟩), .pointer (some ⟨b4, 0, none⟩), .pointer (some ⟨b5, 0, none⟩), .pointer (some ⟨b6, 0, none⟩)].toArray)]) (hneL : ∀ x, aL = some x → x.block ≠ b5) (hneX : ∀ x, aB = some x → x.block ≠ b5) :
  Rtn Tryz.prog 27 [i64 (from_ : Nat), Value.slice aB nB cB, .pointer (some ⟨b2, 0, none⟩), .pointer (some ⟨b3, 0, none⟩), .pointer (some ⟨b4, 0, none⟩), .pointer (some ⟨b5, 0, none⟩), .pointer (some ⟨b6, 0, none⟩)].toArray w (fun v w' => (∀ Y, chooseF need most S X (S.drop from_) = some Y → v = .bool true ∧ ∃ a' c', Pc w' b5 0 [.slice a' need c'] ∧ need ≤ c' ∧ SlAt w' a' (scells Y) ∧ (∀ x, a' = some x → x.block ≠ b5) ∧ (∀ x, a' = some x → w.heap.size ≤ x.block)) ∧ (chooseF need most S X (S.drop from_) = none → v = .bool false ∧ Pc w' b5 0 [fv]) ∧ Chg (blk b5) w w') := by
 induction m using Nat.strongRecOn generalizing X from_ aB nB cB fv w
 rename_i m ih
 have hxnX := nodup_left hxn
 have hb5 : b5 < w.heap.size := Pc.lt h5 (by simp)
 refine fn_body (l := [i64 (from_ : Nat), Value.slice aB nB cB, .pointer (some ⟨b2, 0, none⟩), .pointer (some ⟨b3, 0, none⟩), .pointer (some ⟨b4, 0, none⟩), .pointer (some ⟨b5, 0, none⟩), .pointer (some ⟨b6, 0, none⟩)]) 58 [.tmp 9] Tryz.func27 rfl Tryz.ntmps27 (Nat.le_of_ble_eq_true rfl) (by rw [Tryz.results27]) ?_
 refine go_seq ?_
 refine go_region 1 rfl rfl ?_
 refine s_val rfl rfl (r_assign) rfl ?_
 refine s_end ?_
 refine go_seq ?_
 refine go_seq ?_
 refine go_region 4 rfl rfl ?_
 refine s_val rfl rfl (r_move) rfl ?_
 refine s_val rfl rfl (r_len Tryz.runUnderlying26 rfl) rfl ?_
 refine s_val rfl rfl (r_load1 Tryz.isAgg3 rfl (h2.kept (Chg.refl (blk b5) w) (fun _ _ m_ => hne2 m_))) rfl ?_
 refine s_val rfl rfl (r_eql rfl rfl) rfl ?_
 refine s_end ?_
 refine go_ifb _ rfl (fun hl => ?_) (fun hl => ?_)
 ·first | replace hl := dcT hl | replace hl := dcF (nt hl) | skip
  refine go_seq ?_
  refine go_region 1 rfl rfl ?_
  refine s_val rfl rfl (r_assign) rfl ?_
  refine s_end ?_
  refine go_seq ?_
  refine go_seq ?_
  refine go_region 3 rfl rfl ?_
  refine s_val rfl rfl (r_load1 Tryz.isAgg26 rfl (h3.kept (Chg.refl (blk b5) w) (fun _ _ m_ => hne3 m_))) rfl ?_
  refine s_val rfl rfl (r_len Tryz.runUnderlying26 rfl) rfl ?_
  refine s_val rfl rfl (r_move) rfl ?_
  refine s_end ?_
  refine go_block ?_
  refine go_loopM (σ := Nat × Nat) [(10, 10), (12, 12), (20, 30)] (fun (x_ : Nat × Nat) e' w' => match x_ with | (k, q) => e' 20 = i64 (k : Nat) ∧ e' 10 = i64 (q : Nat) ∧ k ≤ n ∧ q = badR X (S.take k) ∧ Pc w' b5 0 [fv] ∧ Chg (blk b5) w w') (fun (x_ : Nat × Nat) => match x_ with | (k, q) => n - k) (0, 0) ?_ ?_
  ·exact ⟨rfl, rfl, by omega, rfl, h5, (Chg.refl (blk b5) w)⟩
  rintro ⟨k, q⟩ f2 w1 ⟨e3, e4, hk, hq, h5, C_w1⟩
  have ob_6 : ∃ g_, f2 = upd g_ 20 (i64 (k : Nat)) := ⟨f2, upd_id e3⟩
  obtain ⟨f5, rfl⟩ := ob_6
  have ob_8 : ∃ g_, f5 = upd g_ 10 (i64 (q : Nat)) := ⟨f5, upd_id e4⟩
  obtain ⟨f7, rfl⟩ := ob_8
  clear e3 e4
  have hs_w1 : w.heap.size ≤ w1.heap.size := Chg.size C_w1
  have hbr_ := badR_le X S k
  refine go_seq ?_
  refine go_region 1 rfl rfl ?_
  refine s_val rfl rfl (r_lss rfl rfl) rfl ?_
  refine s_end ?_
  refine go_seq ?_
  refine go_ifb _ rfl (fun h3x => ?_) (fun h3x => ?_)
  ·first | replace h3x := dcT h3x | replace h3x := dcF (nt h3x) | skip
   refine go_skip ?_
   refine go_seq ?_
   refine go_block ?_
   refine go_seq ?_
   refine go_region 4 rfl rfl ?_
   refine s_val rfl rfl (r_indexSl (k := k) Tryz.runUnderlying26 Tryz.sizeOf40 rfl (hsl.kept C_w1 (fun b_ o_ ha_ _ _ m_ => hneL _ ha_ m_)) (scells_ne hS (by first | omega | (simp; omega))) rfl (by first | rfl | omega) (by omega)) rfl ?_
   refine s_val rfl rfl (r_loadSlN Tryz.isAgg40 Tryz.sizeOf40 rfl (hsl.kept C_w1 (fun b_ o_ ha_ _ _ m_ => hneL _ ha_ m_)) (scell_len (AllS.get hS k)) (scells_ne hS (by first | omega | (simp; omega))) (scells_get hS (by first | omega | (simp; omega)))) rfl ?_
   refine s_do rfl rfl (w_alloc (scell shr0) Tryz.zeroValue40 (by kernel_rfl)) rfl ?_
   rintro _ w9 ⟨b10, rfl, hl_b10, hu_b10, p11, c_w9⟩
   have hs_w9 : w1.heap.size ≤ w9.heap.size := Chg.size c_w9
   replace h5 := h5.k c_w9
   have C_w9 := Chg.pure C_w1 c_w9
   have hn_b10 : w.heap.size ≤ b10 := by have := Chg.size C_w9; omega
   refine s_do rfl rfl (w_storeA (o := 0) (cs := scell (S.getD k shr0)) Tryz.sizeOf40 rfl rfl (scell_len (AllS.get hS k)) (flat_scell _) p11 (scell_len shr0_ok)) rfl ?_
   rintro _ w12 ⟨q_w12, c_w12⟩
   have hs_w12 : w9.heap.size ≤ w12.heap.size := Chg.size c_w12
   replace h5 := h5.kb c_w12 (by omega)
   have C_w12 := Chg.newRng C_w9 c_w12 (by omega)
   have p13 : Pc w12 b10 0 (bs (S.getD k shr0).h) := Pc.shrH q_w12
   have hlH_p13 : ((S.getD k shr0).h).length = 16 := (AllS.get hS k).1
   have p14 : Pc w12 b10 16 [fi (S.getD k shr0).x] := Pc.shrX q_w12 (AllS.get hS k)
   have p15 : Pc w12 b10 17 (us (S.getD k shr0).y) := Pc.shrY q_w12 (AllS.get hS k)
   have hlY_p15 : ((S.getD k shr0).y).length = 32 := (AllS.get hS k).2
   clear q_w12
   refine s_end ?_
   refine go_seq ?_
   refine go_region 4 rfl rfl ?_
   refine s_val rfl rfl (r_move) rfl ?_
   refine s_val rfl rfl (r_loadN Tryz.isAgg40 Tryz.sizeOf40 rfl (Rd.shrAll (AllS.get hS k) p13.rd p14.rd p15.rd) (scell_len (AllS.get hS k))) rfl ?_
   refine s_do rfl rfl (w_call Tryz.call28 rfl (liesR_spec X aB nB cB (S.getD k shr0) _ hXl (by omega) hX hxnX (hsX.kept C_w12 (fun b_ o_ ha_ _ _ m_ => hneX _ ha_ m_)) (AllS.get hS k))) rfl ?_
   rintro _ w16 ⟨rfl, c_w16⟩
   have hs_w16 : w12.heap.size ≤ w16.heap.size := Chg.size c_w16
   replace h5 := h5.k c_w16
   replace p13 := p13.k c_w16
   replace p14 := p14.k c_w16
   replace p15 := p15.k c_w16
   have C_w16 := Chg.pure C_w12 c_w16
   refine s_val rfl rfl (r_not rfl) rfl ?_
   refine s_end ?_
   refine go_ifb _ rfl (fun h7 => ?_) (fun h7 => ?_)
   ·skip
    replace h7 := not_t h7
    refine go_region 3 rfl rfl ?_
    refine s_val rfl rfl (r_move) rfl ?_
    refine s_val rfl rfl (r_addi rfl rfl (by omega)) rfl ?_
    refine s_val rfl rfl (r_assign) rfl ?_
    refine s_end ?_
    refine go_nil (block_normal ?_)
    refine go_region 2 rfl rfl ?_
    refine s_val rfl rfl (r_addi rfl rfl (by omega)) rfl ?_
    refine s_val rfl rfl (r_move) rfl ?_
    refine s_end ?_
    refine go_nil (loop_normal ⟨⟨(k + 1, q + 1), by first | omega | (dsimp only; omega), ⟨rfl, rfl, by omega, by rw [badR_t (by omega) h7, hq], h5, C_w16⟩⟩, (by repeat (first | exact same_refl | exact same_over | refine same_upd rfl ?_ | refine same_over2 rfl ?_))⟩)
   ·skip
    replace h7 := not_f h7
    refine go_skip ?_
    refine go_nil (block_normal ?_)
    refine go_region 2 rfl rfl ?_
    refine s_val rfl rfl (r_addi rfl rfl (by omega)) rfl ?_
    refine s_val rfl rfl (r_move) rfl ?_
    refine s_end ?_
    refine go_nil (loop_normal ⟨⟨(k + 1, q), by first | omega | (dsimp only; omega), ⟨rfl, rfl, by omega, by rw [badR_f (by omega) h7, hq], h5, C_w16⟩⟩, (by repeat (first | exact same_refl | exact same_over | refine same_upd rfl ?_ | refine same_over2 rfl ?_))⟩)
  ·first | replace h3x := dcF h3x | replace h3x := dcT (nf h3x) | skip
   rw [List.take_of_length_le (by omega)] at hq
   refine go_exit (loop_exit (block_hit ?_))
   refine go_seq ?_
   refine go_seq ?_
   refine go_region 3 rfl rfl ?_
   refine s_val rfl rfl (r_move) rfl ?_
   refine s_val rfl rfl (r_load1 Tryz.isAgg3 rfl (h4.kept C_w1 (fun _ _ m_ => hne4 m_))) rfl ?_
   refine s_val rfl rfl (r_leq rfl rfl) rfl ?_
   refine s_end ?_
   refine go_ifb _ rfl (fun h8 => ?_) (fun h8 => ?_)
   ·first | replace h8 := dcT h8 | replace h8 := dcF (nt h8) | skip
    refine go_region 3 rfl rfl ?_
    refine s_val rfl rfl (r_move) rfl ?_
    refine s_do rfl rfl (w_call Tryz.call29 rfl (cloneS_spec X _ _ _ _ hXl (by omega) hX (hsX.kept C_w1 (fun b_ o_ ha_ _ _ m_ => hneX _ ha_ m_)))) rfl ?_
    rintro v19 w17 ⟨o18, c_w17⟩
    have hs_w17 : w1.heap.size ≤ w17.heap.size := Chg.size c_w17
    replace h5 := h5.k c_w17
    have C_w17 := Chg.pure C_w1 c_w17
    have hfo_o18 := Owns.form2 o18
    obtain ⟨A20, cap21, e_o18, hc_cap21⟩ := hfo_o18
    subst e_o18
    refine s_do rfl rfl (w_store1 (o := 0) Tryz.sizeOf26 rfl rfl rfl rfl h5) rfl ?_
    rintro _ w22 ⟨q_w22, c_w22⟩
    have hs_w22 : w17.heap.size ≤ w22.heap.size := Chg.size c_w22
    replace o18 := o18.kb c_w22 (Owns.ne_lt o18 (by omega))
    have C_w22 := Chg.into C_w17 c_w22 (by intro _ _ _ m_; first | exact m_ | exact m_.1)
    have h5 := q_w22
    refine s_end ?_
    refine go_seq ?_
    refine go_region 4 rfl rfl ?_
    refine s_val rfl rfl (r_move) rfl ?_
    refine s_val rfl rfl (r_load1 Tryz.isAgg3 rfl (h4.kept C_w22 (fun _ _ m_ => hne4 m_))) rfl ?_
    refine s_val rfl rfl (r_leq rfl rfl) rfl ?_
    refine s_val rfl rfl (r_assign) rfl ?_
    refine s_end ?_
    refine go_ret ?_
    refine ⟨_, .cons rfl (.nil), ?_⟩
    have hm_ : chooseF need most S X (S.drop from_) = some X := by rw [choose_len (by omega), if_pos (by omega)]
    refine ⟨fun Y_ h_ => ?_, fun h_ => (Option.some_ne_none _ (hm_.symm.trans h_)).elim, C_w22⟩
    have e_ : Y_ = X := Option.some.inj (h_.symm.trans hm_)
    subst e_
    have en_ : nB = need := by omega
    subst en_
    exact ⟨congrArg Value.bool (decide_eq_true h8), A20, cap21, h5, by omega, Owns.sl o18, fun x_ hx_ => by have h2_ := Owns.lo o18 x_ hx_; omega, fun x_ hx_ => by have h2_ := Owns.lo o18 x_ hx_; omega⟩
   ·first | replace h8 := dcF h8 | replace h8 := dcT (nf h8) | skip
    refine go_skip ?_
    refine go_seq ?_
    refine go_region 4 rfl rfl ?_
    refine s_val rfl rfl (r_move) rfl ?_
    refine s_val rfl rfl (r_load1 Tryz.isAgg3 rfl (h4.kept C_w1 (fun _ _ m_ => hne4 m_))) rfl ?_
    refine s_val rfl rfl (r_leq rfl rfl) rfl ?_
    refine s_val rfl rfl (r_assign) rfl ?_
    refine s_end ?_
    refine go_ret ?_
    refine ⟨_, .cons rfl (.nil), ?_⟩
    have hm_ : chooseF need most S X (S.drop from_) = none := by rw [choose_len (by omega), if_neg (by omega)]
    exact ⟨fun Y_ h_ => (Option.some_ne_none _ (h_.symm.trans hm_)).elim, fun _ => ⟨congrArg Value.bool (decide_eq_false h8), h5⟩, C_w1⟩
 ·first | replace hl := dcF hl | replace hl := dcT (nf hl) | skip
  refine go_skip ?_
  refine go_seq ?_
  refine go_seq ?_
  refine go_region 2 rfl rfl ?_
  refine s_val rfl rfl (r_move) rfl ?_
  refine s_val rfl rfl (r_assign) rfl ?_
  refine s_end ?_
  refine go_block ?_
  refine go_loopM (σ := Nat) [(9, 9), (13, 13), (40, 57)] (fun (i : Nat) e' w' => e' 13 = i64 (i : Nat) ∧ from_ ≤ i ∧ i ≤ n ∧ chooseF need most S X (S.drop from_) = chooseF need most S X (S.drop i) ∧ Pc w' b5 0 [fv] ∧ Chg (blk b5) w w') (fun (i : Nat) => n - i) from_ ?_ ?_
  ·exact ⟨rfl, by omega, by omega, rfl, h5, (Chg.refl (blk b5) w)⟩
  rintro i f24 w23 ⟨e25, hi1, hi2, hch, h5, C_w23⟩
  have ob_27 : ∃ g_, f24 = upd g_ 13 (i64 (i : Nat)) := ⟨f24, upd_id e25⟩
  obtain ⟨f26, rfl⟩ := ob_27
  clear e25
  have hs_w23 : w.heap.size ≤ w23.heap.size := Chg.size C_w23
  refine go_seq ?_
  refine go_seq ?_
  refine go_region 4 rfl rfl ?_
  refine s_val rfl rfl (r_move) rfl ?_
  refine s_val rfl rfl (r_load1 Tryz.isAgg26 rfl (h3.kept C_w23 (fun _ _ m_ => hne3 m_))) rfl ?_
  refine s_val rfl rfl (r_len Tryz.runUnderlying26 rfl) rfl ?_
  refine s_val rfl rfl (r_lss rfl rfl) rfl ?_
  refine s_end ?_
  refine go_ifb _ rfl (fun h9 => ?_) (fun h9 => ?_)
  ·first | replace h9 := dcT h9 | replace h9 := dcF (nt h9) | skip
   refine go_skip ?_
   refine go_seq ?_
   refine go_block ?_
   refine go_seq ?_
   refine go_drawsK 11 (.take 0 (.take 1 (.take 2 (.take 3 (.take 5 (.take 6 (.take 7 (.take 8 (.alts (.eff 4 (.eff 9 (.eff 10 (.eff 11 .done)))) (.eff 9 (.eff 4 (.eff 10 (.eff 11 .done))))))))))))) (by kernel_rfl) (by kernel_rfl) fun w28 c_w28 => ?_
   have hs_w28 : w23.heap.size ≤ w28.heap.size := Chg.size c_w28
   replace h5 := h5.k c_w28
   have C_w28 := Chg.pure C_w23 c_w28
   have h5_0 := h5
   refine s_takeK rfl rfl (w0 := w28) (fun x_ c_ => r_load1 Tryz.isAgg67 rfl ((h6.kept C_w28 (fun _ _ m_ => hne6 m_)).k c_)) ?_
   refine s_takeK rfl rfl (w0 := w28) (fun x_ c_ => r_move) ?_
   refine s_takeK rfl rfl (w0 := w28) (fun x_ c_ => r_addi rfl rfl (by omega)) ?_
   refine s_takeK rfl rfl (w0 := w28) (fun x_ c_ => r_move) ?_
   refine s_takeK rfl rfl (w0 := w28) (fun x_ c_ => r_load1 Tryz.isAgg26 rfl ((h3.kept C_w28 (fun _ _ m_ => hne3 m_)).k c_)) ?_
   refine s_takeK rfl rfl (w0 := w28) (fun x_ c_ => r_move) ?_
   refine s_takeK rfl rfl (w0 := w28) (fun x_ c_ => r_indexSl (k := i) Tryz.runUnderlying26 Tryz.sizeOf40 rfl ((hsl.kept C_w28 (fun b_ o_ ha_ _ _ m_ => hneL _ ha_ m_)).k c_) (scells_ne hS (by first | omega | (simp; omega))) rfl (by first | rfl | omega) (by omega)) ?_
   refine s_takeK rfl rfl (w0 := w28) (fun x_ c_ => r_loadSlN Tryz.isAgg40 Tryz.sizeOf40 rfl ((hsl.kept C_w28 (fun b_ o_ ha_ _ _ m_ => hneL _ ha_ m_)).k c_) (scell_len (AllS.get hS i)) (scells_ne hS (by first | omega | (simp; omega))) (scells_get hS (by first | omega | (simp; omega)))) ?_
   refine s_alts ?_ ?_
   ·
    refine s_fxK rfl rfl (w_call Tryz.call29 rfl (cloneS_spec X _ _ _ _ hXl (by omega) hX (hsX.kept C_w28 (fun b_ o_ ha_ _ _ m_ => hneX _ ha_ m_)))) ?_
    rintro v31 w29 ⟨o30, c_w29⟩
    have hs_w29 : w28.heap.size ≤ w29.heap.size := Chg.size c_w29
    replace h5 := h5.k c_w29
    have C_w29 := Chg.pure C_w28 c_w29
    have hfo_o30 := Owns.form2 o30
    obtain ⟨A32, cap33, e_o30, hc_cap33⟩ := hfo_o30
    subst e_o30
    have K_w29 := Chg.pure (Chg.refl no w28) c_w29
    refine ⟨K_w29, ?_⟩
    refine s_fxK rfl rfl (w_buildA1 (E := 40) (sz := 49) Tryz.underlying26 (i := Tryz.t40) (by kernel_rfl) rfl rfl rfl rfl rfl rfl (scell_len (AllS.get hS i))) ?_
    rintro _ w34 ⟨b35, rfl, hl_b35, hu_b35, o37, p36, c_w34⟩
    have ne_b35_o30 := Owns.ne_ge o30 hl_b35
    have hs_w34 : w29.heap.size ≤ w34.heap.size := Chg.size c_w34
    replace h5 := h5.k c_w34
    replace o30 := o30.k c_w34
    have C_w34 := Chg.pure C_w29 c_w34
    have hn_b35 : w.heap.size ≤ b35 := by have := Chg.size C_w34; omega
    have K_w34 := Chg.pure K_w29 c_w34
    refine ⟨K_w34, ?_⟩
    refine s_fxK rfl rfl (w_append (E := 40) (sz := 49) Tryz.underlying26 rfl (i := Tryz.t40) (by kernel_rfl) rfl rfl rfl rfl (by rfl) o30 rfl (SlAt.some p36.rd) (by rw [scell_len (AllS.get hS i)]) (flat_scell _) (by omega) (by show _ * 88 ≤ _; omega) (by omega)) ?_
    rintro v42 w38 ⟨o39, c_w38⟩
    have hs_w38 : w34.heap.size ≤ w38.heap.size := Chg.size c_w38
    replace h5 := h5.kob c_w38 (Owns.ne_lt o30 (by omega))
    replace p36 := p36.kob c_w38 ne_b35_o30
    have C_w38 := Chg.newOb C_w34 c_w38 o30 (by omega)
    have hfo_o39 := Owns.form2 o39
    obtain ⟨A40, cap41, e_o39, hc_cap41⟩ := hfo_o39
    subst e_o39
    replace o39 := Owns.appSh o39
    have K_w38 := Chg.newOb K_w34 c_w38 o30 (by omega)
    refine ⟨K_w38, ?_⟩
    have hc2_ : chooseF need most S (X ++ [S.getD i shr0]) (S.drop (i + 1)) = none ∨ ∃ Y_, chooseF need most S (X ++ [S.getD i shr0]) (S.drop (i + 1)) = some Y_ := by cases chooseF need most S (X ++ [S.getD i shr0]) (S.drop (i + 1)) with | none => exact .inl rfl | some p_ => exact .inr ⟨p_, rfl⟩
    have hcall_ := ih (n - (i + 1)) (by omega) (X ++ [S.getD i shr0]) (i + 1) A40 (nB + 1) cap41 fv _ rfl (by omega) (by rw [List.length_append, hXl]; rfl) (by omega) (AllS.app hX (AllS.one (AllS.get hS i))) (nodup_next hi1 (by omega) hxn) (hsl.kept C_w38 (fun b_ o_ ha_ _ _ m_ => hneL _ ha_ m_)) (Owns.sl o39) (h2.kept C_w38 (fun _ _ m_ => hne2 m_)) (h3.kept C_w38 (fun _ _ m_ => hne3 m_)) (h4.kept C_w38 (fun _ _ m_ => hne4 m_)) h5 (h6.kept C_w38 (fun _ _ m_ => hne6 m_)) (fun x_ hx_ => by have h_ := Owns.lo o39 x_ hx_; omega)
    refine s_do rfl rfl (w_callV (cap := [.pointer (some ⟨b2, 0, none⟩), .pointer (some ⟨b3, 0, none⟩), .pointer (some ⟨b4, 0, none⟩), .pointer (some ⟨b5, 0, none⟩), .pointer (some ⟨b6, 0, none⟩)]) Tryz.call27 rfl rfl hcall_) rfl ?_
    rintro v44 w43 ⟨hcS_, hcN_, c_w43⟩
    have hs_w43 : w38.heap.size ≤ w43.heap.size := Chg.size c_w43
    have C_w43 := Chg.into C_w38 c_w43 (by intro _ _ _ m_; first | exact m_ | exact m_.1)
    clear hcall_ h5
    rcases hc2_ with hc2 | ⟨YC, hc2⟩
    ·skip
     have hp_ := hcN_ hc2
     clear hcS_ hcN_
     obtain ⟨hv_, h5⟩ := hp_
     subst hv_
     skip
     refine s_end ?_
     refine go_false rfl ?_
     refine go_skip ?_
     refine go_nil (block_normal ?_)
     refine go_region 3 rfl rfl ?_
     refine s_val rfl rfl (r_move) rfl ?_
     refine s_val rfl rfl (r_addi rfl rfl (by omega)) rfl ?_
     refine s_val rfl rfl (r_assign) rfl ?_
     refine s_end ?_
     refine go_nil (loop_normal ⟨⟨(i + 1), by first | omega | (dsimp only; omega), ⟨rfl, by omega, by omega, by rw [hch, choose_miss (by omega) (by omega) hc2], h5, C_w43⟩⟩, (by repeat (first | exact same_refl | exact same_over | refine same_upd rfl ?_ | refine same_over2 rfl ?_))⟩)
    ·skip
     have hp_ := hcS_ _ hc2
     clear hcS_ hcN_
     obtain ⟨hv_, aC, cC, h5, hcC, hsC, hneC, hloC⟩ := hp_
     subst hv_
     skip
     refine s_end ?_
     refine go_true rfl ?_
     refine go_seq ?_
     refine go_region 1 rfl rfl ?_
     refine s_val rfl rfl (r_assign) rfl ?_
     refine s_end ?_
     refine go_ret (block_ret (loop_ret (block_ret ?_)))
     refine ⟨_, .cons rfl (.nil), ?_⟩
     have hm_ : chooseF need most S X (S.drop from_) = some YC := by rw [hch, choose_hit (by omega) (by omega) hc2]
     refine ⟨fun Y_ h_ => ?_, fun h_ => (Option.some_ne_none _ (hm_.symm.trans h_)).elim, C_w43⟩
     have e_ : Y_ = YC := Option.some.inj (h_.symm.trans hm_)
     subst e_
     exact ⟨rfl, aC, cC, h5, hcC, hsC, hneC, fun x_ hx_ => Nat.le_trans (by omega) (hloC x_ hx_)⟩
   ·
    refine s_fxK rfl rfl (w_buildA1 (E := 40) (sz := 49) Tryz.underlying26 (i := Tryz.t40) (by kernel_rfl) rfl rfl rfl rfl rfl rfl (scell_len (AllS.get hS i))) ?_
    rintro _ w45 ⟨b46, rfl, hl_b46, hu_b46, o48, p47, c_w45⟩
    have hs_w45 : w28.heap.size ≤ w45.heap.size := Chg.size c_w45
    replace h5 := h5.k c_w45
    have C_w45 := Chg.pure C_w28 c_w45
    have hn_b46 : w.heap.size ≤ b46 := by have := Chg.size C_w45; omega
    have K_w45 := Chg.pure (Chg.refl no w28) c_w45
    refine ⟨K_w45, ?_⟩
    refine s_fxK rfl rfl (w_call Tryz.call29 rfl (cloneS_spec X _ _ _ _ hXl (by omega) hX (hsX.kept C_w45 (fun b_ o_ ha_ _ _ m_ => hneX _ ha_ m_)))) ?_
    rintro v51 w49 ⟨o50, c_w49⟩
    have hs_w49 : w45.heap.size ≤ w49.heap.size := Chg.size c_w49
    replace h5 := h5.k c_w49
    replace p47 := p47.k c_w49
    have C_w49 := Chg.pure C_w45 c_w49
    have hfo_o50 := Owns.form2 o50
    obtain ⟨A52, cap53, e_o50, hc_cap53⟩ := hfo_o50
    subst e_o50
    have K_w49 := Chg.pure K_w45 c_w49
    refine ⟨K_w49, ?_⟩
    refine s_fxK rfl rfl (w_append (E := 40) (sz := 49) Tryz.underlying26 rfl (i := Tryz.t40) (by kernel_rfl) rfl rfl rfl rfl (by rfl) o50 rfl (SlAt.some p47.rd) (by rw [scell_len (AllS.get hS i)]) (flat_scell _) (by omega) (by show _ * 88 ≤ _; omega) (by omega)) ?_
    rintro v58 w54 ⟨o55, c_w54⟩
    have hs_w54 : w49.heap.size ≤ w54.heap.size := Chg.size c_w54
    replace h5 := h5.kob c_w54 (Owns.ne_lt o50 (by omega))
    replace p47 := p47.kob c_w54 (Owns.ne_lt o50 (by omega))
    have C_w54 := Chg.newOb C_w49 c_w54 o50 (by omega)
    have hfo_o55 := Owns.form2 o55
    obtain ⟨A56, cap57, e_o55, hc_cap57⟩ := hfo_o55
    subst e_o55
    replace o55 := Owns.appSh o55
    have K_w54 := Chg.newOb K_w49 c_w54 o50 (by omega)
    refine ⟨K_w54, ?_⟩
    have hc2_ : chooseF need most S (X ++ [S.getD i shr0]) (S.drop (i + 1)) = none ∨ ∃ Y_, chooseF need most S (X ++ [S.getD i shr0]) (S.drop (i + 1)) = some Y_ := by cases chooseF need most S (X ++ [S.getD i shr0]) (S.drop (i + 1)) with | none => exact .inl rfl | some p_ => exact .inr ⟨p_, rfl⟩
    have hcall_ := ih (n - (i + 1)) (by omega) (X ++ [S.getD i shr0]) (i + 1) A56 (nB + 1) cap57 fv _ rfl (by omega) (by rw [List.length_append, hXl]; rfl) (by omega) (AllS.app hX (AllS.one (AllS.get hS i))) (nodup_next hi1 (by omega) hxn) (hsl.kept C_w54 (fun b_ o_ ha_ _ _ m_ => hneL _ ha_ m_)) (Owns.sl o55) (h2.kept C_w54 (fun _ _ m_ => hne2 m_)) (h3.kept C_w54 (fun _ _ m_ => hne3 m_)) (h4.kept C_w54 (fun _ _ m_ => hne4 m_)) h5 (h6.kept C_w54 (fun _ _ m_ => hne6 m_)) (fun x_ hx_ => by have h_ := Owns.lo o55 x_ hx_; omega)
    refine s_do rfl rfl (w_callV (cap := [.pointer (some ⟨b2, 0, none⟩), .pointer (some ⟨b3, 0, none⟩), .pointer (some ⟨b4, 0, none⟩), .pointer (some ⟨b5, 0, none⟩), .pointer (some ⟨b6, 0, none⟩)]) Tryz.call27 rfl rfl hcall_) rfl ?_
    rintro v60 w59 ⟨hcS_, hcN_, c_w59⟩
    have hs_w59 : w54.heap.size ≤ w59.heap.size := Chg.size c_w59
    have C_w59 := Chg.into C_w54 c_w59 (by intro _ _ _ m_; first | exact m_ | exact m_.1)
    clear hcall_ h5
    rcases hc2_ with hc2 | ⟨YC, hc2⟩
    ·skip
     have hp_ := hcN_ hc2
     clear hcS_ hcN_
     obtain ⟨hv_, h5⟩ := hp_
     subst hv_
     skip
     refine s_end ?_
     refine go_false rfl ?_
     refine go_skip ?_
     refine go_nil (block_normal ?_)
     refine go_region 3 rfl rfl ?_
     refine s_val rfl rfl (r_move) rfl ?_
     refine s_val rfl rfl (r_addi rfl rfl (by omega)) rfl ?_
     refine s_val rfl rfl (r_assign) rfl ?_
     refine s_end ?_
     refine go_nil (loop_normal ⟨⟨(i + 1), by first | omega | (dsimp only; omega), ⟨rfl, by omega, by omega, by rw [hch, choose_miss (by omega) (by omega) hc2], h5, C_w59⟩⟩, (by repeat (first | exact same_refl | exact same_over | refine same_upd rfl ?_ | refine same_over2 rfl ?_))⟩)
    ·skip
     have hp_ := hcS_ _ hc2
     clear hcS_ hcN_
     obtain ⟨hv_, aC, cC, h5, hcC, hsC, hneC, hloC⟩ := hp_
     subst hv_
     skip
     refine s_end ?_
     refine go_true rfl ?_
     refine go_seq ?_
     refine go_region 1 rfl rfl ?_
     refine s_val rfl rfl (r_assign) rfl ?_
     refine s_end ?_
     refine go_ret (block_ret (loop_ret (block_ret ?_)))
     refine ⟨_, .cons rfl (.nil), ?_⟩
     have hm_ : chooseF need most S X (S.drop from_) = some YC := by rw [hch, choose_hit (by omega) (by omega) hc2]
     refine ⟨fun Y_ h_ => ?_, fun h_ => (Option.some_ne_none _ (hm_.symm.trans h_)).elim, C_w59⟩
     have e_ : Y_ = YC := Option.some.inj (h_.symm.trans hm_)
     subst e_
     exact ⟨rfl, aC, cC, h5, hcC, hsC, hneC, fun x_ hx_ => Nat.le_trans (by omega) (hloC x_ hx_)⟩
  ·first | replace h9 := dcF h9 | replace h9 := dcT (nf h9) | skip
   refine go_exit (loop_exit (block_hit ?_))
   refine go_seq ?_
   refine go_region 1 rfl rfl ?_
   refine s_val rfl rfl (r_assign) rfl ?_
   refine s_end ?_
   refine go_ret ?_
   refine ⟨_, .cons rfl (.nil), ?_⟩
   have hm_ : chooseF need most S X (S.drop from_) = none := by rw [hch, choose_nil (by omega) (by omega)]
   exact ⟨fun Y_ h_ => (Option.some_ne_none _ (h_.symm.trans hm_)).elim, fun _ => ⟨rfl, h5⟩, C_w23⟩
end Go.Proofs.YtippcmedgfmgbaaGreat
end
section
open Go Go.Eng Go.Proofs
namespace Go.Proofs.YtippcmedgfmgbaaGreat
set_option maxHeartbeats 8000000 in
set_option maxRecDepth 100000 in
theorem mendR_spec (S : List Shr) (a : Option Addr) (n c need : Nat) (w : World) (hn : S.length = n) (h0 : 0 < need) (hb : n ≤ 32) (hnd : need ≤ n) (hS : AllS S) (hxn : (S.map (·.x)).Nodup) (hsl : SlAt w a (scells S)) :
  Rtn Tryz.prog 11 [i64 (need : Nat), Value.slice a n c].toArray w (fun v w' => (∀ r, mendR need S = some r → ∃ a' c', v = tup [.agg (bs r.1).toArray, .slice a' r.2.length c', i64 0] ∧ r.2.length ≤ c' ∧ r.1.length = 32 ∧ SlAt w' a' (bs r.2.flatten) ∧ (∀ x, a' = some x → w.heap.size ≤ x.block)) ∧ (mendR need S = none → v = tup [.agg (bs (List.replicate 32 0)).toArray, .slice none 0 0, i64 20]) ∧ Kept w w') := by
 refine fn_body (l := [i64 (need : Nat), Value.slice a n c]) 51 [.cell 4 23, .tmp 5, .tmp 6] Tryz.func11 rfl Tryz.ntmps11 (Nat.le_of_ble_eq_true rfl) (by rw [Tryz.results11]) ?_
 refine go_seq ?_
 refine go_region 5 rfl rfl ?_
 refine s_do rfl rfl (w_box1 rfl rfl) rfl ?_
 rintro _ w1 ⟨b2, rfl, hl_b2, hu_b2, p3, c_w1⟩
 have hs_w1 : w.heap.size ≤ w1.heap.size := Chg.size c_w1
 have C_w1 := Chg.pure (Chg.refl no w) c_w1
 have hn_b2 : w.heap.size ≤ b2 := by have := Chg.size C_w1; omega
 refine s_do rfl rfl (w_box1 rfl rfl) rfl ?_
 rintro _ w4 ⟨b5, rfl, hl_b5, hu_b5, p6, c_w4⟩
 have hs_w4 : w1.heap.size ≤ w4.heap.size := Chg.size c_w4
 replace p3 := p3.k c_w4
 have C_w4 := Chg.pure C_w1 c_w4
 have hn_b5 : w.heap.size ≤ b5 := by have := Chg.size C_w4; omega
 refine s_do rfl rfl (w_alloc (bs (List.replicate 32 0)) Tryz.zeroValue23 (by kernel_rfl)) rfl ?_
 rintro _ w7 ⟨b8, rfl, hl_b8, hu_b8, p9, c_w7⟩
 have hs_w7 : w4.heap.size ≤ w7.heap.size := Chg.size c_w7
 replace p3 := p3.k c_w7
 replace p6 := p6.k c_w7
 have C_w7 := Chg.pure C_w4 c_w7
 have hn_b8 : w.heap.size ≤ b8 := by have := Chg.size C_w7; omega
 refine s_val rfl rfl (r_assign) rfl ?_
 refine s_val rfl rfl (r_assign) rfl ?_
 refine s_end ?_
 refine go_seq ?_
 refine go_region 7 rfl rfl ?_
 refine s_val rfl rfl (r_load1 Tryz.isAgg26 rfl p6.rd) rfl ?_
 refine s_val rfl rfl (r_len Tryz.runUnderlying26 rfl) rfl ?_
 refine s_val rfl rfl (r_load1 Tryz.isAgg3 rfl p3.rd) rfl ?_
 refine s_val rfl rfl (r_subi rfl rfl (by omega)) rfl ?_
 refine s_val rfl rfl (r_quo2 (m := n - need) rfl rfl (by omega) (by omega)) rfl ?_
 refine s_do rfl rfl (w_alloc ([i64 0]) Tryz.zeroValue3 (by kernel_rfl)) rfl ?_
 rintro _ w10 ⟨b11, rfl, hl_b11, hu_b11, p12, c_w10⟩
 have hs_w10 : w7.heap.size ≤ w10.heap.size := Chg.size c_w10
 replace p3 := p3.k c_w10
 replace p6 := p6.k c_w10
 replace p9 := p9.k c_w10
 have C_w10 := Chg.pure C_w7 c_w10
 have hn_b11 : w.heap.size ≤ b11 := by have := Chg.size C_w10; omega
 refine s_do rfl rfl (w_store1 (o := 0) Tryz.sizeOf3 rfl rfl rfl rfl p12) rfl ?_
 rintro _ w13 ⟨q_w13, c_w13⟩
 have hs_w13 : w10.heap.size ≤ w13.heap.size := Chg.size c_w13
 replace p3 := p3.kb c_w13 (by omega)
 replace p6 := p6.kb c_w13 (by omega)
 replace p9 := p9.kb c_w13 (by omega)
 have C_w13 := Chg.newRng C_w10 c_w13 (by omega)
 have p12 := q_w13
 refine s_end ?_
 refine go_seq ?_
 refine go_region 1 rfl rfl ?_
 refine s_do rfl rfl (w_alloc ([.slice none 0 0]) Tryz.zeroValue26 (by kernel_rfl)) rfl ?_
 rintro _ w14 ⟨b15, rfl, hl_b15, hu_b15, p16, c_w14⟩
 have hs_w14 : w13.heap.size ≤ w14.heap.size := Chg.size c_w14
 replace p3 := p3.k c_w14
 replace p6 := p6.k c_w14
 replace p9 := p9.k c_w14
 replace p12 := p12.k c_w14
 have C_w14 := Chg.pure C_w13 c_w14
 have hn_b15 : w.heap.size ≤ b15 := by have := Chg.size C_w14; omega
 refine s_end ?_
 refine go_seq ?_
 refine go_region 1 rfl rfl ?_
 refine s_do rfl rfl (w_alloc ([.nilFunc]) Tryz.zeroValue67 (by kernel_rfl)) rfl ?_
 rintro _ w17 ⟨b18, rfl, hl_b18, hu_b18, p19, c_w17⟩
 have hs_w17 : w14.heap.size ≤ w17.heap.size := Chg.size c_w17
 replace p3 := p3.k c_w17
 replace p6 := p6.k c_w17
 replace p9 := p9.k c_w17
 replace p12 := p12.k c_w17
 replace p16 := p16.k c_w17
 have C_w17 := Chg.pure C_w14 c_w17
 have hn_b18 : w.heap.size ≤ b18 := by have := Chg.size C_w17; omega
 refine s_end ?_
 refine go_seq ?_
 refine go_region 2 rfl rfl ?_
 refine s_val rfl rfl (r_makeFunc rfl) rfl ?_
 refine s_do rfl rfl (w_store1 (o := 0) Tryz.sizeOf67 rfl rfl rfl rfl p19) rfl ?_
 rintro _ w20 ⟨q_w20, c_w20⟩
 have hs_w20 : w17.heap.size ≤ w20.heap.size := Chg.size c_w20
 replace p3 := p3.kb c_w20 (by omega)
 replace p6 := p6.kb c_w20 (by omega)
 replace p9 := p9.kb c_w20 (by omega)
 replace p12 := p12.kb c_w20 (by omega)
 replace p16 := p16.kb c_w20 (by omega)
 have C_w20 := Chg.newRng C_w17 c_w20 (by omega)
 have p19 := q_w20
 refine s_end ?_
 refine go_seq ?_
 refine go_seq ?_
 refine go_region 3 rfl rfl ?_
 refine s_val rfl rfl (r_load1 Tryz.isAgg67 rfl p19.rd) rfl ?_
 have hc2_ : chooseF need ((n - need) / 2) S [] S = none ∨ ∃ Y_, chooseF need ((n - need) / 2) S [] S = some Y_ := by cases chooseF need ((n - need) / 2) S [] S with | none => exact .inl rfl | some p_ => exact .inr ⟨p_, rfl⟩
 have hcall_ := chooseC_spec n S a n c need ((n - need) / 2) b2 b5 b11 b15 b18 hn (by omega) hS hnd (by omega) (by omega) (by omega) (by omega) (by omega) [] 0 none 0 0 (.slice none 0 0) w20 (by omega) (by omega) rfl (by omega) AllS.nil (by simpa using hxn) (hsl.k C_w20) (.inl rfl) p3.rd p6.rd p12.rd p16 p19.rd (fun x_ hx_ => by have h_ := SlAt.blk hsl (scells_ne hS (by omega)) x_ hx_; omega) (fun x_ hx_ => by cases hx_)
 refine s_do rfl rfl (w_callV (cap := [.pointer (some ⟨b2, 0, none⟩), .pointer (some ⟨b5, 0, none⟩), .pointer (some ⟨b11, 0, none⟩), .pointer (some ⟨b15, 0, none⟩), .pointer (some ⟨b18, 0, none⟩)]) Tryz.call27 rfl rfl hcall_) rfl ?_
 rintro v22 w21 ⟨hcS_, hcN_, c_w21⟩
 clear p16 hcall_
 have hs_w21 : w20.heap.size ≤ w21.heap.size := Chg.size c_w21
 replace p3 := p3.kB c_w21 (by omega)
 replace p6 := p6.kB c_w21 (by omega)
 replace p9 := p9.kB c_w21 (by omega)
 replace p12 := p12.kB c_w21 (by omega)
 replace p19 := p19.kB c_w21 (by omega)
 have C_w21 := Chg.newB C_w20 c_w21 (by omega)
 rcases hc2_ with hc2 | ⟨X, hc2⟩
 ·skip
  have hp_ := hcN_ hc2
  clear hcS_ hcN_
  obtain ⟨hv_, h8⟩ := hp_
  subst hv_
  skip
  refine s_val rfl rfl (r_not rfl) rfl ?_
  refine s_end ?_
  refine go_true rfl ?_
  refine go_seq ?_
  refine go_region 4 rfl rfl ?_
  refine s_val rfl rfl (r_buildA Tryz.zeroValue23 Tryz.runUnderlying23 Tryz.sizeOf5 (cs := bs (List.replicate 32 0)) (by kernel_rfl)) rfl ?_
  refine s_do rfl rfl (w_storeA (o := 0) Tryz.sizeOf23 rfl rfl (bs_len (by first | omega | (simp; try omega))) (flat_bs _) p9 (bs_len (by first | omega | (simp; try omega)))) rfl ?_
  rintro _ w23 ⟨q_w23, c_w23⟩
  have hs_w23 : w21.heap.size ≤ w23.heap.size := Chg.size c_w23
  replace p3 := p3.kb c_w23 (by omega)
  replace p6 := p6.kb c_w23 (by omega)
  replace p12 := p12.kb c_w23 (by omega)
  replace p19 := p19.kb c_w23 (by omega)
  have C_w23 := Chg.newRng C_w21 c_w23 (by omega)
  have p9 := q_w23
  refine s_val rfl rfl (r_assign) rfl ?_
  refine s_val rfl rfl (r_assign) rfl ?_
  refine s_end ?_
  refine go_ret ?_
  refine ⟨_, .cons ⟨_, rfl, run_load_agg Tryz.isAgg23 Tryz.sizeOf23 (bs_len (by first | omega | (simp; try omega))) p9.rd⟩ (.cons rfl (.cons rfl (.nil))), ?_⟩
  have hm_ := mendR_none1 hn hc2
  exact ⟨fun r_ h_ => (Option.some_ne_none _ (h_.symm.trans hm_)).elim, fun _ => rfl, C_w23⟩
 ·skip
  have hp_ := hcS_ _ hc2
  clear hcS_ hcN_
  obtain ⟨hv_, aX, cX, h8, hcX, hsX, hneX, hloX⟩ := hp_
  subst hv_
  have hch_ := choose_some hc2
  obtain ⟨hXl, _, Y_, hY_, eY_⟩ := hch_
  rw [List.nil_append] at eY_
  subst eY_
  have hXS : AllS X := fun s_ h_ => hS s_ (hY_.subset h_)
  have hXn : (X.map (·.x)).Nodup := (hY_.map _).nodup hxn
  have hhiX := SlAt.blk hsX
  skip
  refine s_val rfl rfl (r_not rfl) rfl ?_
  refine s_end ?_
  refine go_false rfl ?_
  refine go_skip ?_
  refine go_seq ?_
  refine go_region 8 rfl rfl ?_
  refine s_val rfl rfl (r_load1 Tryz.isAgg26 rfl h8.rd) rfl ?_
  have hsd_ : secretF X = none ∨ ∃ k_, secretF X = some k_ := by cases secretF X with | none => exact .inl rfl | some p_ => exact .inr ⟨p_, rfl⟩
  refine s_do rfl rfl (w_call Tryz.call30 rfl (secretOf_spec X _ _ _ _ hXl (by omega) hXS hXn hsX)) rfl ?_
  rintro v25 w24 ⟨hpS_, hpN_, c_w24⟩
  have hs_w24 : w21.heap.size ≤ w24.heap.size := Chg.size c_w24
  replace p3 := p3.k c_w24
  replace p6 := p6.k c_w24
  replace p9 := p9.k c_w24
  replace p12 := p12.k c_w24
  replace p19 := p19.k c_w24
  replace h8 := h8.k c_w24
  replace hsX := hsX.k c_w24
  have C_w24 := Chg.pure C_w21 c_w24
  rcases hsd_ with hsd | ⟨kS, hsd⟩
  ·skip
   have hp_ := hpN_ hsd
   clear hpS_ hpN_
   subst hp_
   skip
   refine s_val rfl rfl (r_move) rfl ?_
   refine s_val rfl rfl (r_extract rfl rfl) rfl ?_
   refine s_val rfl rfl (r_extract rfl rfl) rfl ?_
   refine s_do rfl rfl (w_alloc (bs (List.replicate 32 0)) Tryz.zeroValue23 (by kernel_rfl)) rfl ?_
   rintro _ w26 ⟨b27, rfl, hl_b27, hu_b27, p28, c_w26⟩
   have hs_w26 : w24.heap.size ≤ w26.heap.size := Chg.size c_w26
   replace p3 := p3.k c_w26
   replace p6 := p6.k c_w26
   replace p9 := p9.k c_w26
   replace p12 := p12.k c_w26
   replace p19 := p19.k c_w26
   replace h8 := h8.k c_w26
   replace hsX := hsX.k c_w26
   have C_w26 := Chg.pure C_w24 c_w26
   have hn_b27 : w.heap.size ≤ b27 := by have := Chg.size C_w26; omega
   refine s_do rfl rfl (w_storeA (o := 0) Tryz.sizeOf23 rfl rfl (bs_len (by first | omega | (simp; try omega))) (flat_bs _) p28 (bs_len (by first | omega | (simp; try omega)))) rfl ?_
   rintro _ w29 ⟨q_w29, c_w29⟩
   have hs_w29 : w26.heap.size ≤ w29.heap.size := Chg.size c_w29
   replace p3 := p3.kb c_w29 (by omega)
   replace p6 := p6.kb c_w29 (by omega)
   replace p9 := p9.kb c_w29 (by omega)
   replace p12 := p12.kb c_w29 (by omega)
   replace p19 := p19.kb c_w29 (by omega)
   replace h8 := h8.kb c_w29 (by omega)
   replace hsX := SlAt.keptE hsX c_w29 (fun hc_ b_ o_ ha_ o2_ m_ => by have h1_ := hhiX hc_ _ ha_; have h3_ := hloX _ ha_; have h2_ : b_ = b27 := m_.1; simp only at h1_ h3_; omega)
   have C_w29 := Chg.newRng C_w26 c_w29 (by omega)
   have p28 := q_w29
   refine s_val rfl rfl (r_assign) rfl ?_
   refine s_end ?_
   refine go_seq ?_
   refine go_seq ?_
   refine go_region 2 rfl rfl ?_
   refine s_val rfl rfl (r_move) rfl ?_
   refine s_val rfl rfl (r_not rfl) rfl ?_
   refine s_end ?_
   refine go_true rfl ?_
   refine go_seq ?_
   refine go_region 4 rfl rfl ?_
   refine s_val rfl rfl (r_buildA Tryz.zeroValue23 Tryz.runUnderlying23 Tryz.sizeOf5 (cs := bs (List.replicate 32 0)) (by kernel_rfl)) rfl ?_
   refine s_do rfl rfl (w_storeA (o := 0) Tryz.sizeOf23 rfl rfl (bs_len (by first | omega | (simp; try omega))) (flat_bs _) p9 (bs_len (by first | omega | (simp; try omega)))) rfl ?_
   rintro _ w30 ⟨q_w30, c_w30⟩
   have hs_w30 : w29.heap.size ≤ w30.heap.size := Chg.size c_w30
   replace p3 := p3.kb c_w30 (by omega)
   replace p6 := p6.kb c_w30 (by omega)
   replace p12 := p12.kb c_w30 (by omega)
   replace p19 := p19.kb c_w30 (by omega)
   replace h8 := h8.kb c_w30 (by omega)
   replace hsX := SlAt.keptE hsX c_w30 (fun hc_ b_ o_ ha_ o2_ m_ => by have h1_ := hhiX hc_ _ ha_; have h3_ := hloX _ ha_; have h2_ : b_ = b8 := m_.1; simp only at h1_ h3_; omega)
   replace p28 := p28.kb c_w30 (by omega)
   have C_w30 := Chg.newRng C_w29 c_w30 (by omega)
   have p9 := q_w30
   refine s_val rfl rfl (r_assign) rfl ?_
   refine s_val rfl rfl (r_assign) rfl ?_
   refine s_end ?_
   refine go_ret ?_
   refine ⟨_, .cons ⟨_, rfl, run_load_agg Tryz.isAgg23 Tryz.sizeOf23 (bs_len (by first | omega | (simp; try omega))) p9.rd⟩ (.cons rfl (.cons rfl (.nil))), ?_⟩
   have hm_ := mendR_none2 hn hc2 hsd
   exact ⟨fun r_ h_ => (Option.some_ne_none _ (h_.symm.trans hm_)).elim, fun _ => rfl, C_w30⟩
  ·skip
   have hp_ := hpS_ _ hsd
   clear hpS_ hpN_
   subst hp_
   have hkS : kS.length = 32 := secretF_len hsd
   skip
   refine s_val rfl rfl (r_move) rfl ?_
   refine s_val rfl rfl (r_extract rfl rfl) rfl ?_
   refine s_val rfl rfl (r_extract rfl rfl) rfl ?_
   refine s_do rfl rfl (w_alloc (bs (List.replicate 32 0)) Tryz.zeroValue23 (by kernel_rfl)) rfl ?_
   rintro _ w31 ⟨b32, rfl, hl_b32, hu_b32, p33, c_w31⟩
   have hs_w31 : w24.heap.size ≤ w31.heap.size := Chg.size c_w31
   replace p3 := p3.k c_w31
   replace p6 := p6.k c_w31
   replace p9 := p9.k c_w31
   replace p12 := p12.k c_w31
   replace p19 := p19.k c_w31
   replace h8 := h8.k c_w31
   replace hsX := hsX.k c_w31
   have C_w31 := Chg.pure C_w24 c_w31
   have hn_b32 : w.heap.size ≤ b32 := by have := Chg.size C_w31; omega
   refine s_do rfl rfl (w_storeA (o := 0) Tryz.sizeOf23 rfl rfl (bs_len (by first | omega | (simp; try omega))) (flat_bs _) p33 (bs_len (by first | omega | (simp; try omega)))) rfl ?_
   rintro _ w34 ⟨q_w34, c_w34⟩
   have hs_w34 : w31.heap.size ≤ w34.heap.size := Chg.size c_w34
   replace p3 := p3.kb c_w34 (by omega)
   replace p6 := p6.kb c_w34 (by omega)
   replace p9 := p9.kb c_w34 (by omega)
   replace p12 := p12.kb c_w34 (by omega)
   replace p19 := p19.kb c_w34 (by omega)
   replace h8 := h8.kb c_w34 (by omega)
   replace hsX := SlAt.keptE hsX c_w34 (fun hc_ b_ o_ ha_ o2_ m_ => by have h1_ := hhiX hc_ _ ha_; have h3_ := hloX _ ha_; have h2_ : b_ = b32 := m_.1; simp only at h1_ h3_; omega)
   have C_w34 := Chg.newRng C_w31 c_w34 (by omega)
   have p33 := q_w34
   refine s_val rfl rfl (r_assign) rfl ?_
   refine s_end ?_
   refine go_seq ?_
   refine go_seq ?_
   refine go_region 2 rfl rfl ?_
   refine s_val rfl rfl (r_move) rfl ?_
   refine s_val rfl rfl (r_not rfl) rfl ?_
   refine s_end ?_
   refine go_false rfl ?_
   refine go_skip ?_
   refine go_seq ?_
   refine go_region 1 rfl rfl ?_
   refine s_val rfl rfl (r_assign) rfl ?_
   refine s_end ?_
   refine go_seq ?_
   refine go_seq ?_
   refine go_region 3 rfl rfl ?_
   refine s_val rfl rfl (r_load1 Tryz.isAgg26 rfl p6.rd) rfl ?_
   refine s_val rfl rfl (r_len Tryz.runUnderlying26 rfl) rfl ?_
   refine s_val rfl rfl (r_move) rfl ?_
   refine s_end ?_
   refine go_block ?_
   refine go_loopM (σ := Nat × Option Addr × Nat × Nat) [(12, 12), (14, 14), (35, 48)] (fun (x_ : Nat × Option Addr × Nat × Nat) e' w' => match x_ with | (k, a5, n5, c5) => e' 35 = i64 (k : Nat) ∧ e' 12 = Value.slice a5 n5 c5 ∧ k ≤ n ∧ n5 = (faultR X (S.take k)).length ∧ w34.heap.size ≤ w'.heap.size ∧ Owns w' w34.heap.size 37 16 (Value.slice a5 n5 c5) n5 (bs (faultR X (S.take k)).flatten) ∧ n5 ≤ c5 ∧ Pc w' b15 0 [Value.slice aX need cX] ∧ SlAt w' aX (scells X) ∧ b15 < w34.heap.size ∧ b8 < w34.heap.size ∧ b32 < w34.heap.size ∧ w34.heap.size ≤ w'.heap.size ∧ (∀ x_, aX = some x_ → x_.block < w34.heap.size) ∧ Pc w' b8 0 (bs (List.replicate 32 0)) ∧ b8 < w'.heap.size ∧ Pc w' b32 0 (bs kS) ∧ Chg no w w') (fun (x_ : Nat × Option Addr × Nat × Nat) => match x_ with | (k, a5, n5, c5) => n - k) (0, none, 0, 0) ?_ ?_
   ·exact ⟨rfl, rfl, by omega, rfl, by omega, Owns.nil _ _ _ _, by omega, h8, hsX, by omega, by omega, by omega, by omega, (fun x_ hx_ => Nat.lt_of_lt_of_le (hhiX (scells_ne hXS (by omega)) x_ hx_) (by omega)), p9, by omega, p33, C_w34⟩
   rintro ⟨k, a5, n5, c5⟩ f36 w35 ⟨e37, e38, hk, hn5, hB_ho12, ho12, hc5, h8, hsX, hu8, hu4, hu10, hcw, hXhi, p9, hu_b8, p10, C_w35⟩
   have ob_40 : ∃ g_, f36 = upd g_ 35 (i64 (k : Nat)) := ⟨f36, upd_id e37⟩
   obtain ⟨f39, rfl⟩ := ob_40
   have ob_42 : ∃ g_, f39 = upd g_ 12 (Value.slice a5 n5 c5) := ⟨f39, upd_id e38⟩
   obtain ⟨f41, rfl⟩ := ob_42
   clear e37 e38
   have hs_w35 : w.heap.size ≤ w35.heap.size := Chg.size C_w35
   have hfl_ := faultR_le X S k
   have hhiX := (fun (_ : scells X ≠ []) x_ hx_ => hXhi x_ hx_ : scells X ≠ [] → ∀ x_, aX = some x_ → x_.block < _)
   refine go_seq ?_
   refine go_region 1 rfl rfl ?_
   refine s_val rfl rfl (r_lss rfl rfl) rfl ?_
   refine s_end ?_
   refine go_seq ?_
   refine go_ifb _ rfl (fun h4 => ?_) (fun h4 => ?_)
   ·first | replace h4 := dcT h4 | replace h4 := dcF (nt h4) | skip
    refine go_skip ?_
    refine go_seq ?_
    refine go_block ?_
    refine go_seq ?_
    refine go_region 4 rfl rfl ?_
    refine s_val rfl rfl (r_indexSl (k := k) Tryz.runUnderlying26 Tryz.sizeOf40 rfl (hsl.k C_w35) (scells_ne hS (by first | omega | (simp; omega))) rfl (by first | rfl | omega) (by omega)) rfl ?_
    refine s_val rfl rfl (r_loadSlN Tryz.isAgg40 Tryz.sizeOf40 rfl (hsl.k C_w35) (scell_len (AllS.get hS k)) (scells_ne hS (by first | omega | (simp; omega))) (scells_get hS (by first | omega | (simp; omega)))) rfl ?_
    refine s_do rfl rfl (w_alloc (scell shr0) Tryz.zeroValue40 (by kernel_rfl)) rfl ?_
    rintro _ w43 ⟨b44, rfl, hl_b44, hu_b44, p45, c_w43⟩
    have ne_b44_ho12 := Owns.ne_ge ho12 hl_b44
    have hs_w43 : w35.heap.size ≤ w43.heap.size := Chg.size c_w43
    replace ho12 := ho12.k c_w43
    replace h8 := h8.k c_w43
    replace hsX := hsX.k c_w43
    replace p9 := p9.k c_w43
    replace p10 := p10.k c_w43
    have C_w43 := Chg.pure C_w35 c_w43
    have hn_b44 : w.heap.size ≤ b44 := by have := Chg.size C_w43; omega
    refine s_do rfl rfl (w_storeA (o := 0) (cs := scell (S.getD k shr0)) Tryz.sizeOf40 rfl rfl (scell_len (AllS.get hS k)) (flat_scell _) p45 (scell_len shr0_ok)) rfl ?_
    rintro _ w46 ⟨q_w46, c_w46⟩
    have hs_w46 : w43.heap.size ≤ w46.heap.size := Chg.size c_w46
    replace ho12 := ho12.kb c_w46 ne_b44_ho12
    replace h8 := h8.kb c_w46 (by omega)
    replace hsX := SlAt.keptE hsX c_w46 (fun hc_ b_ o_ ha_ o2_ m_ => by have h1_ := hhiX hc_ _ ha_; have h3_ := hloX _ ha_; have h2_ : b_ = b44 := m_.1; simp only at h1_ h3_; omega)
    replace p9 := p9.kb c_w46 (by omega)
    replace p10 := p10.kb c_w46 (by omega)
    have C_w46 := Chg.newRng C_w43 c_w46 (by omega)
    have p47 : Pc w46 b44 0 (bs (S.getD k shr0).h) := Pc.shrH q_w46
    have hlH_p47 : ((S.getD k shr0).h).length = 16 := (AllS.get hS k).1
    have p48 : Pc w46 b44 16 [fi (S.getD k shr0).x] := Pc.shrX q_w46 (AllS.get hS k)
    have p49 : Pc w46 b44 17 (us (S.getD k shr0).y) := Pc.shrY q_w46 (AllS.get hS k)
    have hlY_p49 : ((S.getD k shr0).y).length = 32 := (AllS.get hS k).2
    clear q_w46
    refine s_end ?_
    refine go_seq ?_
    refine go_region 4 rfl rfl ?_
    refine s_val rfl rfl (r_load1 Tryz.isAgg26 rfl h8.rd) rfl ?_
    refine s_val rfl rfl (r_loadN Tryz.isAgg40 Tryz.sizeOf40 rfl (Rd.shrAll (AllS.get hS k) p47.rd p48.rd p49.rd) (scell_len (AllS.get hS k))) rfl ?_
    refine s_do rfl rfl (w_call Tryz.call28 rfl (liesR_spec X _ _ _ (S.getD k shr0) _ hXl (by omega) hXS hXn hsX (AllS.get hS k))) rfl ?_
    rintro _ w50 ⟨rfl, c_w50⟩
    have hs_w50 : w46.heap.size ≤ w50.heap.size := Chg.size c_w50
    replace ho12 := ho12.k c_w50
    replace h8 := h8.k c_w50
    replace hsX := hsX.k c_w50
    replace p9 := p9.k c_w50
    replace p10 := p10.k c_w50
    replace p47 := p47.k c_w50
    replace p48 := p48.k c_w50
    replace p49 := p49.k c_w50
    have C_w50 := Chg.pure C_w46 c_w50
    refine s_val rfl rfl (r_not rfl) rfl ?_
    refine s_end ?_
    refine go_ifb _ rfl (fun h5 => ?_) (fun h5 => ?_)
    ·skip
     replace h5 : liesR X (S.getD k shr0) = false := not_t h5
     refine go_region 6 rfl rfl ?_
     refine s_val rfl rfl (r_move) rfl ?_
     refine s_val rfl rfl (r_fieldAddr Tryz.runUnderlying40 rfl Tryz.sizeOf37 rfl rfl) rfl ?_
     refine s_val rfl rfl (r_loadN Tryz.isAgg37 Tryz.sizeOf37 rfl p47.rd (bs_len (by first | omega | (simp; try omega)))) rfl ?_
     refine s_do rfl rfl (w_buildA1 (E := 37) (sz := 16) Tryz.underlying24 (i := Tryz.t37) (by kernel_rfl) rfl rfl rfl rfl rfl rfl (bs_len (by first | omega | (simp; try omega)))) rfl ?_
     rintro _ w51 ⟨b52, rfl, hl_b52, hu_b52, o54, p53, c_w51⟩
     have ne_b52_ho12 := Owns.ne_ge ho12 hl_b52
     have hs_w51 : w50.heap.size ≤ w51.heap.size := Chg.size c_w51
     replace ho12 := ho12.k c_w51
     replace h8 := h8.k c_w51
     replace hsX := hsX.k c_w51
     replace p9 := p9.k c_w51
     replace p10 := p10.k c_w51
     replace p47 := p47.k c_w51
     replace p48 := p48.k c_w51
     replace p49 := p49.k c_w51
     have C_w51 := Chg.pure C_w50 c_w51
     have hn_b52 : w.heap.size ≤ b52 := by have := Chg.size C_w51; omega
     refine s_do rfl rfl (w_append (E := 37) (sz := 16) Tryz.underlying24 rfl (i := Tryz.t37) (by kernel_rfl) rfl rfl rfl rfl (by rfl) ho12 rfl (SlAt.some p53.rd) (by first | (rw [bs_length]; omega) | (simp [bs_length]; done) | (simp [bs_length]; omega) | rfl) (flat_bs _) (by omega) (by show _ * 16 ≤ _; omega) (by omega)) rfl ?_
     rintro v59 w55 ⟨o56, c_w55⟩
     have hs_w55 : w51.heap.size ≤ w55.heap.size := Chg.size c_w55
     replace h8 := h8.kob c_w55 (Owns.ne_lt ho12 (by omega))
     replace hsX := SlAt.keptE hsX c_w55 (fun hc_ b_ o_ ha_ o2_ m_ => by have h1_ := hhiX hc_ _ ha_; simp only at h1_; exact Owns.ne_lt ho12 (by omega) m_)
     replace p9 := p9.kob c_w55 (Owns.ne_lt ho12 (by omega))
     replace p10 := p10.kob c_w55 (Owns.ne_lt ho12 (by omega))
     replace p47 := p47.kob c_w55 ne_b44_ho12
     replace p48 := p48.kob c_w55 ne_b44_ho12
     replace p49 := p49.kob c_w55 ne_b44_ho12
     replace p53 := p53.kob c_w55 ne_b52_ho12
     have C_w55 := Chg.newOb C_w51 c_w55 ho12 (by omega)
     have hfo_o56 := Owns.form2 o56
     obtain ⟨A57, cap58, e_o56, hc_cap58⟩ := hfo_o56
     subst e_o56
     replace o56 := Owns.appB o56
     refine s_val rfl rfl (r_assign) rfl ?_
     refine s_end ?_
     refine go_nil (block_normal ?_)
     refine go_region 2 rfl rfl ?_
     refine s_val rfl rfl (r_addi rfl rfl (by omega)) rfl ?_
     refine s_val rfl rfl (r_move) rfl ?_
     refine s_end ?_
     refine go_nil (loop_normal ⟨⟨(k + 1, A57, n5 + 1, cap58), by first | omega | (dsimp only; omega), ⟨rfl, rfl, by omega, by rw [faultR_t (by omega) h5, List.length_append, ← hn5]; rfl, by omega, by rw [faultR_t (by omega) h5, List.flatten_append]; simpa using o56, by omega, h8, hsX, by omega, by omega, by omega, by omega, hXhi, p9, by omega, p10, C_w55⟩⟩, (by repeat (first | exact same_refl | exact same_over | refine same_upd rfl ?_ | refine same_over2 rfl ?_))⟩)
    ·skip
     replace h5 : liesR X (S.getD k shr0) = true := not_f h5
     refine go_skip ?_
     refine go_nil (block_normal ?_)
     refine go_region 2 rfl rfl ?_
     refine s_val rfl rfl (r_addi rfl rfl (by omega)) rfl ?_
     refine s_val rfl rfl (r_move) rfl ?_
     refine s_end ?_
     refine go_nil (loop_normal ⟨⟨(k + 1, a5, n5, c5), by first | omega | (dsimp only; omega), ⟨rfl, rfl, by omega, by rw [faultR_f (by omega) h5]; exact hn5, by omega, by rw [faultR_f (by omega) h5]; exact ho12, by omega, h8, hsX, by omega, by omega, by omega, by omega, hXhi, p9, by omega, p10, C_w50⟩⟩, (by repeat (first | exact same_refl | exact same_over | refine same_upd rfl ?_ | refine same_over2 rfl ?_))⟩)
   ·first | replace h4 := dcF h4 | replace h4 := dcT (nf h4) | skip
    have hkn : k = n := by omega
    rw [List.take_of_length_le (by omega)] at ho12 hn5
    refine go_exit (loop_exit (block_hit ?_))
    refine go_seq ?_
    refine go_region 5 rfl rfl ?_
    refine s_val rfl rfl (r_loadN Tryz.isAgg23 Tryz.sizeOf23 rfl p10.rd (bs_len (by first | omega | (simp; try omega)))) rfl ?_
    refine s_val rfl rfl (r_move) rfl ?_
    refine s_do rfl rfl (w_storeA (o := 0) Tryz.sizeOf23 rfl rfl (bs_len (by first | omega | (simp; try omega))) (flat_bs _) p9 (bs_len (by first | omega | (simp; try omega)))) rfl ?_
    rintro _ w60 ⟨q_w60, c_w60⟩
    have hs_w60 : w35.heap.size ≤ w60.heap.size := Chg.size c_w60
    replace ho12 := ho12.kb c_w60 (Owns.ne_lt ho12 (by omega))
    replace h8 := h8.kb c_w60 (by omega)
    replace hsX := SlAt.keptE hsX c_w60 (fun hc_ b_ o_ ha_ o2_ m_ => by have h1_ := hhiX hc_ _ ha_; have h3_ := hloX _ ha_; have h2_ : b_ = b8 := m_.1; simp only at h1_ h3_; omega)
    replace p10 := p10.kb c_w60 (by omega)
    have C_w60 := Chg.newRng C_w35 c_w60 (by omega)
    have p9 := q_w60
    refine s_val rfl rfl (r_assign) rfl ?_
    refine s_val rfl rfl (r_assign) rfl ?_
    refine s_end ?_
    refine go_ret ?_
    refine ⟨_, .cons ⟨_, rfl, run_load_agg Tryz.isAgg23 Tryz.sizeOf23 (bs_len (by first | omega | (simp; try omega))) p9.rd⟩ (.cons rfl (.cons rfl (.nil))), ?_⟩
    have hm_ := mendR_some hn hc2 hsd
    refine ⟨fun r_ h_ => ?_, fun h_ => (Option.some_ne_none _ (hm_.symm.trans h_)).elim, C_w60⟩
    have e_ : r_ = (kS, faultR X S) := Option.some.inj (h_.symm.trans hm_)
    subst e_
    exact ⟨a5, c5, congrArg (fun m_ => tup [Value.agg (bs kS).toArray, Value.slice a5 m_ c5, i64 0]) hn5, by show (faultR _ S).length ≤ _; omega, hkS, Owns.sl ho12, fun x_ hx_ => by have h_ := Owns.lo ho12 x_ hx_; omega⟩
end Go.Proofs.YtippcmedgfmgbaaGreat
end
section
open Go Go.Proofs Go.Eng
namespace Go.Proofs.YtippcmedgfmgbaaGreat
theorem eqIds_spec (H : List (List UInt8)) (a b : Option Addr) (n c c2 : Nat) (w : World) (hb : n ≤ 64) (hH : H.length = n) (h16 : All16 H) (hsl : SlAt w a (bs H.flatten)) (hsm : SlAt w b (bs H.flatten)) :
    Rtn Tryz.prog 12 [Value.slice a n c, Value.slice b n c2].toArray w (fun v w' => v = .bool true ∧ Kept w w') := by
  by_cases h0 : n = 0
  · subst h0
    exact eqId0_spec a b c c2 w
  · exact eqId_spec H a b n c c2 w (by omega) hb hH h16 hsl hsm
theorem mendR_bad {need : Nat} {S : List Shr} {k : List UInt8} {bad : List (List UInt8)} (h : mendR need S = some (k, bad)) : ∃ X, bad = faultR X S := by
  cases hc : chooseF need ((S.length - need) / 2) S [] S with
  | none => rw [mendR_none1 rfl hc] at h; cases h
  | some X =>
    cases h2 : secretF X with
    | none => rw [mendR_none2 rfl hc h2] at h; cases h
    | some k' =>
      rw [mendR_some rfl hc h2] at h
      cases h
      exact ⟨X, rfl⟩
theorem mendR_len {need : Nat} {S : List Shr} {k : List UInt8} {bad : List (List UInt8)} (h : mendR need S = some (k, bad)) : k.length = 32 := by
  cases hc : chooseF need ((S.length - need) / 2) S [] S with
  | none => rw [mendR_none1 rfl hc] at h; cases h
  | some X =>
    cases h2 : secretF X with
    | none => rw [mendR_none2 rfl hc h2] at h; cases h
    | some k' =>
      rw [mendR_some rfl hc h2] at h
      cases h
      exact secretF_len h2
theorem fault_16 {X S : List Shr} (hS : AllS S) : All16 (faultR X S) := fun x hx => by
  obtain ⟨s, hs, rfl⟩ := List.mem_map.1 hx
  exact (hS s ((List.mem_filter.1 hs).1)).1
theorem fault_len (X S : List Shr) : (faultR X S).length ≤ S.length := by
  unfold faultR
  rw [List.length_map]
  exact List.length_filter_le _ _
theorem bad_16 {need : Nat} {S : List Shr} {k : List UInt8} {bad : List (List UInt8)} (hS : AllS S) (h : mendR need S = some (k, bad)) : All16 bad ∧ bad.length ≤ S.length := by
  obtain ⟨X, rfl⟩ := mendR_bad h
  exact ⟨fault_16 hS, fault_len X S⟩
theorem fI_addval (a b : F) : fI (((a.val + b.val : Nat) : Int)) = a + b := by
  rw [show (((a.val + b.val : Nat) : Int)) = ((a.val : Nat) : Int) + ((b.val : Nat) : Int) by omega, fI_add, fI_cast, fI_cast]
/-- the shares, one value of one of them changed -/
def chgS (secret seed : List UInt8) (need n : Nat) (H : List (List UInt8)) (at_ oct by_ : Int) : List Shr :=
  putO (valS secret seed need n H) (idxN at_ n) (idxN oct 32) ((((valS secret seed need n H).getD (idxN at_ n) shr0).y.getD (idxN oct 32) 0) + fI by_)
variable {secret seed : List UInt8} {need n : Nat} {H : List (List UInt8)} {at_ oct by_ : Int}
@[simp] theorem chgS_len : (chgS secret seed need n H at_ oct by_).length = n := by rw [chgS, putO_len, valS_len]
theorem chgS_ok (h16 : All16 H) (hH : H.length = n) : AllS (chgS secret seed need n H at_ oct by_) := putO_ok (valS_ok h16 hH) _ _ _
theorem chgS_xeq (h0 : 0 < n) : (chgS secret seed need n H at_ oct by_).map (·.x) = (valS secret seed need n H).map (·.x) := putO_x (by rw [valS_len]; exact idxN_lt _ h0)
theorem chgS_xn (h0 : 0 < n) (hb : n ≤ 32) : ((chgS secret seed need n H at_ oct by_).map (·.x)).Nodup := by rw [chgS_xeq h0]; exact valS_xn hb
theorem chgS_x0 (h0 : 0 < n) (hb : n ≤ 32) : ∀ s ∈ chgS secret seed need n H at_ oct by_, s.x ≠ 0 := mem_x0 (by rw [chgS_xeq h0]; exact valS_x0 hb)
theorem chgS_hn (h0 : 0 < n) (hH : H.length = n) (hord : ordTo H n = false) : ((chgS secret seed need n H at_ oct by_).map (·.h)).Nodup := by
  rw [chgS, putO_h (by rw [valS_len]; exact idxN_lt _ h0), valS_h hH]
  exact ord_nodup (by rw [hH]; exact hord)
end Go.Proofs.YtippcmedgfmgbaaGreat
end
section
open Go Go.Eng Go.Proofs
namespace Go.Proofs.YtippcmedgfmgbaaGreat
set_option maxHeartbeats 8000000 in
set_option maxRecDepth 100000 in
theorem lawE_spec (secret seed : List UInt8) (need : Int) (H : List (List UInt8)) (aH : Option Addr) (n cH : Nat) (at_ oct by_ : Int) (w : World) (hk : secret.length = 32) (hs : seed.length = 32) (hH : H.length = n) (hA16 : All16 H) (hby : 0 ≤ by_) (hnb : n ≤ 9223372036854775807) (hbad : hErrTo need n H n ≠ 0) (hslH : SlAt w aH (bs H.flatten)) :
  Rtn Tryz.prog 3 [.agg (bs secret).toArray, i64 need, Value.slice aH n cH, .agg (bs seed).toArray, i64 at_, i64 oct, .int .u16 by_].toArray w (fun v w' => v = .bool true ∧ Kept w w') := by
 refine fn_body (l := [.agg (bs secret).toArray, i64 need, Value.slice aH n cH, .agg (bs seed).toArray, i64 at_, i64 oct, .int .u16 by_]) 170 [.tmp 14] Tryz.func3 rfl Tryz.ntmps3 (Nat.le_of_ble_eq_true rfl) (by rw [Tryz.results3]) ?_
 refine go_seq ?_
 refine go_region 3 rfl rfl ?_
 refine s_do rfl rfl (w_boxA rfl) rfl ?_
 rintro _ w1 ⟨b2, rfl, hl_b2, hu_b2, p3, c_w1⟩
 have hs_w1 : w.heap.size ≤ w1.heap.size := Chg.size c_w1
 have C_w1 := Chg.pure (Chg.refl no w) c_w1
 have hn_b2 : w.heap.size ≤ b2 := by have := Chg.size C_w1; omega
 refine s_do rfl rfl (w_boxA rfl) rfl ?_
 rintro _ w4 ⟨b5, rfl, hl_b5, hu_b5, p6, c_w4⟩
 have hs_w4 : w1.heap.size ≤ w4.heap.size := Chg.size c_w4
 replace p3 := p3.k c_w4
 have C_w4 := Chg.pure C_w1 c_w4
 have hn_b5 : w.heap.size ≤ b5 := by have := Chg.size C_w4; omega
 refine s_val rfl rfl (r_assign) rfl ?_
 refine s_end ?_
 refine go_seq ?_
 refine go_region 13 rfl rfl ?_
 refine s_val rfl rfl (r_loadN Tryz.isAgg23 Tryz.sizeOf23 rfl p3.rd (bs_len (by first | omega | (simp; try omega)))) rfl ?_
 refine s_val rfl rfl (r_move) rfl ?_
 refine s_val rfl rfl (r_move) rfl ?_
 refine s_val rfl rfl (r_loadN Tryz.isAgg23 Tryz.sizeOf23 rfl p6.rd (bs_len (by first | omega | (simp; try omega)))) rfl ?_
 have hcall_ := splitRootE_spec secret seed need H aH n cH w4 hk hs hH hA16 hbad (hslH.k C_w4)
 refine s_do rfl rfl (w_call Tryz.call4 rfl hcall_) rfl ?_
 rintro _ w7 ⟨rfl, c_w7⟩
 clear hcall_
 have hs_w7 : w4.heap.size ≤ w7.heap.size := Chg.size c_w7
 replace p3 := p3.k c_w7
 replace p6 := p6.k c_w7
 have C_w7 := Chg.pure C_w4 c_w7
 refine s_val rfl rfl (r_move) rfl ?_
 refine s_val rfl rfl (r_extract rfl rfl) rfl ?_
 refine s_val rfl rfl (r_extract rfl rfl) rfl ?_
 refine s_val rfl rfl (r_extract rfl rfl) rfl ?_
 refine s_do rfl rfl (w_alloc (bs (List.replicate 32 0)) Tryz.zeroValue27 (by kernel_rfl)) rfl ?_
 rintro _ w8 ⟨b9, rfl, hl_b9, hu_b9, p10, c_w8⟩
 have hs_w8 : w7.heap.size ≤ w8.heap.size := Chg.size c_w8
 replace p3 := p3.k c_w8
 replace p6 := p6.k c_w8
 have C_w8 := Chg.pure C_w7 c_w8
 have hn_b9 : w.heap.size ≤ b9 := by have := Chg.size C_w8; omega
 refine s_val rfl rfl (r_assign) rfl ?_
 refine s_do rfl rfl (w_storeA (o := 0) Tryz.sizeOf27 rfl rfl (bs_len (by first | omega | (simp; try omega))) (flat_bs _) p10 (bs_len (by first | omega | (simp; try omega)))) rfl ?_
 rintro _ w11 ⟨q_w11, c_w11⟩
 have hs_w11 : w8.heap.size ≤ w11.heap.size := Chg.size c_w11
 replace p3 := p3.kb c_w11 (by omega)
 replace p6 := p6.kb c_w11 (by omega)
 have C_w11 := Chg.newRng C_w8 c_w11 (by omega)
 have p10 := q_w11
 refine s_val rfl rfl (r_assign) rfl ?_
 refine s_end ?_
 refine go_seq ?_
 refine go_region 4 rfl rfl ?_
 refine s_val rfl rfl (r_move) rfl ?_
 refine s_val rfl rfl (r_move) rfl ?_
 have hcall_ := holdE_spec need H aH n cH w11 (by omega) hH hA16 (hslH.k C_w11)
 refine s_do rfl rfl (w_call Tryz.call5 rfl hcall_) rfl ?_
 rintro _ w12 ⟨rfl, c_w12⟩
 clear hcall_
 have hs_w12 : w11.heap.size ≤ w12.heap.size := Chg.size c_w12
 replace p3 := p3.k c_w12
 replace p6 := p6.k c_w12
 replace p10 := p10.k c_w12
 have C_w12 := Chg.pure C_w11 c_w12
 refine s_val rfl rfl (r_assign) rfl ?_
 refine s_end ?_
 refine go_seq ?_
 refine go_seq ?_
 refine go_region 6 rfl rfl ?_
 refine s_do rfl rfl (w_call Tryz.call6 rfl (vaults_spec _)) rfl ?_
 rintro _ w13 ⟨rfl, c_w13⟩
 have hs_w13 : w12.heap.size ≤ w13.heap.size := Chg.size c_w13
 replace p3 := p3.k c_w13
 replace p6 := p6.k c_w13
 replace p10 := p10.k c_w13
 have C_w13 := Chg.pure C_w12 c_w13
 refine s_val rfl rfl (r_not rfl) rfl ?_
 refine s_val rfl rfl (r_move) rfl ?_
 refine s_val_g rfl rfl (r_move) rfl ?_
 refine s_val_g rfl rfl (r_neq rfl rfl) rfl ?_
 refine s_val rfl rfl (r_pick false rfl) rfl ?_
 refine s_end ?_
 refine go_ifb _ rfl (fun h14 => ?_) (fun h14 => ?_)
 ·first | replace h14 := dcT h14 | replace h14 := dcF (nt h14) | skip
  refine go_seq ?_
  refine go_region 17 rfl rfl ?_
  refine s_do rfl rfl (w_call Tryz.call6 rfl (vaults_spec _)) rfl ?_
  rintro _ w15 ⟨rfl, c_w15⟩
  have hs_w15 : w13.heap.size ≤ w15.heap.size := Chg.size c_w15
  replace p3 := p3.k c_w15
  replace p6 := p6.k c_w15
  replace p10 := p10.k c_w15
  have C_w15 := Chg.pure C_w13 c_w15
  refine s_val rfl rfl (r_move) rfl ?_
  refine s_val_g rfl rfl (r_move) rfl ?_
  refine s_val_g rfl rfl (r_len Tryz.runUnderlying26 rfl) rfl ?_
  refine s_val_g rfl rfl (r_eql rfl rfl) rfl ?_
  refine s_val rfl rfl (r_pick true rfl) rfl ?_
  refine s_valB rfl rfl (r_move) rfl (fun h16 => ?_) (fun h16 => ?_)
  ·first | replace h16 := dcT h16 | replace h16 := dcF (nt h16) | skip
   refine s_val_g rfl rfl (r_loadN Tryz.isAgg27 Tryz.sizeOf27 rfl p10.rd (bs_len (by first | omega | (simp; try omega)))) rfl ?_
   refine s_val_g rfl rfl (r_buildA Tryz.zeroValue27 Tryz.runUnderlying27 Tryz.sizeOf5 (cs := bs (List.replicate 32 0)) (by kernel_rfl)) rfl ?_
   refine s_val_g rfl rfl (r_eqArr Tryz.underlying27 Tryz.underlying5 Tryz.sizeOf5 rfl rfl (by simp) (by simp) (by kernel_rfl)) rfl ?_
   refine s_val rfl rfl (r_pick true rfl) rfl ?_
   refine s_valB rfl rfl (r_move) rfl (fun h17 => ?_) (fun h17 => ?_)
   ·first | replace h17 := dcT h17 | replace h17 := dcF (nt h17) | skip
    refine s_val_g rfl rfl (r_move) rfl ?_
    refine s_val_g rfl rfl (r_move) rfl ?_
    refine s_val_g rfl rfl (r_eql rfl rfl) rfl ?_
    refine s_val rfl rfl (r_pick true rfl) rfl ?_
    refine s_val rfl rfl (r_assign) rfl ?_
    refine s_end ?_
    refine go_ret ?_
    refine ⟨_, .cons rfl (.nil), ?_⟩
    exact ⟨congrArg Value.bool (decide_eq_true rfl), C_w15⟩
   ·first | replace h17 := dcF h17 | replace h17 := dcT (nf h17) | skip
    exfalso
    exact h17 rfl
  ·first | replace h16 := dcF h16 | replace h16 := dcT (nf h16) | skip
   exfalso
   omega
 ·first | replace h14 := dcF h14 | replace h14 := dcT (nf h14) | skip
  exfalso
  omega
end Go.Proofs.YtippcmedgfmgbaaGreat
end
