/- M16: contracts of functions of the program: called in any world that meets a contract's premises, the function returns what the contract says and changes no more than it says. -/
import Derived.Test.YtdnccchcflaphaaM15
import Derived.Test.YtdnccchcflaphaaEng8
import Derived.Test.YtdnccchcflaphaaEng9
import Derived.Test.YtdnccchcflaphaaEng10
import Derived.Test.YtdnccchcflaphaaEng11
import Derived.Test.YtdnccchcflaphaaEng12
import Derived.Test.YtdnccchcflaphaaChecked
open Go Go.Eng Go.Proofs
namespace Go.Proofs.Ytdnccchcflaphaa
set_option maxHeartbeats 1000000 in
theorem appendSeq_spec (tb1 tb2 n c : Nat) (a : Option Addr) (w : World) (hn : n ≤ 1048576) (hc : n ≤ c) (h1 : tb1 < w.heap.size) (h2 : tb2 < w.heap.size) (ht1 : Rd w tb1 0 [Value.slice a n c]) (ht2 : Rd w tb2 0 [i64 1024]) :
    Rtn Try.prog 56 [Value.slice none 0 0, Value.func (.func 57) #[] [Value.pointer (some ⟨tb1, 0, none⟩), Value.pointer (some ⟨tb2, 0, none⟩)].toArray].toArray w
      (fun v w' => Owns w' w.heap.size 22 1 v ((n + 1023) / 1024) (chVals (chP a n ((n + 1023) / 1024))) ∧ Kept w w') := by
  unfold Rtn
  refine (callsIn_wide (n := 5)).1 ?_
  refine callsIn_of_wp_marks Try.func56 rfl trivial ?_
  have hargs := is_args 13 [Value.slice none 0 0, Value.func (.func 57) #[] [Value.pointer (some ⟨tb1, 0, none⟩), Value.pointer (some ⟨tb2, 0, none⟩)].toArray] (by simp)
  obtain ⟨a0, ha0⟩ : ∃ a0 : Act, a0 = { tmps := [Value.slice none 0 0, Value.func (.func 57) #[] [Value.pointer (some ⟨tb1, 0, none⟩), Value.pointer (some ⟨tb2, 0, none⟩)].toArray].toArray ++ Array.replicate (13 - [Value.slice none 0 0, Value.func (.func 57) #[] [Value.pointer (some ⟨tb1, 0, none⟩), Value.pointer (some ⟨tb2, 0, none⟩)].toArray].toArray.size) undef, defers := [] } := ⟨_, rfl⟩
  rw [← ha0] at hargs
  have hnt : Try.f56.ntmps = 13 := Try.ntmps56
  rw [hnt, ← ha0]
  refine wpIn_seq ?_
  refine wpIn_region ?_
  refine (show TAt none _ _ _ _ 13 [] [0, 1] _ w from ?_) _ hargs
  refine t_op rfl rfl (by rintro _ ⟨⟩; decide) (fun _ h_ => by cases h_) (w_box1 rfl rfl) ?_
  rintro _ w1 ⟨bx, rfl, hlb, hub, hbx, c1⟩
  refine t_val rfl rfl (by rintro _ ⟨⟩; decide) (fun _ h_ => by cases h_) r_assign ?_
  refine t_end fun a1 ha1 => ?_
  refine wpIn_seq ?_
  refine wpIn_seq ?_
  refine wpIn_region ?_
  refine (show TAt none _ _ _ _ 13 [] [0] _ w1 from ?_) _ ha1
  refine t_val rfl rfl (by rintro _ ⟨⟩; decide) (fun _ h_ => by cases h_) r_move ?_
  refine t_end fun a2 ha2 => ?_
  obtain ⟨t2, d2⟩ := a2
  obtain rfl : d2 = [] := ha2.2
  refine wpIn_block ?_
  have hs1 : w.heap.size ≤ w1.heap.size := Chg.size c1
  have hb1 : RowKit.Below w.heap.size w w1 := Chg.below c1
  -- what stands between two rounds
  let I : List (Option Addr × Nat) → World → Prop := fun pre W => (∃ v, Pc W bx 0 [v] ∧ Owns W w.heap.size 22 1 v pre.length (chVals pre) ∧ some bx ≠ v.ownBlock) ∧ RowKit.Below w.heap.size w W
  have hI : OwnFrom w1.heap.size I := by
    rintro pre W W' row ⟨⟨v, hp, ho, hbo⟩, hb⟩ hg hr
    have hne : some bx ≠ row := fun e => by have := (hr bx e.symm).1; omega
    refine ⟨⟨v, hp.other (hg.block bx (hp.lt (by simp)) hne), ho.grown hg fun r e => (hr r e).2, hbo⟩, ?_⟩
    exact hb.grown hg (by have := hb.size; omega) (fun k e => by have := (hr k e).1; omega)
  have hseq : SeqStopsK Fence.wide (5 - 1) Try.prog 57 [Value.pointer (some ⟨tb1, 0, none⟩), Value.pointer (some ⟨tb2, 0, none⟩)].toArray (fun x : Option Addr × Nat => #[Value.slice x.1 x.2 x.2]) (RowKit.Below w.heap.size) (fun xs => xs = chP a n ((n + 1023) / 1024)) (fun _ => True) ((n + 1023) / 1024) w := by
    intro l J Jx W hW hJ _ hY h0
    refine callsIn_wide.2 ?_
    have c2 : Chg (byd w.heap.size) w W := Chg.of_below hW
    have := chunk1_spec (5 - 1) l w.heap.size tb1 tb2 n c a J Jx W hn hc h1 h2 hJ (fun pre x W1 hp hl => hY pre x W1 hp hl) h0 (ht1.kept c2 fun _ _ m => by have : w.heap.size ≤ tb1 := m; omega) (ht2.kept c2 fun _ _ m => by have : w.heap.size ≤ tb2 := m; omega)
    unfold Rtn at this
    refine Calls.mono this ?_
    rintro e w' ⟨v, rfl, h⟩
    refine ⟨⟨v, rfl⟩, ?_⟩
    rcases h with h | ⟨pre, h⟩
    · exact .inl ⟨_, rfl, h⟩
    · exact .inr ⟨pre, trivial, h⟩
  refine wpIn_rangeFunc_ownF rfl (by decide) (by rw [ha2.eval]; rfl) trivial Try.call57 hseq (fun h k => h.trans k) ?hKb hb1 (fun _ => rfl) I (fun _ _ _ => False) hI ?hIx ?h0 (fun x => ({ tmps := t2.setIfInBounds 7 (Value.slice x.1 x.2 x.2), defers := [] } : Act).put (some 5) (Value.slice x.1 x.2 x.2)) ?assign ?body ?done ?stop
  case hKb =>
    intro W l o o' hl h ho hw
    exact belowK_b hs1 W l o o' hl h ho hw
  case hIx =>
    intro _ s W W' row h _ _
    exact h.elim
  case h0 => exact ⟨⟨Value.slice none 0 0, hbx, Owns.nil _ _ _ _, by simp [Value.ownBlock]⟩, hb1⟩
  case assign =>
    intro l x W K hK
    have hz := ha2.put (d := some 7) (by rintro _ ⟨⟩; decide) (Value.slice x.1 x.2 x.2)
    have e2 : Array.foldl (fun (t : Array Value) (x : Nat × Value) => t.setIfInBounds x.1 x.2) t2 ((#[7] : Array Nat).zip #[Value.slice x.1 x.2 x.2]) = t2.setIfInBounds 7 (Value.slice x.1 x.2 x.2) := by simp
    show Code.wpIn _ _ _ _ _ { tmps := Array.foldl (fun (t : Array Value) (x : Nat × Value) => t.setIfInBounds x.1 x.2) t2 ((#[7] : Array Nat).zip #[Value.slice x.1 x.2 x.2]), defers := [] } W
    rw [e2]
    refine wpIn_region ?_
    refine (show TAt (some l) _ _ _ _ 13 [] [0] _ W from ?_) _ hz
    refine t_val rfl rfl (by rintro _ ⟨⟩; decide) (fun _ h_ => by cases h_) r_assign ?_
    refine t_end fun a' ha' => ?_
    have he := ha'.unique (hz.put (d := some 5) (by rintro _ ⟨⟩; decide) (Value.slice x.1 x.2 x.2))
    rw [he]
    exact hK
  case body =>
    rintro l pre x W ⟨⟨v, hp, ho, hbo⟩, hb⟩ hlen
    have hz := (ha2.put (d := some 7) (by rintro _ ⟨⟩; decide) (Value.slice x.1 x.2 x.2)).put (d := some 5) (by rintro _ ⟨⟩; decide) (Value.slice x.1 x.2 x.2)
    refine wpIn_block ?_
    refine wpIn_region ?_
    refine (show TAt (some l) _ _ _ _ 13 [] [0, 1, 2, 3, 4] _ W from ?_) _ hz
    refine t_val rfl rfl (by rintro _ ⟨⟩; decide) (fun _ h_ => by cases h_) (r_load1 Try.isAgg37 rfl hp.rd) ?_
    refine t_val rfl rfl (by rintro _ ⟨⟩; decide) (fun _ h_ => by cases h_) r_move ?_
    refine t_op rfl rfl (by rintro _ ⟨⟩; decide) (fun _ h_ => by cases h_) (w_build1 (v := Value.slice x.1 x.2 x.2) (E := 22) Try.underlying37 (i := Try.t22) (by kernel_rfl) rfl rfl rfl rfl rfl) ?_
    rintro _ W1 ⟨bk, rfl, hl1, hu1, -, p1, k1⟩
    have ho1 := ho.k k1
    have hp1 := hp.k k1
    have hne1 := Owns.ne_ge ho hl1
    have hbx1 : bx < W1.heap.size := hp1.lt (by simp)
    have hsz : W.heap.size ≤ W1.heap.size := Chg.size k1
    have hbs := hb.size
    refine t_op rfl rfl (by rintro _ ⟨⟩; decide) (fun _ h_ => by cases h_) (w_appendAt (E := 22) (sz := 1) Try.underlying37 rfl (i := Try.t22) (by kernel_rfl) rfl rfl rfl rfl (by rfl) ho1 rfl (SlAt.some p1.rd) rfl (flat_one rfl) (by decide) (by omega) (by show _ * 24 ≤ _; omega) (by omega)) ?_
    rintro v2 W2 ⟨ho2, hat, k2⟩
    have hnb : some bx ≠ v.ownBlock := hbo
    have hnb2 : some bx ≠ v2.ownBlock := by
      rcases hat with h | h
      · rw [h]; exact hbo
      · rw [h]; intro h'; cases h'; exact Nat.lt_irrefl _ hbx1
    have hp2 := hp1.kob k2 hnb
    obtain ⟨A2, c2, rfl, -, -, -⟩ := Owns.form ho2
    refine t_op rfl rfl (by rintro _ ⟨⟩) (fun _ h_ => by cases h_) (w_store1 (o := 0) Try.sizeOf37 rfl rfl rfl rfl hp2) ?_
    rintro _ W3 ⟨hp3, k3⟩
    refine t_end fun a' _ => ?_
    have ho3 := ho2.kb k3 hnb2
    have hsz2 : W1.heap.size ≤ W2.heap.size := Chg.size k2
    have b1 : RowKit.Below w.heap.size W W1 := below_of k1 hbs (fun _ _ m => m.elim)
    have b2 : RowKit.Below w.heap.size W1 W2 := below_of k2 (by omega) (fun k o' m => by
      rcases Nat.lt_or_ge k w.heap.size with h | h
      · exact absurd m (Owns.ne_lt ho1 h)
      · exact h)
    have b3 : RowKit.Below w.heap.size W2 W3 := below_of k3 (by omega) (fun k o' m => by have := m.1; omega)
    have q1 : KeepsOthers W W1 := keeps_of k1 (fun _ _ m _ => m.elim)
    have q2 : KeepsOthers W1 W2 := keeps_of k2 (fun k o' m _ => ho1.cells k o' m)
    have q3 : KeepsOthers W2 W3 := keeps_of k3 (fun k o' m _ => by have := m.1; subst this; exact cells_of_cell (hp2.1 0 _ rfl))
    refine ⟨(q1.trans q2).trans q3, (b1.trans b2).trans b3, ⟨_, hp3, ?_, hnb2⟩, ((hb.trans b1).trans b2).trans b3⟩
    have : (chVals (pre ++ [x])) = chVals pre ++ [Value.slice x.1 x.2 x.2] := by simp [chVals]
    rw [this, List.length_append]
    exact ho3
  case done =>
    rintro D xs W hD rfl ⟨⟨v, hp, ho, hbo⟩, hb⟩ hdef
    show Code.wpIn _ _ _ (Code.seq _ _) _ _ _
    refine wpIn_seq ?_
    refine wpIn_region ?_
    refine (show TAt none _ _ _ _ 13 [{ target := .collected D, args := #[] }] [0, 1] _ W from ?_) _ ⟨ha2.1, rfl⟩
    refine t_val rfl rfl (by rintro _ ⟨⟩; decide) (fun _ h_ => by cases h_) (r_load1 Try.isAgg37 rfl hp.rd) ?_
    refine t_val rfl rfl (by rintro _ ⟨⟩; decide) (fun _ h_ => by cases h_) r_assign ?_
    refine t_end fun a' ha' => ?_
    obtain ⟨t', d'⟩ := a'
    obtain rfl : d' = [{ target := .collected D, args := #[] }] := ha'.2
    refine wpIn_ret ?_
    have hg := grownBy_putObj' W D (.deferred none)
    refine ⟨by simp, .inl ⟨D, _, rfl, run_takeDeferred hdef, ?_⟩⟩
    refine ⟨_, results_run ha'.1.read (rs := [.tmp 4]) (by rw [Try.results56]) (.cons rfl .nil), v, rfl, ?_, ?_⟩
    · have := ho.grown hg (fun r e => by cases e; exact ⟨_, hdef, rfl⟩)
      rwa [chP_length] at this
    · exact Chg.of_below0 (hb.grown hg (by have := hb.size; omega) (fun k e => by cases e; omega))
  case stop =>
    rintro D c' pre W _ _ h _
    exact h.elim

end Go.Proofs.Ytdnccchcflaphaa
