/- CmRow: the law's statement: for every input that the row reads, within its bound, the call returns true and its arguments read as they did. -/
import Derived.Test.YtdnccchcflaphaaM27
import Derived.Test.YtdnccchcflaphaaRow
import Derived.Test.YtdnccchcflaphaaRows
import Derived.WalkKit
import Derived.ProofKit
open Go Go.Eng Go.Proofs Go.Proofs.Ytdnccchcflaphaa
open Go.ChangeShapes Go.WideShapes Go.ChangeAt Go.RowKit
namespace Go.Proofs.Ytdnccchcflaphaa.ChunksMatch
theorem one_le {H : Type} (d : DataW H) : 1 ≤ Rows.uptoBulk d := by
  cases d with
  | lit l => cases l <;> simp [Rows.uptoBulk]
  | _ => simp [Rows.uptoBulk]
theorem all_len {H : Type} (l : List (DataW H)) : l.length ≤ Rows.uptoBulkAll l := by
  induction l with
  | nil => simp [Rows.uptoBulkAll]
  | cons x r ih => have := one_le x; simp only [Rows.uptoBulkAll, List.length_cons]; omega
theorem small_len {H : Type} {d : DataW H} {n : Nat} (h : (d = .nil ∧ n = 0) ∨ ∃ elems rest, d = .slice elems rest ∧ elems.length = n) : n ≤ Rows.uptoBulk d := by
  rcases h with ⟨rfl, rfl⟩ | ⟨elems, rest, rfl, rfl⟩
  · exact Nat.zero_le _
  · have := all_len elems
    simp only [Rows.uptoBulk]
    omega
theorem own : ownKnob Try.prog.godebug = none := by kernel_rfl
theorem cells5 : Try.prog.cellsOf 5 = 1 := by kernel_rfl
theorem cells3 : Try.prog.cellsOf 3 = 1 := by kernel_rfl
theorem laid : laidOutB Try.prog = true := by kernel_rfl
/-- The law's call: true, and all that was there as it was. -/
theorem chunksMatch_spec (l : List UInt8) (k : Int) (order : List Int) (at_ many : Int) (by_ : UInt8) (ab ao : Option Addr) (n cb M co : Nat) (w : World) (hn : l.length = n) (hc : n ≤ cb) (hM : order.length = M) (hMb : M ≤ 1048576) (hcM : M ≤ co) (hsl : SlAt w ab (bs l)) (hso : SlAt w ao (order.map i64)) :
    Rtn Try.prog 3 [Value.slice ab n cb, i64 k, Value.slice ao M co, i64 at_, u8 by_, i64 many].toArray w (fun v w' => v = .bool true ∧ Kept w w') := by
  by_cases hbad : n = 0 ∨ 1048576 < n
  · exact chunksMatchE_spec k order at_ many by_ ab ao n cb M co w hbad
  · by_cases hk : 0 ≤ k ∧ k < ((chunksL l).length : Int)
    · exact chunksMatchO_spec l k order at_ many by_ ab ao n cb M co w hn (by omega) (by omega) hc hM hMb hcM hsl hso hk.1 hk.2
    · exact chunksMatchR_spec l k order at_ many by_ ab ao n cb M co w hn (by omega) (by omega) hc hM hMb hcM hsl hso (by omega)
set_option maxRecDepth 100000 in
theorem contract (H : Type) (enc : TypeId × Value → H) (W : World) (base : Nat) (args : Array Value) (ds gs : List (DataW H)) (before : List MemPlace)
    (hval : ∀ (j : Nat) t v, Try.f3.params[j]? = some t → args[j]? = some v → Value.okWide Try.prog W .any base t v)
    (hW : DataW.Whole enc Try.prog Try.f3.params.toList Rows.chunksMatchSpec.vars false W args.toList ds gs before) (hk : Rows.uptoSmall H (ds ++ gs) = true) :
    Calls Try.prog 3 args W fun e W' => ∃ v, e = .returned v ∧ Rows.chunksMatchSpec.post enc Try.prog Try.f3 false true false false W args v W' := by
  have hW' := hW
  obtain ⟨p, q, hA0, hV, rfl, hfz, hnd⟩ := hW
  have hA : DataW.TrodAll enc Try.prog W 0 (fun _ => true) true Try.f3.params.toList args.toList ds p := hA0
  obtain ⟨rfl, rfl⟩ := trodVars_none hV
  have hb := of_decide_eq_true hk
  rw [Try.params3] at hA hval
  obtain ⟨v0, vs0, d0, ds0, p0, q0, e0, rfl, rfl, h0, r0⟩ := trodAll_cons hA
  obtain ⟨v1, vs1, d1, ds1, p1, q1, e1, rfl, rfl, h1, r1⟩ := trodAll_cons r0
  obtain ⟨v2, vs2, d2, ds2, p2, q2, e2, rfl, rfl, h2, r2⟩ := trodAll_cons r1
  obtain ⟨v3, vs3, d3, ds3, p3, q3, e3, rfl, rfl, h3, r3⟩ := trodAll_cons r2
  obtain ⟨v4, vs4, d4, ds4, p4, q4, e4, rfl, rfl, h4, r4⟩ := trodAll_cons r3
  obtain ⟨v5, vs5, d5, ds5, p5, q5, e5, rfl, rfl, h5, r5⟩ := trodAll_cons r4
  obtain ⟨rfl, rfl, rfl⟩ := trodAll_nil r5
  obtain rfl : args = [v0, v1, v2, v3, v4, v5].toArray := by
    rw [← Array.toArray_toList (xs := args), e0, e1, e2, e3, e4, e5]
  simp only [Rows.uptoBulkAll, List.cons_append] at hb
  have k0 := hval 0 22 v0 (by simp) (by simp)
  have k1 := hval 1 3 v1 (by simp) (by simp)
  have k2 := hval 2 23 v2 (by simp) (by simp)
  have k3 := hval 3 3 v3 (by simp) (by simp)
  have k4 := hval 4 5 v4 (by simp) (by simp)
  have k5 := hval 5 3 v5 (by simp) (by simp)
  obtain ⟨a0, n0, c0, l, rfl, hl, hc0, hs0, hd0⟩ := open_octs Try.underlying22 Try.underlying5 cells5 k0 h0
  obtain ⟨k, rfl, _⟩ := open_int Try.underlying3 k1 h1
  obtain ⟨a2, n2, c2, order, rfl, ho, hc2, hs2, hw2, hd2⟩ := open_nums Try.underlying23 Try.underlying3 cells3 k2 h2
  obtain ⟨at_, rfl, _⟩ := open_int Try.underlying3 k3 h3
  obtain ⟨by_, rfl⟩ := open_oct Try.underlying5 k4 h4
  obtain ⟨many, rfl, _⟩ := open_int Try.underlying3 k5 h5
  have hn2 : n2 ≤ Rows.uptoBulk d2 := small_len (hd2.imp id fun ⟨rest, h⟩ => ⟨_, rest, h, by rw [lits, List.length_map]; exact ho⟩)
  have hspec := chunksMatch_spec l k order at_ many by_ a0 a2 n0 c0 n2 c2 W hl hc0 ho (by omega) hc2 hs0 hs2
  unfold Rtn at hspec
  refine hspec.mono ?_
  rintro e W' ⟨v, rfl, rfl, hk'⟩
  exact ⟨_, rfl, post_true laid (by kernel_rfl) rfl (by kernel_rfl) Try.underlying4 hW' (by rfl) (Chg.below hk')⟩
set_option maxRecDepth 100000 in
theorem lifted (os : Os) (started : os.Started) (H : Type) (enc : TypeId × Value → H) (F : Stop.Interp) :
    ReturnsInHanded {} Try.checked os 3 .any ((Rows.OpenSpec.upto Rows.chunksMatchSpec).pre6 enc Try.prog Try.f3 Rows.chunksMatchUptoRow.domain false) (((Rows.OpenSpec.upto Rows.chunksMatchSpec).at F).post enc Try.prog Try.f3 false true false false) := by
  refine returnsInHanded_of_cond (C := Try.checked) (s := Rows.OpenSpec.upto Rows.chunksMatchSpec) (k := Rows.uptoSmall) rfl own started (by kernel_rfl) Try.func3
    (OpenSpec.witness (enc := enc) (C := Try.checked) (s := Rows.OpenSpec.upto Rows.chunksMatchSpec) (k := Rows.uptoSmall) rfl false ⟨#[], #[.slice none 0 0, .int .i64 0, .slice none 0 0, .int .i64 0, .int .u8 0, .int .i64 0], []⟩ 8 (by kernel_rfl) (by kernel_rfl) (by kernel_rfl)
      (x := ([.nil, .lit (.int .i64 0), .nil, .lit (.int .i64 0), .lit (.int .u8 0), .lit (.int .i64 0)], [], [])) (by kernel_rfl) rfl (by kernel_rfl)) ?_
  intro W base args ds gs before hval hW _ hk _
  exact contract H enc W base args ds gs before hval hW hk
theorem over : Rows.chunksMatchUptoRow.holds Try.pinned (Rows.OpenSpec.upto Rows.chunksMatchSpec) :=
  OpenClaim.holds_of_cond 3 Try.f3 rfl rfl rfl rfl rfl rfl rfl ⟨rfl, rfl, rfl, rfl, rfl⟩ rfl rfl rfl rfl rfl (by kernel_rfl) Try.func3 (by kernel_rfl)
    (of_decide_eq_true (by kernel_rfl)) (by unfold Func.isWrapper; first | (rw [if_pos (by decide +kernel)]; kernel_rfl) | (rw [if_neg (by decide +kernel)]; exact ⟨rfl, rfl⟩))
    (fun os started H enc _ F => lifted os started H enc F)
theorem chunksMatchUpto_holds : Rows.ChunksMatchUptoSaid := over
end Go.Proofs.Ytdnccchcflaphaa.ChunksMatch
#print axioms Go.Proofs.Ytdnccchcflaphaa.ChunksMatch.chunksMatchUpto_holds
