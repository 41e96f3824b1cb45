/- MapRow: the law's statement: for every input that the row reads, within its bound, the call returns true and its arguments read as they did. -/
import Derived.Test.YtdnccchcflaphaaN5
import Derived.Test.YtdnccchcflaphaaRow
import Derived.Test.YtdnccchcflaphaaRows
import Derived.WalkKit
import Derived.ProofKit
open Go Go.Eng Go.Proofs Go.Proofs.Ytdnccchcflaphaa
open Go.ChangeShapes Go.WideShapes Go.ChangeAt Go.RowKit
namespace Go.Proofs.Ytdnccchcflaphaa.MapsAreBounded
theorem own : ownKnob Try.prog.godebug = none := by kernel_rfl
theorem laid : laidOutB Try.prog = true := by kernel_rfl
set_option maxRecDepth 100000 in
theorem contract (H : Type) (enc : TypeId × Value → H) (W : World) (base : Nat) (args : Array Value) (ds gs : List (DataW H)) (before : List MemPlace)
    (hval : ∀ (j : Nat) t v, Try.f4.params[j]? = some t → args[j]? = some v → Value.okWide Try.prog W .any base t v)
    (hW : DataW.Whole enc Try.prog Try.f4.params.toList Rows.mapsAreBoundedSpec.vars false W args.toList ds gs before) :
    Calls Try.prog 4 args W fun e W' => ∃ v, e = .returned v ∧ Rows.mapsAreBoundedSpec.post enc Try.prog Try.f4 false true false false W args v W' := by
  have hW' := hW
  obtain ⟨p, q, hA0, hV, rfl, hfz, hnd⟩ := hW
  have hA : DataW.TrodAll enc Try.prog W 0 (fun _ => true) true Try.f4.params.toList args.toList ds p := hA0
  obtain ⟨rfl, rfl⟩ := trodVars_none hV
  rw [Try.params4] at hA hval
  obtain ⟨v0, vs0, d0, ds0, p0, q0, e0, rfl, rfl, h0, r0⟩ := trodAll_cons hA
  obtain ⟨v1, vs1, d1, ds1, p1, q1, e1, rfl, rfl, h1, r1⟩ := trodAll_cons r0
  obtain ⟨rfl, rfl, rfl⟩ := trodAll_nil r1
  obtain rfl : args = [v0, v1].toArray := by
    rw [← Array.toArray_toList (xs := args), e0, e1]
  have k0 := hval 0 3 v0 (by simp) (by simp)
  have k1 := hval 1 3 v1 (by simp) (by simp)
  obtain ⟨nn, rfl, _⟩ := open_int Try.underlying3 k0 h0
  obtain ⟨ot, rfl, _⟩ := open_int Try.underlying3 k1 h1
  have hspec := maps_spec nn ot W
  unfold Rtn at hspec
  refine hspec.mono ?_
  rintro e W' ⟨v, rfl, rfl, hk'⟩
  exact ⟨_, rfl, post_true laid (by kernel_rfl) rfl (by kernel_rfl) Try.underlying4 hW' (by rfl) (Chg.below hk')⟩
set_option maxRecDepth 100000 in
theorem lifted (os : Os) (started : os.Started) (H : Type) (enc : TypeId × Value → H) :
    ReturnsInHanded {} Try.checked os 4 .any (Rows.mapsAreBoundedSpec.pre6 enc Try.prog Try.f4 Rows.mapsAreBoundedRow.domain false) (Rows.mapsAreBoundedSpec.post enc Try.prog Try.f4 false true false false) := by
  refine returnsInHanded_of_change (C := Try.checked) own started (by kernel_rfl) Try.func4
    (ChangeSpec.witness6 (enc := enc) (C := Try.checked) false ⟨#[], #[.int .i64 0, .int .i64 0], []⟩ 8 (by kernel_rfl) (by kernel_rfl) (by kernel_rfl) (by kernel_rfl)) ?_
  intro W base args ds gs before hval hW hcnd _
  exact contract H enc W base args ds gs before hval hW
theorem over : Rows.mapsAreBoundedRow.holds Try.pinned (OpenSpec.ofChange Rows.mapsAreBoundedSpec) :=
  OpenClaim.holds_of_wide 4 Try.f4 rfl rfl rfl rfl rfl rfl rfl ⟨rfl, rfl, rfl, rfl, rfl⟩ rfl rfl rfl rfl rfl (by kernel_rfl) Try.func4 (by kernel_rfl)
    (of_decide_eq_true (by kernel_rfl)) (by unfold Func.isWrapper; first | (rw [if_pos (by decide +kernel)]; kernel_rfl) | (rw [if_neg (by decide +kernel)]; exact ⟨rfl, rfl⟩))
    (fun os started H enc _ => lifted os started H enc)
theorem mapsAreBounded_holds : Rows.MapsAreBoundedSaid := over
end Go.Proofs.Ytdnccchcflaphaa.MapsAreBounded
#print axioms Go.Proofs.Ytdnccchcflaphaa.MapsAreBounded.mapsAreBounded_holds
