/- YtippcmedgfmgbaaGreatRootsAreShared: the law's statement: for every input that the row reads, the call returns true and its arguments read as they did. It holds for every input, under no further condition. -/
import Derived.Test.YtippcmedgfmgbaaGreatP15
import Derived.Test.YtippcmedgfmgbaaGreatRows
import Derived.WalkKit
import Derived.ProofKit
section
open Go Go.Eng Go.Proofs Go.Proofs.YtippcmedgfmgbaaGreat
open Go.ChangeShapes Go.WideShapes Go.ChangeAt Go.RowKit
namespace Go.Proofs.YtippcmedgfmgbaaGreat.RootsAreShared
/-- The law's call: true, and all that was there as it was. -/
theorem law_spec (secret seed : List UInt8) (need : Int) (H : List (List UInt8)) (aH : Option Addr) (n cH : Nat) (at_ oct by_ : Int) (w : World) (hk : secret.length = 32) (hs : seed.length = 32) (hH : H.length = n) (h16 : All16 H) (hby : 0 ≤ by_) (hnb : n ≤ 9223372036854775807) (hslH : SlAt w aH (bs H.flatten)) :
    Rtn Tryz.prog 3 [.agg (bs secret).toArray, i64 need, Value.slice aH n cH, .agg (bs seed).toArray, i64 at_, i64 oct, .int .u16 by_].toArray w (fun v w' => v = .bool true ∧ Kept w w') := by
  by_cases he : hErrTo need n H n = 0
  · obtain ⟨h1, h2, h3, h4, hord⟩ := hErr_zero he
    obtain ⟨m, rfl⟩ : ∃ m : Nat, need = (m : Int) := ⟨need.toNat, by omega⟩
    by_cases h7 : 7 < n
    · exact law7_spec secret seed m H aH n cH at_ oct by_ w hk hs hH h16 hby (by omega) (by omega) h3 hord h7 hslH
    · cases hm : mendP m (chgS secret seed m n H at_ oct by_) with
      | none => exact lawN_spec secret seed m H aH n cH at_ oct by_ w hk hs hH h16 hby (by omega) (by omega) h3 hord h7 hm hslH
      | some r =>
        obtain ⟨kS, bad⟩ := r
        by_cases hq : hashB 7 (comB kS) = hashB 7 (comB secret)
        · exact lawO_spec secret seed m H aH n cH at_ oct by_ kS bad w hk hs hH h16 hby (by omega) (by omega) h3 hord h7 hm hq hslH
        · exact lawS_spec secret seed m H aH n cH at_ oct by_ kS bad w hk hs hH h16 hby (by omega) (by omega) h3 hord h7 hm hq hslH
  · exact lawE_spec secret seed need H aH n cH at_ oct by_ w hk hs hH h16 hby hnb he hslH
theorem own : ownKnob Tryz.prog.godebug = none := by kernel_rfl
theorem laid : laidOutB Tryz.prog = true := by kernel_rfl
theorem cells5 : Tryz.prog.cellsOf 5 = 1 := by kernel_rfl
theorem cells23 : Tryz.prog.cellsOf 23 = 32 := by kernel_rfl
theorem cells37 : Tryz.prog.cellsOf 37 = 16 := by kernel_rfl
set_option maxRecDepth 100000 in
theorem contract (H : Type) (enc : TypeId × Value → H) (W : World) (base : Nat) (args : Array Value) (ds gs : List (DataW H)) (before : List MemPlace)
    (hval : ∀ (j : Nat) t v, Tryz.f3.params[j]? = some t → args[j]? = some v → Value.okWide Tryz.prog W .any base t v)
    (hW : DataW.Whole enc Tryz.prog Tryz.f3.params.toList Rows.rootsAreSharedSpec.vars false W args.toList ds gs before) :
    Calls Tryz.prog 3 args W fun e W' => ∃ v, e = .returned v ∧ Rows.rootsAreSharedSpec.post enc Tryz.prog Tryz.f3 false true false false W args v W' := by
  have hW' := hW
  obtain ⟨p, q, hA0, hV, rfl, hfz, hnd⟩ := hW
  have hA : DataW.TrodAll enc Tryz.prog W 0 (fun _ => true) true Tryz.f3.params.toList args.toList ds p := hA0
  obtain ⟨rfl, rfl⟩ := trodVars_none hV
  rw [Tryz.params3] at hA hval
  obtain ⟨v0, vs0, d0, ds0, p0, q0, e0, rfl, rfl, h0, r0⟩ := trodAll_cons hA
  obtain ⟨v1, vs1, d1, ds1, p1, q1, e1, rfl, rfl, h1, r1⟩ := trodAll_cons r0
  obtain ⟨v2, vs2, d2, ds2, p2, q2, e2, rfl, rfl, h2, r2⟩ := trodAll_cons r1
  obtain ⟨v3, vs3, d3, ds3, p3, q3, e3, rfl, rfl, h3, r3⟩ := trodAll_cons r2
  obtain ⟨v4, vs4, d4, ds4, p4, q4, e4, rfl, rfl, h4, r4⟩ := trodAll_cons r3
  obtain ⟨v5, vs5, d5, ds5, p5, q5, e5, rfl, rfl, h5, r5⟩ := trodAll_cons r4
  obtain ⟨v6, vs6, d6, ds6, p6, q6, e6, rfl, rfl, h6, r6⟩ := trodAll_cons r5
  obtain ⟨rfl, rfl, rfl⟩ := trodAll_nil r6
  obtain rfl : args = [v0, v1, v2, v3, v4, v5, v6].toArray := by
    rw [← Array.toArray_toList (xs := args), e0, e1, e2, e3, e4, e5, e6]
  have k0 := hval 0 23 v0 (by simp) (by simp)
  have k1 := hval 1 3 v1 (by simp) (by simp)
  have k2 := hval 2 24 v2 (by simp) (by simp)
  have k3 := hval 3 23 v3 (by simp) (by simp)
  have k4 := hval 4 3 v4 (by simp) (by simp)
  have k5 := hval 5 3 v5 (by simp) (by simp)
  have k6 := hval 6 25 v6 (by simp) (by simp)
  obtain ⟨secret, rfl, hk⟩ := open_arr8 Tryz.underlying23 Tryz.underlying5 cells5 cells23 k0 h0
  obtain ⟨need, rfl, _⟩ := open_int Tryz.underlying3 k1 h1
  obtain ⟨aH, n, cH, L, rfl, hL, _, hnb, h16, hsl⟩ := open_ids Tryz.underlying24 Tryz.underlying37 Tryz.underlying5 cells5 cells37 k2 h2
  obtain ⟨seed, rfl, hs⟩ := open_arr8 Tryz.underlying23 Tryz.underlying5 cells5 cells23 k3 h3
  obtain ⟨at_, rfl, _⟩ := open_int Tryz.underlying3 k4 h4
  obtain ⟨oct, rfl, _⟩ := open_int Tryz.underlying3 k5 h5
  obtain ⟨by_, rfl, hby⟩ := open_u16 Tryz.underlying25 k6 h6
  have hspec := law_spec secret seed need L aH n cH at_ oct by_ W hk hs hL h16 hby hnb hsl
  unfold Rtn at hspec
  refine hspec.mono ?_
  rintro e W' ⟨v, rfl, rfl, hk'⟩
  exact ⟨_, rfl, post_true laid (by kernel_rfl) rfl (by kernel_rfl) Tryz.underlying4 hW' (by rfl) (Chg.below hk')⟩
def z32 : Value := .agg (Array.replicate 32 (.int .u8 0))
set_option maxRecDepth 100000 in
theorem lifted (os : Os) (started : os.Started) (H : Type) (enc : TypeId × Value → H) :
    ReturnsInHanded {} Tryz.checked os 3 .any (Rows.rootsAreSharedSpec.pre6 enc Tryz.prog Tryz.f3 Rows.rootsAreSharedRow.domain false) (Rows.rootsAreSharedSpec.post enc Tryz.prog Tryz.f3 false true false false) := by
  refine returnsInHanded_of_change (C := Tryz.checked) own started (by kernel_rfl) Tryz.func3
    (ChangeSpec.witness6 (enc := enc) (C := Tryz.checked) false ⟨#[], #[z32, .int .i64 0, .slice none 0 0, z32, .int .i64 0, .int .i64 0, .int .u16 0], []⟩ 8 (by kernel_rfl) (by kernel_rfl) (by kernel_rfl) (by kernel_rfl)) ?_
  intro W base args ds gs before hval hW hcnd _
  exact contract H enc W base args ds gs before hval hW
theorem over : Rows.rootsAreSharedRow.holds Tryz.pinned (OpenSpec.ofChange Rows.rootsAreSharedSpec) :=
  OpenClaim.holds_of_wide 3 Tryz.f3 rfl rfl rfl rfl rfl rfl rfl ⟨rfl, rfl, rfl, rfl, rfl⟩ rfl rfl rfl rfl rfl (by kernel_rfl) Tryz.func3 (by kernel_rfl)
    (of_decide_eq_true (by kernel_rfl)) (by unfold Func.isWrapper; first | (rw [if_pos (by decide +kernel)]; kernel_rfl) | (rw [if_neg (by decide +kernel)]; exact ⟨rfl, rfl⟩))
    (fun os started H enc _ => lifted os started H enc)
theorem rootsAreShared_holds : Rows.RootsAreSharedSaid := over
end Go.Proofs.YtippcmedgfmgbaaGreat.RootsAreShared
#print axioms Go.Proofs.YtippcmedgfmgbaaGreat.RootsAreShared.rootsAreShared_holds
end
