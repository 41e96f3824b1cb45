/- M22: contracts of functions of the program: called in any world that meets a contract's premises, the function returns what the contract says and changes no more than it says. -/
import Derived.Test.YtdnccchcflaphaaM21
import Derived.Test.YtdnccchcflaphaaEng8
import Derived.Test.YtdnccchcflaphaaEng9
import Derived.Test.YtdnccchcflaphaaEng10
import Derived.Test.YtdnccchcflaphaaEng11
import Derived.Test.YtdnccchcflaphaaEng12
import Derived.Test.YtdnccchcflaphaaChecked
open Go Go.Eng Go.Proofs
namespace Go.Proofs.Ytdnccchcflaphaa

theorem when_t (e : Int) (w : World) : Rtn Try.prog 8 [.bool true, i64 e].toArray w (fun v w' => v = i64 e ∧ Kept w w') := when_spec true e w
theorem when_f (e : Int) (w : World) : Rtn Try.prog 8 [.bool false, i64 e].toArray w (fun v w' => v = i64 0 ∧ Kept w w') := when_spec false e w

theorem assemble_all (root : List UInt8) (many : Int) (ls : List (List UInt8)) (vs : List Value) (ps : List Prf) (al ap : Option Addr) (N cl cp : Nat) (w : World) (hrt : root.length = 32) (hN : ls.length = N) (hNp : ps.length = N) (hNb : N < 4611686018427387904) (hcl : N ≤ cl) (hcp : N ≤ cp) (hsl : SlAt w al vs) (hls : SlsOk w vs ls) (hsp : SlAt w ap (pcells ps)) (hps : ∀ (k : Nat) (q : Prf), ps[k]? = some q → q.Ok w) (hsm : ∀ k, (ls.getD k []).length ≤ 1024) :
    Rtn Try.prog 36 [.agg (bs root).toArray, i64 many, Value.slice al N cl, Value.slice ap N cp].toArray w (fun v w' => ∃ a n c l, v = tup [Value.slice a n c, i64 (asmE root many ls ps)] ∧ l.length = n ∧ SlAt w' a (bs l) ∧ (asmE root many ls ps ≠ 0 → n = 0) ∧ (asmE root many ls ps = 0 → l = contTo ls (asmTo root many ls ps ps.length).2 many.toNat) ∧ Kept w w') := by
  refine (assemble_spec root many ls vs ps al ap N cl cp w hrt hN hNp hNb hcl hcp hsl hls hsp hps hsm).mono ?_
  rintro v w' ⟨h, c⟩
  rcases h with ⟨h0, rfl⟩ | ⟨h0, a, n, cc, rfl, hl, hs⟩
  · exact ⟨none, 0, 0, [], rfl, rfl, .inl rfl, fun _ => rfl, fun h => absurd h h0, c⟩
  · exact ⟨a, n, cc, _, by rw [h0], hl, hs, fun h => absurd h0 h, fun _ => rfl, c⟩

end Go.Proofs.Ytdnccchcflaphaa
