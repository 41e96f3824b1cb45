/-
  No cell of these rows narrows 'for every input' (looked for: loops, veiled, ifaces, maps, wideKeys, modest, calm, conditions, laid).
  DERIVED. THE GIVEN ROWS OF THIS SEAT. 2 by the template 'for every input the law returns true; each argument reads behind the call as it read before'; 0 by the template 'total and deterministic' (their statements: YtdnccchcflaphaaTotals.lean).
  GIVEN WITH THE SEED: the statements are not yours to turn. If you find one false, say at which input.
  Laid BY PROGRAM, IN A SANDBOX (cutbox-rows.mjs): the forced cells as the released guide's own fill.sh prints them over the translation 79c3ab60c4f252d4… (all of the seat's roots in one cut). By AI agents, Wed Nov 11 2026. No macro, syntax, notation, axiom, sorry.
-/
import Derived.Test.YtdnccchcflaphaaChecked
import GoSem.Claim
import GoSem.ClaimJoined
import GoSem.ClaimMapViews
import Derived.JoinedTies
import Derived.KernelRfl
namespace Go.Proofs.Ytdnccchcflaphaa
/- THE CELL 'sum', in the pinned program and in every row, IS THE sha256 OF THE DUMP (.gsa) THAT YtdnccchcflaphaaProg.lean LOADS. Nothing in Lean hashes anything: it is a label: what it is worth is what the hold of that sum in a sandbox is worth. -/
noncomputable def Try.pinned : Pinned := { name := "ytdnccchcflaphaa", sum := "79c3ab60c4f252d49ea15e404870691824c7ea466857c0f0c4500644a28d5583", checked := Try.checked }
namespace Rows
def none {H : Type} : Left H := { results := [], args := [] }

/-- 'keylaw2.ChunksMatch': WHATEVER THE INPUT: true; the input reads as it did. -/
def chunksMatchSpec : ChangeSpec := { name := "chunksMatch", fn := fun _ => fun
  | [d1, d2, d3, d4, d5, d6] => { results := [.lit (.bool true)], args := [d1, d2, d3, d4, d5, d6] }
  | _ => none }
def chunksMatchRow : OpenClaim := { program := "ytdnccchcflaphaa", sum := "79c3ab60c4f252d49ea15e404870691824c7ea466857c0f0c4500644a28d5583", func := "keywarden/keylaw2.ChunksMatch", spec := "chunksMatch", unfollowed := true, recurses := true, plainKeys := false, apart := false }
def ChunksMatchSaid : Prop := chunksMatchRow.holds Try.pinned (OpenSpec.ofChange chunksMatchSpec)

/-- ITS FALSE NEIGHBOUR: 'it returns false'. Refute it at one input. -/
def chunksMatchWrong : ChangeSpec := { name := "chunksMatch", fn := fun _ => fun
  | [d1, d2, d3, d4, d5, d6] => { results := [.lit (.bool false)], args := [d1, d2, d3, d4, d5, d6] }
  | _ => none }
def ChunksMatchWrongFalsely : Prop := chunksMatchRow.holds Try.pinned (OpenSpec.ofChange chunksMatchWrong)

/-- 'keylaw1.MapsAreBounded': WHATEVER THE INPUT: true; the input reads as it did. -/
def mapsAreBoundedSpec : ChangeSpec := { name := "mapsAreBounded", fn := fun _ => fun
  | [d1, d2] => { results := [.lit (.bool true)], args := [d1, d2] }
  | _ => none }
def mapsAreBoundedRow : OpenClaim := { program := "ytdnccchcflaphaa", sum := "79c3ab60c4f252d49ea15e404870691824c7ea466857c0f0c4500644a28d5583", func := "keywarden/keylaw1.MapsAreBounded", spec := "mapsAreBounded", inPlace := ["internal/bytealg.Compare"], unfollowed := true, recurses := true, plainKeys := false, apart := false }
def MapsAreBoundedSaid : Prop := mapsAreBoundedRow.holds Try.pinned (OpenSpec.ofChange mapsAreBoundedSpec)

/-- ITS FALSE NEIGHBOUR: 'it returns false'. Refute it at one input. -/
def mapsAreBoundedWrong : ChangeSpec := { name := "mapsAreBounded", fn := fun _ => fun
  | [d1, d2] => { results := [.lit (.bool false)], args := [d1, d2] }
  | _ => none }
def MapsAreBoundedWrongFalsely : Prop := mapsAreBoundedRow.holds Try.pinned (OpenSpec.ofChange mapsAreBoundedWrong)

/- THE SECOND FORM. 'bulk': how many values and letters a reading holds, each counted each time it is reached (what is shared counts as often as it is met; a slice's spare places count too). A statement '..UptoSaid' is the law's where the arguments, and the package variables that the reading takes, are together of bulk at most 1048576: NARROWER than '..Said'. Prove '..Said' where nothing that the law and all that it calls make is longer than what came in: it says more and counts as full. Else prove '..UptoSaid'. A law counts once. -/
mutual
def uptoBulk {H : Type} : DataW H → Nat
  | .lit (.string bytes) => bytes.length + 1
  | .lit _ => 1
  | .nil => 1
  | .ptr d => uptoBulk d + 1
  | .slice elems spare => uptoBulkAll elems + uptoBulkAll spare + 1
  | .agg parts => uptoBulkAll parts + 1
  | .iface _ d => uptoBulk d + 1
  | .map entries => uptoBulkEntries entries + 1
  | .held _ => 1
def uptoBulkAll {H : Type} : List (DataW H) → Nat
  | [] => 0
  | d :: r => uptoBulk d + uptoBulkAll r
def uptoBulkEntries {H : Type} : List (Lit × DataW H) → Nat
  | [] => 0
  | x :: r => uptoBulkEntry x + uptoBulkEntries r
def uptoBulkEntry {H : Type} : Lit × DataW H → Nat
  | (.string bytes, d) => bytes.length + uptoBulk d + 1
  | (_, d) => uptoBulk d + 1
 end
def uptoSmall : (H : Type) → List (DataW H) → Bool := fun _ ds => decide (uptoBulkAll ds ≤ 1048576)
def OpenSpec.upto (s : _root_.Go.ChangeSpec) : _root_.Go.OpenSpec := { _root_.Go.OpenSpec.ofChange s with cond := some uptoSmall }

/-- 'keylaw2.ChunksMatch', WHERE WHAT IT READS IS OF BULK AT MOST 1048576: true; the input reads as it did. -/
def chunksMatchUptoRow : OpenClaim := { program := "ytdnccchcflaphaa", sum := "79c3ab60c4f252d49ea15e404870691824c7ea466857c0f0c4500644a28d5583", func := "keywarden/keylaw2.ChunksMatch", spec := "chunksMatch", unfollowed := true, recurses := true, plainKeys := false, apart := false, narrowed := true }
def ChunksMatchUptoSaid : Prop := chunksMatchUptoRow.holds Try.pinned (OpenSpec.upto chunksMatchSpec)

/-- 'keylaw1.MapsAreBounded', WHERE WHAT IT READS IS OF BULK AT MOST 1048576: true; the input reads as it did. -/
def mapsAreBoundedUptoRow : OpenClaim := { program := "ytdnccchcflaphaa", sum := "79c3ab60c4f252d49ea15e404870691824c7ea466857c0f0c4500644a28d5583", func := "keywarden/keylaw1.MapsAreBounded", spec := "mapsAreBounded", inPlace := ["internal/bytealg.Compare"], unfollowed := true, recurses := true, plainKeys := false, apart := false, narrowed := true }
def MapsAreBoundedUptoSaid : Prop := mapsAreBoundedUptoRow.holds Try.pinned (OpenSpec.upto mapsAreBoundedSpec)

end Rows
end Go.Proofs.Ytdnccchcflaphaa
