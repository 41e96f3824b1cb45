/- MapQ: contracts of functions of the program: called in any world that meets a contract's premises, the function returns what the contract says and changes no more than it says. -/
import Derived.Test.YtdnccchcflaphaaMapP
import Derived.Test.YtdnccchcflaphaaEng14
import Derived.Test.YtdnccchcflaphaaChecked
open Go Go.Eng Go.Proofs
namespace Go.Proofs.Ytdnccchcflaphaa
theorem kt25 : KeyT Try.prog 25 5 32 := ⟨Try.underlying25, Try.underlying5, Try.sizeOf5, by kernel_rfl, by kernel_rfl, by kernel_rfl⟩
theorem z25 : ∀ w, (zeroValue 25).run Try.prog w = .ok (ek (List.replicate 32 0)) w := fun w => (Try.zeroValue25 w).trans (congrArg (fun v => Result.ok v w) (by kernel_rfl))
end Go.Proofs.Ytdnccchcflaphaa
