/-
  ONE FACT OF THE PROGRAM that all printed texts lean on.
-/
import Derived.Test.YtdeaollkgckppaaChecked
import Derived.Test.YtdeaollkgckppaaEv
namespace Go.Proofs
open Go Go.Ev
theorem Try_mixed : Try.prog.follows .mixedOrders = true := by kernel_rfl
end Go.Proofs
