/-
  ONE FACT OF THE PROGRAM that all printed texts lean on.
-/
import Derived.Test.YtdjlmpkjdgmkkaaChecked
import Derived.Test.YtdjlmpkjdgmkkaaEv
namespace Go.Proofs
open Go Go.Ev
theorem Try_mixed : Try.prog.follows .mixedOrders = true := by kernel_rfl
end Go.Proofs
