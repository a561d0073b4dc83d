/-
  ONE FACT OF THE PROGRAM that all printed texts lean on.
-/
import Derived.Test.YtjikegaipldnhaaChecked
import Derived.Test.YtjikegaipldnhaaEv
namespace Go.Proofs
open Go Go.Ev
theorem Try_mixed : Try.prog.follows .mixedOrders = true := by kernel_rfl
end Go.Proofs
