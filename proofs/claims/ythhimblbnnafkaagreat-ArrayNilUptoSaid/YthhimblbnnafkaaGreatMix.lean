/-
  ONE FACT OF THE PROGRAM that all printed texts lean on.
-/
import Derived.Test.YthhimblbnnafkaaGreatChecked
import Derived.Test.YthhimblbnnafkaaGreatEv
namespace Go.Proofs
open Go Go.Ev
theorem Tryz_mixed : Tryz.prog.follows .mixedOrders = true := by kernel_rfl
end Go.Proofs
