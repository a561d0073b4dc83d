/- PRINTED BY pr.py (own program): what the evaluator of <Name>Ev makes of the code of some functions. -/
import Derived.Test.YtdjlmpkjdgmkkaaChecked
import Derived.Test.YtdjlmpkjdgmkkaaEv
import Derived.Test.YtdjlmpkjdgmkkaaMix
namespace Go.Proofs
open Go.Ev
set_option linter.unusedVariables false
set_option maxRecDepth 100000
def F_ravelinref13_After (epoch : Int) (side : Int) (w : World) (R : Value → World → Prop) : Prop :=
  Req ((side != 0) = (side != 0)) (Req ((side != 0) = (side != 0)) (Cb (cond (side != 0) (side != 1) false) (Ret [] (R (.tuple #[.int .u32 0, .int .i64 2]) w)) (LoopC (σ :=
  Int × Unit) (fun _ s1 w K1 => Cb (decide (s1.1 ≤ 2)) (Req ((2 : Int) ≠ 0) (Req ((Int.tmod (IntKind.wrap .u64 ((IntKind.wrap .u64 epoch) + s1.1)) 2 == (IntKind.wrap .u64
  side)) = (Int.tmod (IntKind.wrap .u64 ((IntKind.wrap .u64 epoch) + s1.1)) 2 == (IntKind.wrap .u64 side))) (Req ((Int.tmod (IntKind.wrap .u64 ((IntKind.wrap .u64 epoch) +
  s1.1)) 2 == (IntKind.wrap .u64 side)) = (Int.tmod (IntKind.wrap .u64 ((IntKind.wrap .u64 epoch) + s1.1)) 2 == (IntKind.wrap .u64 side))) (Cb (cond (Int.tmod (IntKind.wrap
  .u64 ((IntKind.wrap .u64 epoch) + s1.1)) 2 == (IntKind.wrap .u64 side)) (decide (IntKind.wrap .u64 ((IntKind.wrap .u64 epoch) + s1.1) ≤ 4294967295)) false) (Ret [] (R
  (.tuple #[.int .u32 (IntKind.wrap .u32 (IntKind.wrap .u64 ((IntKind.wrap .u64 epoch) + s1.1))), .int .i64 0]) w)) (K1 (IntKind.wrap .u64 (s1.1 + 1), ()) w))))) (Ret [] (R
  (.tuple #[.int .u32 0, .int .i64 14]) w))) (1, ()) w)))
theorem C_ravelinref13_After {epoch : Int} {side : Int} {w : World} {R : Value → World → Prop} (h : F_ravelinref13_After epoch side w R) : CallV Try.prog 53 #[.int .u32 epoch, .int .i64 side] w R := by
  exact calls_of_F (args := [.int .u32 epoch, .int .i64 side]) (mkAnn [(4, [(6, (.int .u64))])] [] [] [] []) Try_mixed Try.func53 rfl rfl (by kernel_rfl) h
end Go.Proofs
