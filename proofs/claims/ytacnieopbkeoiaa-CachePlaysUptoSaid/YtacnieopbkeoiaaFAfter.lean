/- PRINTED BY pr.py (own program): what the evaluator of <Name>Ev makes of the code of some functions. -/
import Derived.Test.YtacnieopbkeoiaaChecked
import Derived.Test.YtacnieopbkeoiaaEv
import Derived.Test.YtacnieopbkeoiaaMix
namespace Go.Proofs
open Go.Ev
set_option linter.unusedVariables false
set_option maxRecDepth 100000
def F_merge_After (epoch : Int) (side : Int) (w : World) (R : Value → World → Prop) : Prop :=
  Req ((side != 0) = (side != 0)) (Req ((side != 0) = (side != 0)) (Cb (cond (side != 0) (side != 1) false) (Ret [] (R (.tuple #[.int .u32 0, .int .i64 2]) w)) (Req ((2 :
  Int) ≠ 0) (Cb (Int.tmod (IntKind.wrap .u64 ((IntKind.wrap .u64 epoch) + 1)) 2 != (IntKind.wrap .u64 side)) (Cb (decide (IntKind.wrap .u64 ((IntKind.wrap .u64
  ((IntKind.wrap .u64 epoch) + 1)) + 1) > 4294967295)) (Ret [] (R (.tuple #[.int .u32 0, .int .i64 14]) w)) (Ret [] (R (.tuple #[.int .u32 (IntKind.wrap .u32 (IntKind.wrap
  .u64 ((IntKind.wrap .u64 ((IntKind.wrap .u64 epoch) + 1)) + 1))), .int .i64 0]) w))) (Cb (decide (IntKind.wrap .u64 ((IntKind.wrap .u64 epoch) + 1) > 4294967295)) (Ret []
  (R (.tuple #[.int .u32 0, .int .i64 14]) w)) (Ret [] (R (.tuple #[.int .u32 (IntKind.wrap .u32 (IntKind.wrap .u64 ((IntKind.wrap .u64 epoch) + 1))), .int .i64 0]) w)))))))
theorem C_merge_After {epoch : Int} {side : Int} {w : World} {R : Value → World → Prop} (h : F_merge_After epoch side w R) : CallV Try.prog 26 #[.int .u32 epoch, .int .i64 side] w R := by
  exact calls_of_F (args := [.int .u32 epoch, .int .i64 side]) (mkAnn [] [] [] [] []) Try_mixed Try.func26 rfl rfl (by kernel_rfl) h
end Go.Proofs
