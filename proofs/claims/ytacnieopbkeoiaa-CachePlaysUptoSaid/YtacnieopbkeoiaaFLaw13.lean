/- PRINTED BY pr.py (own program): what the evaluator of <Name>Ev makes of the code of some functions. -/
import Derived.Test.YtacnieopbkeoiaaChecked
import Derived.Test.YtacnieopbkeoiaaEv
import Derived.Test.YtacnieopbkeoiaaMix
namespace Go.Proofs
open Go.Ev
set_option linter.unusedVariables false
set_option maxRecDepth 100000
def F_ravelinlaw13_awake  (w : World) (R : Value → World → Prop) : Prop :=
  DoQ Try.prog (Instr.build 42 #[(0, .int .i64 1), (1, .int .u64 1), (2, .int .i64 5)]) (At w) fun v => OpA 19 v fun cs => DoQ Try.prog (Instr.build 42 #[(0, .int .i64 1),
  (1, .int .u64 3), (2, .int .i64 5)]) (At w) fun v1 => OpA 19 v1 fun cs1 => DoV Try.prog (Instr.buildSlice 37 2 #[(0, .agg cs), (1, .agg cs1)]) w fun v2 w => OpS v2 fun p l
  c => DoQ Try.prog (Instr.build 42 #[(0, .int .i64 2), (1, .int .u64 1), (2, .int .i64 5)]) (At w) fun v3 => OpA 19 v3 fun cs2 => DoV Try.prog (Instr.buildSlice 37 1 #[(0,
  .agg cs2)]) w fun v4 w => OpS v4 fun p1 l1 c1 => DoV Try.prog (Instr.buildSlice 44 2 #[(0, .slice p l c), (1, .slice p1 l1 c1)]) w fun v5 w => OpS v5 fun p2 l2 c2 => CallV
  Try.prog 20 #[.slice p2 l2 c2] w fun v6 w => OpS v6 fun p3 l3 c3 => Cb (((l3 : Nat) : Int) == 1) (IdxS p3 l3 0 19 fun b o => LdV b (o + 1) (At w) fun v7 => OpI .u64 v7 fun
  n => Ret [] (R (.bool (n == 3)) w)) (Ret [] (R (.bool false) w))
theorem C_ravelinlaw13_awake  {w : World} {R : Value → World → Prop} (h : F_ravelinlaw13_awake  w R) : CallV Try.prog 18 #[] w R := by
  exact calls_of_F (args := []) (mkAnn [] [] [] [] []) Try_mixed Try.func18 rfl rfl (by kernel_rfl) h
def F_ravelinlaw13_MergeSides (epoch : Int) (sidesp : Option Addr) (sidesl : Nat) (sidesc : Nat) (w : World) (R : Value → World → Prop) : Prop :=
  CallV Try.prog 18 #[] w fun v w => OpB v fun g => Cb (!g) (Ret [] (R (.bool false) w)) (LoopC (σ := Int × Int × Unit) (fun _ s1 w K1 => Cb (decide (s1.2.1 < ((sidesl :
  Nat) : Int))) (IdxS sidesp sidesl s1.2.1 1 fun b o => LdV b o (At w) fun v1 => OpB v1 fun g1 => Cb g1 (CallV Try.prog 26 #[.int .u32 s1.1, .int .i64 1] w fun v2 w => T2 v2
  fun v3 v4 => OpI .u32 v3 fun n => OpI .i64 v4 fun n1 => Cb (n1 != 0) (Req ((n1 == 14) = (n1 == 14)) (Req ((n1 == 14) = (n1 == 14)) (Ret [] (R (.bool (cond (n1 == 14)
  (decide (s1.1 ≥ 4294967294)) false)) w)))) (Cb (decide (n ≤ s1.1)) (Req (true = true) (Req (true = true) (Req (true = true) (Req (true = true) (Ret [] (R (.bool false)
  w)))))) (Req ((2 : Int) ≠ 0) (Req ((IntKind.wrap .i64 (Int.tmod n 2) != 1) = (IntKind.wrap .i64 (Int.tmod n 2) != 1)) (Req ((IntKind.wrap .i64 (Int.tmod n 2) != 1) =
  (IntKind.wrap .i64 (Int.tmod n 2) != 1)) (Req ((IntKind.wrap .i64 (Int.tmod n 2) != 1) = (IntKind.wrap .i64 (Int.tmod n 2) != 1)) (Req ((IntKind.wrap .i64 (Int.tmod n 2)
  != 1) = (IntKind.wrap .i64 (Int.tmod n 2) != 1)) (Cb (cond (IntKind.wrap .i64 (Int.tmod n 2) != 1) true (decide (IntKind.wrap .u32 (n - s1.1) > 2))) (Ret [] (R (.bool
  false) w)) (K1 (n, (IntKind.wrap .i64 (s1.2.1 + 1), ())) w))))))))) (CallV Try.prog 26 #[.int .u32 s1.1, .int .i64 0] w fun v5 w => T2 v5 fun v6 v7 => OpI .u32 v6 fun n2
  => OpI .i64 v7 fun n3 => Cb (n3 != 0) (Req ((n3 == 14) = (n3 == 14)) (Req ((n3 == 14) = (n3 == 14)) (Ret [] (R (.bool (cond (n3 == 14) (decide (s1.1 ≥ 4294967294)) false))
  w)))) (Cb (decide (n2 ≤ s1.1)) (Req (true = true) (Req (true = true) (Req (true = true) (Req (true = true) (Ret [] (R (.bool false) w)))))) (Req ((2 : Int) ≠ 0) (Req
  ((IntKind.wrap .i64 (Int.tmod n2 2) != 0) = (IntKind.wrap .i64 (Int.tmod n2 2) != 0)) (Req ((IntKind.wrap .i64 (Int.tmod n2 2) != 0) = (IntKind.wrap .i64 (Int.tmod n2 2)
  != 0)) (Req ((IntKind.wrap .i64 (Int.tmod n2 2) != 0) = (IntKind.wrap .i64 (Int.tmod n2 2) != 0)) (Req ((IntKind.wrap .i64 (Int.tmod n2 2) != 0) = (IntKind.wrap .i64
  (Int.tmod n2 2) != 0)) (Cb (cond (IntKind.wrap .i64 (Int.tmod n2 2) != 0) true (decide (IntKind.wrap .u32 (n2 - s1.1) > 2))) (Ret [] (R (.bool false) w)) (K1 (n2,
  (IntKind.wrap .i64 (s1.2.1 + 1), ())) w)))))))))) (Ret [] (R (.bool true) w))) (epoch, (0, ())) w)
theorem C_ravelinlaw13_MergeSides {epoch : Int} {sidesp : Option Addr} {sidesl : Nat} {sidesc : Nat} {w : World} {R : Value → World → Prop} (h : F_ravelinlaw13_MergeSides epoch sidesp sidesl sidesc w R) : CallV Try.prog 7 #[.int .u32 epoch, .slice sidesp sidesl sidesc] w R := by
  exact calls_of_F (args := [.int .u32 epoch, .slice sidesp sidesl sidesc]) (mkAnn [(5, [(5, (.int .u32)), (6, (.int .i64))])] [] [] [] []) Try_mixed Try.func7 rfl rfl (by kernel_rfl) h
end Go.Proofs
