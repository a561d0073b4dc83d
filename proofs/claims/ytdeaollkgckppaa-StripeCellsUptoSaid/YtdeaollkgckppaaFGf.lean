/- PRINTED BY pr.py (own program): what the evaluator of <Name>Ev makes of the code of some functions. -/
import Derived.Test.YtdeaollkgckppaaChecked
import Derived.Test.YtdeaollkgckppaaEv
import Derived.Test.YtdeaollkgckppaaMix
namespace Go.Proofs
open Go.Ev
set_option linter.unusedVariables false
set_option maxRecDepth 100000
def F_gf_Mul (a : Int) (b : Int) (w : World) (R : Value → World → Prop) : Prop :=
  LoopC (σ := Int × Int × Int × Unit) (fun _ s1 w K1 => Cb (decide (s1.1 > 0)) (Cb (ibits .and .u8 s1.1 1 == 1) (Req (0 ≤ (1 : Int)) (Cb (decide (ishl .i64 s1.2.2.1 1 >
  255)) (Req (0 ≤ (1 : Int)) (K1 (ishr .u8 s1.1 1, (ibits .xor .i64 s1.2.1 s1.2.2.1, (ibits .xor .i64 (ishl .i64 s1.2.2.1 1) 285, ()))) w)) (Req (0 ≤ (1 : Int)) (K1 (ishr
  .u8 s1.1 1, (ibits .xor .i64 s1.2.1 s1.2.2.1, (ishl .i64 s1.2.2.1 1, ()))) w)))) (Req (0 ≤ (1 : Int)) (Cb (decide (ishl .i64 s1.2.2.1 1 > 255)) (Req (0 ≤ (1 : Int)) (K1
  (ishr .u8 s1.1 1, (s1.2.1, (ibits .xor .i64 (ishl .i64 s1.2.2.1 1) 285, ()))) w)) (Req (0 ≤ (1 : Int)) (K1 (ishr .u8 s1.1 1, (s1.2.1, (ishl .i64 s1.2.2.1 1, ()))) w)))))
  (Ret [] (R (.int .u8 (IntKind.wrap .u8 s1.2.1)) w))) (b, (0, (IntKind.wrap .i64 a, ()))) w
theorem C_gf_Mul {a : Int} {b : Int} {w : World} {R : Value → World → Prop} (h : F_gf_Mul a b w R) : CallV Try.prog 99 #[.int .u8 a, .int .u8 b] w R := by
  exact calls_of_F (args := [.int .u8 a, .int .u8 b]) (mkAnn [(2, [(1, (.int .u8)), (5, (.int .i64)), (6, (.int .i64))])] [] [] [] []) Try_mixed Try.func99 rfl rfl (by kernel_rfl) h
def F_gf_power (a : Int) (n : Int) (w : World) (R : Value → World → Prop) : Prop :=
  LoopC (σ := Int × Int × Int × Unit) (fun _ s1 w K1 => Cb (decide (s1.2.1 > 0)) (Cb (ibits .and .i64 s1.2.1 1 == 1) (CallV Try.prog 99 #[.int .u8 s1.2.2.1, .int .u8 s1.1] w
  fun v w => OpI .u8 v fun n1 => CallV Try.prog 99 #[.int .u8 s1.1, .int .u8 s1.1] w fun v1 w => OpI .u8 v1 fun n2 => Req (0 ≤ (1 : Int)) (K1 (n2, (ishr .i64 s1.2.1 1, (n1,
  ()))) w)) (CallV Try.prog 99 #[.int .u8 s1.1, .int .u8 s1.1] w fun v2 w => OpI .u8 v2 fun n3 => Req (0 ≤ (1 : Int)) (K1 (n3, (ishr .i64 s1.2.1 1, (s1.2.2.1, ()))) w)))
  (Ret [] (R (.int .u8 s1.2.2.1) w))) (a, (n, (1, ()))) w
theorem C_gf_power {a : Int} {n : Int} {w : World} {R : Value → World → Prop} (h : F_gf_power a n w R) : CallV Try.prog 100 #[.int .u8 a, .int .i64 n] w R := by
  exact calls_of_F (args := [.int .u8 a, .int .i64 n]) (mkAnn [(2, [(0, (.int .u8)), (1, (.int .i64)), (5, (.int .u8))])] [] [] [] []) Try_mixed Try.func100 rfl rfl (by kernel_rfl) h
def F_gf_around (n : Int) (w : World) (R : Value → World → Prop) : Prop :=
  Req ((255 : Int) ≠ 0) (Req ((255 : Int) ≠ 0) (Ret [] (R (.int .i64 (Int.tmod (IntKind.wrap .i64 ((Int.tmod n 255) + 255)) 255)) w)))
theorem C_gf_around {n : Int} {w : World} {R : Value → World → Prop} (h : F_gf_around n w R) : CallV Try.prog 101 #[.int .i64 n] w R := by
  exact calls_of_F (args := [.int .i64 n]) (mkAnn [] [] [] [] []) Try_mixed Try.func101 rfl rfl (by kernel_rfl) h
def F_gf_Exp (n : Int) (w : World) (R : Value → World → Prop) : Prop :=
  CallV Try.prog 101 #[.int .i64 n] w fun v w => OpI .i64 v fun n1 => CallV Try.prog 100 #[.int .u8 2, .int .i64 n1] w fun v1 w => OpI .u8 v1 fun n2 => Ret [] (R (.int .u8
  n2) w)
theorem C_gf_Exp {n : Int} {w : World} {R : Value → World → Prop} (h : F_gf_Exp n w R) : CallV Try.prog 88 #[.int .i64 n] w R := by
  exact calls_of_F (args := [.int .i64 n]) (mkAnn [] [] [] [] []) Try_mixed Try.func88 rfl rfl (by kernel_rfl) h
def F_gf_Inv (a : Int) (w : World) (R : Value → World → Prop) : Prop :=
  Cb (a == 0) (Ret [] (R (.tuple #[.int .u8 0, .int .i64 3]) w)) (CallV Try.prog 100 #[.int .u8 a, .int .i64 254] w fun v w => OpI .u8 v fun n => Ret [] (R (.tuple #[.int
  .u8 n, .int .i64 0]) w))
theorem C_gf_Inv {a : Int} {w : World} {R : Value → World → Prop} (h : F_gf_Inv a w R) : CallV Try.prog 87 #[.int .u8 a] w R := by
  exact calls_of_F (args := [.int .u8 a]) (mkAnn [] [] [] [] []) Try_mixed Try.func87 rfl rfl (by kernel_rfl) h
def F_gf_Solve (a : Int) (b : Int) (c : Int) (d : Int) (e : Int) (f : Int) (w : World) (R : Value → World → Prop) : Prop :=
  CallV Try.prog 99 #[.int .u8 a, .int .u8 d] w fun v w => OpI .u8 v fun n => CallV Try.prog 99 #[.int .u8 b, .int .u8 c] w fun v1 w => OpI .u8 v1 fun n1 => CallV Try.prog
  87 #[.int .u8 (ibits .xor .u8 n n1)] w fun v2 w => T2 v2 fun v3 v4 => OpI .u8 v3 fun n2 => OpI .i64 v4 fun n3 => Cb (n3 != 0) (Ret [] (R (.tuple #[.int .u8 0, .int .u8 0,
  .int .i64 n3]) w)) (CallV Try.prog 99 #[.int .u8 d, .int .u8 e] w fun v5 w => OpI .u8 v5 fun n4 => CallV Try.prog 99 #[.int .u8 b, .int .u8 f] w fun v6 w => OpI .u8 v6 fun
  n5 => CallV Try.prog 99 #[.int .u8 n2, .int .u8 (ibits .xor .u8 n4 n5)] w fun v7 w => OpI .u8 v7 fun n6 => CallV Try.prog 99 #[.int .u8 a, .int .u8 f] w fun v8 w => OpI
  .u8 v8 fun n7 => CallV Try.prog 99 #[.int .u8 c, .int .u8 e] w fun v9 w => OpI .u8 v9 fun n8 => CallV Try.prog 99 #[.int .u8 n2, .int .u8 (ibits .xor .u8 n7 n8)] w fun v10
  w => OpI .u8 v10 fun n9 => Ret [] (R (.tuple #[.int .u8 n6, .int .u8 n9, .int .i64 0]) w))
theorem C_gf_Solve {a : Int} {b : Int} {c : Int} {d : Int} {e : Int} {f : Int} {w : World} {R : Value → World → Prop} (h : F_gf_Solve a b c d e f w R) : CallV Try.prog 89 #[.int .u8 a, .int .u8 b, .int .u8 c, .int .u8 d, .int .u8 e, .int .u8 f] w R := by
  exact calls_of_F (args := [.int .u8 a, .int .u8 b, .int .u8 c, .int .u8 d, .int .u8 e, .int .u8 f]) (mkAnn [] [] [] [] []) Try_mixed Try.func89 rfl rfl (by kernel_rfl) h
end Go.Proofs
