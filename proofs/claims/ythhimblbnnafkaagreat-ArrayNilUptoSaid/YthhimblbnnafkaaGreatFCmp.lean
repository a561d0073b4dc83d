/- PRINTED BY pr.py (own program): what the evaluator of <Name>Ev makes of the code of some functions. -/
import Derived.Test.YthhimblbnnafkaaGreatChecked
import Derived.Test.YthhimblbnnafkaaGreatEv
import Derived.Test.YthhimblbnnafkaaGreatMix
namespace Go.Proofs
open Go.Ev
set_option linter.unusedVariables false
set_option maxRecDepth 100000
def F_cmp_isNaN_int (x : Int) (w : World) (R : Value → World → Prop) : Prop :=
  Ret [] (R (.bool (x != x)) w)
theorem C_cmp_isNaN_int {x : Int} {w : World} {R : Value → World → Prop} (h : F_cmp_isNaN_int x w R) : CallV Tryz.prog 267 #[.int .i64 x] w R := by
  exact calls_of_F (args := [.int .i64 x]) (mkAnn [] [] [] [] []) Tryz_mixed Tryz.func267 rfl rfl (by kernel_rfl) h
def F_cmp_isNaN_uint64 (x : Int) (w : World) (R : Value → World → Prop) : Prop :=
  Ret [] (R (.bool (x != x)) w)
theorem C_cmp_isNaN_uint64 {x : Int} {w : World} {R : Value → World → Prop} (h : F_cmp_isNaN_uint64 x w R) : CallV Tryz.prog 266 #[.int .u64 x] w R := by
  exact calls_of_F (args := [.int .u64 x]) (mkAnn [] [] [] [] []) Tryz_mixed Tryz.func266 rfl rfl (by kernel_rfl) h
def F_cmp_Compare_int (x : Int) (y : Int) (w : World) (R : Value → World → Prop) : Prop :=
  CallV Tryz.prog 267 #[.int .i64 x] w fun v w => OpB v fun g => CallV Tryz.prog 267 #[.int .i64 y] w fun v1 w => OpB v1 fun g1 => Cb g (Cb g1 (Ret [] (R (.int .i64 0) w))
  (Ret [] (R (.int .i64 (-1)) w))) (Cb g1 (Ret [] (R (.int .i64 1) w)) (Cb (decide (x < y)) (Ret [] (R (.int .i64 (-1)) w)) (Cb (decide (x > y)) (Ret [] (R (.int .i64 1) w))
  (Ret [] (R (.int .i64 0) w)))))
theorem C_cmp_Compare_int {x : Int} {y : Int} {w : World} {R : Value → World → Prop} (h : F_cmp_Compare_int x y w R) : CallV Tryz.prog 235 #[.int .i64 x, .int .i64 y] w R := by
  exact calls_of_F (args := [.int .i64 x, .int .i64 y]) (mkAnn [] [] [] [] []) Tryz_mixed Tryz.func235 rfl rfl (by kernel_rfl) h
def F_cmp_Compare_uint64 (x : Int) (y : Int) (w : World) (R : Value → World → Prop) : Prop :=
  CallV Tryz.prog 266 #[.int .u64 x] w fun v w => OpB v fun g => CallV Tryz.prog 266 #[.int .u64 y] w fun v1 w => OpB v1 fun g1 => Cb g (Cb g1 (Ret [] (R (.int .i64 0) w))
  (Ret [] (R (.int .i64 (-1)) w))) (Cb g1 (Ret [] (R (.int .i64 1) w)) (Cb (decide (x < y)) (Ret [] (R (.int .i64 (-1)) w)) (Cb (decide (x > y)) (Ret [] (R (.int .i64 1) w))
  (Ret [] (R (.int .i64 0) w)))))
theorem C_cmp_Compare_uint64 {x : Int} {y : Int} {w : World} {R : Value → World → Prop} (h : F_cmp_Compare_uint64 x y w R) : CallV Tryz.prog 234 #[.int .u64 x, .int .u64 y] w R := by
  exact calls_of_F (args := [.int .u64 x, .int .u64 y]) (mkAnn [] [] [] [] []) Tryz_mixed Tryz.func234 rfl rfl (by kernel_rfl) h
def F_cmp_Or_int (valsp : Option Addr) (valsl : Nat) (valsc : Nat) (w : World) (R : Value → World → Prop) : Prop :=
  LoopC (σ := Int × Unit) (fun _ s1 w K1 => Cb (decide (s1.1 < ((valsl : Nat) : Int))) (IdxS valsp valsl s1.1 1 fun b o => LdV b o (At w) fun v => OpI .i64 v fun n => Cb (n
  != 0) (Ret [] (R (.int .i64 n) w)) (K1 (IntKind.wrap .i64 (s1.1 + 1), ()) w)) (Ret [] (R (.int .i64 0) w))) (0, ()) w
theorem C_cmp_Or_int {valsp : Option Addr} {valsl : Nat} {valsc : Nat} {w : World} {R : Value → World → Prop} (h : F_cmp_Or_int valsp valsl valsc w R) : CallV Tryz.prog 233 #[.slice valsp valsl valsc] w R := by
  exact calls_of_F (args := [.slice valsp valsl valsc]) (mkAnn [(3, [(8, (.int .i64))])] [] [] [] []) Tryz_mixed Tryz.func233 rfl rfl (by kernel_rfl) h
end Go.Proofs
