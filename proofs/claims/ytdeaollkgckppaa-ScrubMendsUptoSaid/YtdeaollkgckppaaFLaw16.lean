/- PRINTED BY pr.py (own program): what the evaluator of <Name>Ev makes of the code of some functions. -/
import Derived.Test.YtdeaollkgckppaaChecked
import Derived.Test.YtdeaollkgckppaaEv
import Derived.Test.YtdeaollkgckppaaMix
namespace Go.Proofs
open Go.Ev
set_option linter.unusedVariables false
set_option maxRecDepth 100000
def F_ravelinlaw16_small (a : Int) (b : Int) (c : Int) (w : World) (R : Value → World → Prop) : Prop :=
  Alc 25 (zc Try.prog 25) w fun b1 w => Req ((4 : Int) ≠ 0) (Req ((2 : Int) ≠ 0) (Req ((3 : Int) ≠ 0) (DoQ Try.prog (Instr.build 25 #[(0, .int .i64 (IntKind.wrap .i64
  ((IntKind.wrap .i64 (Int.tmod a 4)) + 4))), (1, .int .i64 (IntKind.wrap .i64 ((IntKind.wrap .i64 (Int.tmod b 2)) + 1))), (2, .int .i64 (IntKind.wrap .i64 ((IntKind.wrap
  .i64 (Int.tmod c 3)) + 1)))]) (At w) fun v => OpA 3 v fun cs => StA 3 b1 0 cs w fun w => LdA 3 b1 0 (At w) fun cs1 => Ret [] (R (.agg cs1) w))))
theorem C_ravelinlaw16_small {a : Int} {b : Int} {c : Int} {w : World} {R : Value → World → Prop} (h : F_ravelinlaw16_small a b c w R) : CallV Try.prog 35 #[.int .u8 a, .int .u8 b, .int .u8 c] w R := by
  exact calls_of_F (args := [.int .u8 a, .int .u8 b, .int .u8 c]) (mkAnn [] [] [] [] []) Try_mixed Try.func35 rfl rfl (by kernel_rfl) h
def F_ravelinlaw16_awake  (w : World) (R : Value → World → Prop) : Prop :=
  DoQ Try.prog (Instr.build 25 #[(0, .int .i64 4), (1, .int .i64 1), (2, .int .i64 2)]) (At w) fun v => OpA 3 v fun cs => CallV Try.prog 30 #[] w fun v1 w => OpN v1 fun b o
  => CallV Try.prog 31 #[.agg cs, .pointer (some ⟨b, o, none⟩)] w fun v2 w => T2 v2 fun v3 v4 => OpA 4 v3 fun cs1 => OpI .i64 v4 fun n => Alc 29 (zc Try.prog 29) w fun b1 w
  => StA 4 b1 0 cs1 w fun w => Cb (n != 0) (Ret [] (R (.bool false) w)) (LdV b1 3 (At w) fun v5 => OpS v5 fun p l c => Cb (((l : Nat) : Int) != 4) (Ret [] (R (.bool false)
  w)) (LdV b1 3 (At w) fun v6 => OpS v6 fun p1 l1 c1 => IdxS p1 l1 1 1 fun b2 o1 => LdV b2 o1 (At w) fun v7 => OpN v7 fun b3 o2 => CallV Try.prog 26 #[.pointer (some ⟨b3,
  o2, none⟩), .int .i64 0] w fun v8 w => OpI .i64 v8 fun n1 => LdA 4 b1 0 (At w) fun cs2 => CallV Try.prog 38 #[.agg cs2, .int .i64 0, .int .u32 0] w fun v9 w => T2 v9 fun
  v10 v11 => OpA 4 v10 fun cs3 => OpI .i64 v11 fun n2 => Alc 97 (zc Try.prog 97) w fun b4 w => StA 4 b4 0 cs3 w fun w => Cb (n2 == 0) (LdA 4 b4 0 (At w) fun cs4 => DoQ
  Try.prog (Instr.build 97 #[(0, .int .i64 1), (1, .int .i64 1), (2, .int .i64 1)]) (At w) fun v12 => OpA 4 v12 fun cs5 => EqB Try.prog .eql 97 (.tmp 31) (.tmp 32) (.agg cs4
  : Value) (.agg cs5 : Value) (At w) fun g => Ret [] (R (.bool g) w)) (Ret [] (R (.bool false) w))))
theorem C_ravelinlaw16_awake  {w : World} {R : Value → World → Prop} (h : F_ravelinlaw16_awake  w R) : CallV Try.prog 36 #[] w R := by
  exact calls_of_F (args := []) (mkAnn [] [] [] [] [100006]) Try_mixed Try.func36 rfl rfl (by kernel_rfl) h
end Go.Proofs
