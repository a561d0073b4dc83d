/- PRINTED BY pr.py (own program): what the evaluator of <Name>Ev makes of the code of some functions. -/
import Derived.Test.YtjikegaipldnhaaChecked
import Derived.Test.YtjikegaipldnhaaEv
import Derived.Test.YtjikegaipldnhaaMix
namespace Go.Proofs
open Go.Ev
set_option linter.unusedVariables false
set_option maxRecDepth 100000
def F_ravelinlaw12_awake  (w : World) (R : Value → World → Prop) : Prop :=
  CallV Try.prog 10 #[] w fun v w => OpN v fun b o => CallV Try.prog 11 #[.int .i64 200, .pointer (some ⟨b, o, none⟩)] w fun v1 w => T2 v1 fun v2 v3 => OpN v2 fun b1 o1 =>
  OpI .i64 v3 fun n => CallV Try.prog 11 #[.int .i64 200, .pointer (some ⟨b, o, none⟩)] w fun v4 w => T2 v4 fun v5 v6 => OpN v5 fun b2 o2 => OpI .i64 v6 fun n1 => CallV
  Try.prog 12 #[.pointer (some ⟨b1, o1, none⟩), .pointer (some ⟨b2, o2, none⟩), .int .i64 2] w fun v7 w => T2 v7 fun v8 v9 => OpN v8 fun b3 o3 => OpI .i64 v9 fun n2 => Req
  ((n2 != 0) = (n2 != 0)) (Req ((n2 != 0) = (n2 != 0)) (Cb (cond (n2 != 0) true false) (Ret [] (R (.bool false) w)) (DoQ Try.prog (Instr.build 40 #[(0, .int .u8 8)]) (At w)
  fun v10 => OpA 16 v10 fun cs => CallV Try.prog 14 #[.pointer (some ⟨b3, o3, none⟩), .int .i64 1, .int .i64 5, .agg cs] w fun v11 w => T2 v11 fun v12 v13 => OpI .u64 v12
  fun n3 => OpI .i64 v13 fun n4 => Req ((n4 == 0) = (n4 == 0)) (Req ((n4 == 0) = (n4 == 0)) (Cb (cond (n4 == 0) (n3 == 1) false) (CallV Try.prog 16 #[.pointer (some ⟨b1, o1,
  none⟩)] w fun v14 w => OpS v14 fun p l c => Cb (((l : Nat) : Int) == 1) (CallV Try.prog 16 #[.pointer (some ⟨b2, o2, none⟩)] w fun v15 w => OpS v15 fun p1 l1 c1 => Ret []
  (R (.bool (((l1 : Nat) : Int) == 1)) w)) (Ret [] (R (.bool false) w))) (Ret [] (R (.bool false) w)))))))
theorem C_ravelinlaw12_awake  {w : World} {R : Value → World → Prop} (h : F_ravelinlaw12_awake  w R) : CallV Try.prog 9 #[] w R := by
  exact calls_of_F (args := []) (mkAnn [] [] [] [] [100009, 100012, 100017, 100023]) Try_mixed Try.func9 rfl rfl (by kernel_rfl) h
end Go.Proofs
