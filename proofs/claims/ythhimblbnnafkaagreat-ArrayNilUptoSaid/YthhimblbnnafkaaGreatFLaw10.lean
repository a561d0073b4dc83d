/- PRINTED BY pr.py (own program): what the evaluator of <Name>Ev makes of the code of some functions. -/
import Derived.Test.YthhimblbnnafkaaGreatChecked
import Derived.Test.YthhimblbnnafkaaGreatEv
import Derived.Test.YthhimblbnnafkaaGreatMix
namespace Go.Proofs
open Go.Ev
set_option linter.unusedVariables false
set_option maxRecDepth 100000
def F_ravelinlaw10_awake  (w : World) (R : Value → World → Prop) : Prop :=
  CallV Tryz.prog 52 #[] w fun v w => OpN v fun b o => CallV Tryz.prog 54 #[.int .i64 500, .pointer (some ⟨b, o, none⟩)] w fun v1 w => T2 v1 fun v2 v3 => OpN v2 fun b1 o1 =>
  OpI .i64 v3 fun n => Req ((n != 0) = (n != 0)) (Req ((n != 0) = (n != 0)) (Cb (cond (n != 0) true false) (Ret [] (R (.bool false) w)) (DoV Tryz.prog (Instr.buildSlice 109
  1 #[(0, .pointer (some ⟨b1, o1, none⟩))]) w fun v4 w => OpS v4 fun p l c => DoQ Tryz.prog (Instr.build 88 #[]) (At w) fun v5 => OpA 19 v5 fun cs => DoV Tryz.prog
  (Instr.buildSlice 75 1 #[(0, .agg cs)]) w fun v6 w => OpS v6 fun p1 l1 c1 => CallV Tryz.prog 131 #[.slice p l c, .int .u64 7, .slice p1 l1 c1] w fun v7 w => OpI .i64 v7
  fun n1 => Cb (n1 != 0) (Ret [] (R (.bool false) w)) (CallV Tryz.prog 62 #[.pointer (some ⟨b1, o1, none⟩)] w fun v8 w => OpS v8 fun p2 l2 c2 => Cb (((l2 : Nat) : Int) == 2)
  (CallV Tryz.prog 62 #[.pointer (some ⟨b1, o1, none⟩)] w fun v9 w => OpS v9 fun p3 l3 c3 => DoV Tryz.prog (Instr.buildSlice 158 1 #[(0, .slice p3 l3 c3)]) w fun v10 w =>
  OpS v10 fun p4 l4 c4 => CallV Tryz.prog 132 #[.slice p4 l4 c4] w fun v11 w => OpS v11 fun p5 l5 c5 => Ret [] (R (.bool (((l5 : Nat) : Int) == 1)) w)) (Ret [] (R (.bool
  false) w))))))
theorem C_ravelinlaw10_awake  {w : World} {R : Value → World → Prop} (h : F_ravelinlaw10_awake  w R) : CallV Tryz.prog 55 #[] w R := by
  exact calls_of_F (args := []) (mkAnn [] [] [] [] [100004, 100007]) Tryz_mixed Tryz.func55 rfl rfl (by kernel_rfl) h
end Go.Proofs
