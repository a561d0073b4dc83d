/- PRINTED BY pr.py (own program): what the evaluator of <Name>Ev makes of the code of some functions. -/
import Derived.Test.YtdeaollkgckppaaChecked
import Derived.Test.YtdeaollkgckppaaEv
import Derived.Test.YtdeaollkgckppaaMix
namespace Go.Proofs
open Go.Ev
set_option linter.unusedVariables false
set_option maxRecDepth 100000
def F_ravelinref06_On  (w : World) (R : Value → World → Prop) : Prop :=
  Alc 32 (zc Try.prog 32) w fun b w => DoQ Try.prog (Instr.build 32 #[(1, .int .i64 (-1))]) (At w) fun v => OpA 3 v fun cs => StA 3 b 0 cs w fun w => LdA 3 b 0 (At w) fun
  cs1 => Ret [] (R (.agg cs1) w)
theorem C_ravelinref06_On  {w : World} {R : Value → World → Prop} (h : F_ravelinref06_On  w R) : CallV Try.prog 43 #[] w R := by
  exact calls_of_F (args := []) (mkAnn [] [] [] [] []) Try_mixed Try.func43 rfl rfl (by kernel_rfl) h
def F_ravelinref06_New (n : Int) (w : World) (R : Value → World → Prop) : Prop :=
  Alc 66 (zc Try.prog 66) w fun b w => HeldR w fun S w => (DoV Try.prog (Instr.makeSlice 63 (.int .i64 n) (.int .i64 n)) w fun v w => OpS v fun p l c => Hld (S w) (DoV
  Try.prog (Instr.makeSlice 64 (.int .i64 n) (.int .i64 n)) w fun v1 w => OpS v1 fun p1 l1 c1 => Hld (S w) (DoQ Try.prog (Instr.build 66 #[(0, .slice p l c), (1, .slice p1
  l1 c1), (2, .int .u32 0), (3, .bool false)]) (At w) fun v2 => OpA 4 v2 fun cs => StA 4 b 0 cs w fun w => Hld (S w) (LdA 4 b 0 (At w) fun cs1 => Ret [] (R (.agg cs1) w)))))
  ∧ (DoV Try.prog (Instr.makeSlice 64 (.int .i64 n) (.int .i64 n)) w fun v3 w => OpS v3 fun p2 l2 c2 => Hld (S w) (DoV Try.prog (Instr.makeSlice 63 (.int .i64 n) (.int .i64
  n)) w fun v4 w => OpS v4 fun p3 l3 c3 => Hld (S w) (DoQ Try.prog (Instr.build 66 #[(0, .slice p3 l3 c3), (1, .slice p2 l2 c2), (2, .int .u32 0), (3, .bool false)]) (At w)
  fun v5 => OpA 4 v5 fun cs2 => StA 4 b 0 cs2 w fun w => Hld (S w) (LdA 4 b 0 (At w) fun cs3 => Ret [] (R (.agg cs3) w)))))
theorem C_ravelinref06_New {n : Int} {w : World} {R : Value → World → Prop} (h : F_ravelinref06_New n w R) : CallV Try.prog 66 #[.int .i64 n] w R := by
  exact calls_of_F (args := [.int .i64 n]) (mkAnn [] [] [] [] []) Try_mixed Try.func66 rfl rfl (by kernel_rfl) h
end Go.Proofs
