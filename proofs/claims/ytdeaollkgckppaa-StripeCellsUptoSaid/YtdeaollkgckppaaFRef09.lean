/- PRINTED BY pr.py (own program): what the evaluator of <Name>Ev makes of the code of some functions. -/
import Derived.Test.YtdeaollkgckppaaChecked
import Derived.Test.YtdeaollkgckppaaEv
import Derived.Test.YtdeaollkgckppaaMix
namespace Go.Proofs
open Go.Ev
set_option linter.unusedVariables false
set_option maxRecDepth 100000
def F_ravelinref09_New (g : Array Value) (p : Array Value) (w : World) (R : Value → World → Prop) : Prop :=
  Alc 25 g w fun b w => Alc 32 p w fun b1 w => Alc 34 (zc Try.prog 34) w fun b2 w => LdA 3 b 0 (At w) fun cs => LdA 3 b1 0 (At w) fun cs1 => DoQ Try.prog (Instr.build 34
  #[(0, .agg cs), (2, .agg cs1)]) (At w) fun v => OpA 7 v fun cs2 => Alc 34 (zc Try.prog 34) w fun b3 w => StA 7 b3 0 cs2 w fun w => LdA 3 b 0 (At w) fun cs3 => CallV
  Try.prog 54 #[.agg cs3] w fun v1 w => T2 v1 fun v2 v3 => OpI .i64 v2 fun n => OpI .i64 v3 fun n1 => LoopC (σ := Int × Unit) (fun _ s1 w K1 => LdV b 0 (At w) fun v4 => OpI
  .i64 v4 fun n2 => Cb (decide (s1.1 < n2)) (CallV Try.prog 66 #[.int .i64 n] w fun v5 w => OpA 4 v5 fun cs4 => Alc 66 (zc Try.prog 66) w fun b4 w => StA 4 b4 0 cs4 w fun w
  => LoopC (σ := Int × Unit) (fun _ s2 w K2 => Cb (decide (s2.1 < n)) (HeldR w fun S w => LdV b4 0 S fun v6 => OpS v6 fun p1 l c => DoQ Try.prog (Instr.build 23 #[]) (At w)
  fun v7 => OpA 16 v7 fun cs5 => CallV Try.prog 75 #[.int .i64 s2.1, .agg cs5] w fun v8 w => OpA 17 v8 fun cs6 => Hld (S w) (IdxS p1 l s2.1 17 fun b5 o => StA 17 b5 o cs6 w
  fun w => Hld (S w) (LdV b4 1 (At w) fun v9 => OpS v9 fun p2 l1 c1 => IdxS p2 l1 s2.1 1 fun b6 o1 => StV b6 o1 (.bool true) w fun w => K2 (IntKind.wrap .i64 (s2.1 + 1), ())
  w))) (LdV b3 3 (At w) fun v10 => OpS v10 fun p3 l2 c2 => LdA 4 b4 0 (At w) fun cs7 => DoV Try.prog (Instr.buildSlice 30 1 #[(0, .agg cs7)]) w fun v11 w => OpS v11 fun p4
  l3 c3 => DoV Try.prog (Builtin.append_ #[30, 30] 30 #[.slice p3 l2 c2, .slice p4 l3 c3]) w fun v12 w => OpS v12 fun p5 l4 c4 => StV b3 3 (.slice p5 l4 c4) w fun w => K1
  (IntKind.wrap .i64 (s1.1 + 1), ()) w)) (0, ()) w) (LdA 7 b3 0 (At w) fun cs8 => StA 7 b2 0 cs8 w fun w => LdA 7 b2 0 (At w) fun cs9 => Ret [] (R (.agg cs9) w))) (0, ()) w
theorem C_ravelinref09_New {g : Array Value} {p : Array Value} {w : World} {R : Value → World → Prop} (h : F_ravelinref09_New g p w R) : CallV Try.prog 42 #[.agg g, .agg p] w R := by
  exact calls_of_F (args := [.agg g, .agg p]) (mkAnn [(4, [(8, (.int .i64))]), (8, [(10, (.int .i64))])] [] [] [] [37]) Try_mixed Try.func42 rfl rfl (by kernel_rfl) h
end Go.Proofs
