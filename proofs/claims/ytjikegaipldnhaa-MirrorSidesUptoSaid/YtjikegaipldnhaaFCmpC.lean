/- PRINTED BY pr.py (own program): what the evaluator of <Name>Ev makes of the code of some functions. -/
import Derived.Test.YtjikegaipldnhaaChecked
import Derived.Test.YtjikegaipldnhaaEv
import Derived.Test.YtjikegaipldnhaaMix
namespace Go.Proofs
open Go.Ev
set_option linter.unusedVariables false
set_option maxRecDepth 100000
def F_cache_Cache_List_1 (a : Array Value) (b : Array Value) (w : World) (R : Value → World → Prop) : Prop :=
  Alc 46 a w fun b1 w => Alc 46 b w fun b2 w => Dr1 w fun w => LdV b1 1 (At w) fun v => OpI .u64 v fun n => LdV b2 1 (At w) fun v1 => OpI .u64 v1 fun n1 => CallS Try.prog 91
  #[.int .u64 n, .int .u64 n1] w fun v2 => OpI .i64 v2 fun n2 => LdV b1 2 (At w) fun v3 => OpI .i64 v3 fun n3 => LdV b2 2 (At w) fun v4 => OpI .i64 v4 fun n4 => CallS
  Try.prog 92 #[.int .i64 n3, .int .i64 n4] w fun v5 => OpI .i64 v5 fun n5 => DoV Try.prog (Instr.buildSlice 35 2 #[(0, .int .i64 n2), (1, .int .i64 n5)]) w fun v6 w => OpS
  v6 fun p l c => CallV Try.prog 90 #[.slice p l c] w fun v7 w => OpI .i64 v7 fun n6 => Ret [] (R (.int .i64 n6) w)
theorem C_cache_Cache_List_1 {a : Array Value} {b : Array Value} {w : World} {R : Value → World → Prop} (h : F_cache_Cache_List_1 a b w R) : CallV Try.prog 89 #[.agg a, .agg b] w R := by
  exact calls_of_F (args := [.agg a, .agg b]) (mkAnn [] [] [] [] []) Try_mixed Try.func89 rfl rfl (by kernel_rfl) h
end Go.Proofs
