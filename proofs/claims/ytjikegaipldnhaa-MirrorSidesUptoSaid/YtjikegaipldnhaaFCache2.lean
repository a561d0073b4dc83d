/- PRINTED BY pr.py (own program): what the evaluator of <Name>Ev makes of the code of some functions. -/
import Derived.Test.YtjikegaipldnhaaChecked
import Derived.Test.YtjikegaipldnhaaEv
import Derived.Test.YtjikegaipldnhaaMix
namespace Go.Proofs
open Go.Ev
set_option linter.unusedVariables false
set_option maxRecDepth 100000
def F_cache_Cache_List (c : Nat) (w : World) (R : Value → World → Prop) : Prop :=
  LdV c 1 (At w) fun v => OpM v fun m => DoV Try.prog (Instr.range 159 (.map m)) w fun v1 w => OpN v1 fun b o => LoopC (σ := (Option Addr × Nat × Nat) × Unit) (fun _ s1 w K1
  => DoV Try.prog (Instr.next (.pointer (some ⟨b, o, none⟩)) false 0) w fun v2 w => OpX v2 (fun k x => DoQ Try.prog (Instr.entry (.pointer (some ⟨b, o, none⟩))) (At w) fun
  v3 => T2 v3 fun v4 v5 => OpI .i64 v4 fun n => OpA 17 v5 fun cs => Alc 157 (zc Try.prog 157) w fun b1 w => StA 17 b1 0 cs w fun w => LdV b1 16 (At w) fun v6 => OpI .u64 v6
  fun n1 => LdA 16 b1 0 (At w) fun cs1 => DoQ Try.prog (Instr.build 46 #[(0, .int .i64 1), (1, .int .u64 n1), (2, .int .i64 n), (3, .agg cs1)]) (At w) fun v7 => OpA 19 v7
  fun cs2 => DoV Try.prog (Instr.buildSlice 41 1 #[(0, .agg cs2)]) w fun v8 w => OpS v8 fun p l c1 => DoV Try.prog (Builtin.append_ #[41, 41] 41 #[.slice s1.1.1 s1.1.2.1
  s1.1.2.2, .slice p l c1]) w fun v9 w => OpS v9 fun p1 l1 c2 => K1 ((p1, l1, c2), ()) w) (CallV Try.prog 88 #[.slice s1.1.1 s1.1.2.1 s1.1.2.2, .func (.func 89) #[] #[]] w
  fun v10 w => Ret [] (R (.slice s1.1.1 s1.1.2.1 s1.1.2.2) w))) ((none, 0, 0), ()) w
theorem C_cache_Cache_List {c : Nat} {w : World} {R : Value → World → Prop} (h : F_cache_Cache_List c w R) : CallV Try.prog 58 #[.pointer (some ⟨c, 0, none⟩)] w R := by
  exact calls_of_F (args := [.pointer (some ⟨c, 0, none⟩)]) (mkAnn [(5, [(3, .slice)])] [] [] [(15, ((.int .i64), (.agg 17)))] []) Try_mixed Try.func58 rfl rfl (by kernel_rfl) h
def F_cache_Cache_Next (c : Nat) (w : World) (R : Value → World → Prop) : Prop :=
  Alc 46 (zc Try.prog 46) w fun b w => CallV Try.prog 58 #[.pointer (some ⟨c, 0, none⟩)] w fun v w => OpS v fun p l c1 => Cb (((l : Nat) : Int) == 0) (DoQ Try.prog
  (Instr.build 46 #[]) (At w) fun v1 => OpA 19 v1 fun cs => StA 19 b 0 cs w fun w => LdA 19 b 0 (At w) fun cs1 => Ret [] (R (.tuple #[.agg cs1, .int .i64 10]) w)) (IdxS p l
  0 19 fun b1 o => LdA 19 b1 o (At w) fun cs2 => StA 19 b 0 cs2 w fun w => LdA 19 b 0 (At w) fun cs3 => Ret [] (R (.tuple #[.agg cs3, .int .i64 0]) w))
theorem C_cache_Cache_Next {c : Nat} {w : World} {R : Value → World → Prop} (h : F_cache_Cache_Next c w R) : CallV Try.prog 69 #[.pointer (some ⟨c, 0, none⟩)] w R := by
  exact calls_of_F (args := [.pointer (some ⟨c, 0, none⟩)]) (mkAnn [] [] [] [] []) Try_mixed Try.func69 rfl rfl (by kernel_rfl) h
def F_cache_Cache_Clean (c : Nat) (lba : Int) (version : Int) (w : World) (R : Value → World → Prop) : Prop :=
  CallV Try.prog 68 #[.pointer (some ⟨c, 0, none⟩), .int .i64 lba] w fun v w => T3 v fun v1 v2 v3 => OpA 16 v1 fun cs => OpI .u64 v2 fun n => OpI .i64 v3 fun n1 => Alc 40
  (zc Try.prog 40) w fun b w => StA 16 b 0 cs w fun w => Cb (n1 != 0) (Ret [] (R (.int .i64 n1) w)) (Cb (decide (n > version)) (Ret [] (R (.int .i64 12) w)) (LdV c 1 (At w)
  fun v4 => OpM v4 fun m => DoV Try.prog (Builtin.delete_ #[159, 3] 0 #[.map m, .int .i64 lba]) w fun v5 w => Ret [] (R (.int .i64 0) w)))
theorem C_cache_Cache_Clean {c : Nat} {lba : Int} {version : Int} {w : World} {R : Value → World → Prop} (h : F_cache_Cache_Clean c lba version w R) : CallV Try.prog 70 #[.pointer (some ⟨c, 0, none⟩), .int .i64 lba, .int .u64 version] w R := by
  exact calls_of_F (args := [.pointer (some ⟨c, 0, none⟩), .int .i64 lba, .int .u64 version]) (mkAnn [] [] [] [] []) Try_mixed Try.func70 rfl rfl (by kernel_rfl) h
end Go.Proofs
