/- PRINTED BY pr.py (own program): what the evaluator of <Name>Ev makes of the code of some functions. -/
import Derived.Test.YtdeaollkgckppaaChecked
import Derived.Test.YtdeaollkgckppaaEv
import Derived.Test.YtdeaollkgckppaaMix
namespace Go.Proofs
open Go.Ev
set_option linter.unusedVariables false
set_option maxRecDepth 100000
def F_ravelinref06_Copy (d : Array Value) (w : World) (R : Value → World → Prop) : Prop :=
  Alc 66 d w fun b w => Alc 66 (zc Try.prog 66) w fun b1 w => HeldR w fun S w => LdV b 0 S fun v => OpS v fun p l c => LdV b 1 S fun v1 => OpS v1 fun p1 l1 c1 => LdV b 2 S
  fun v2 => OpI .u32 v2 fun n => LdV b 3 S fun v3 => OpB v3 fun g => (DoV Try.prog (Instr.buildSlice 63 0 #[]) w fun v4 w => OpS v4 fun p2 l2 c2 => Hld (S w) ((DoV Try.prog
  (Builtin.append_ #[63, 63] 63 #[.slice p2 l2 c2, .slice p l c]) w fun v5 w => OpS v5 fun p3 l3 c3 => Hld (S w) (DoV Try.prog (Instr.buildSlice 64 0 #[]) w fun v6 w => OpS
  v6 fun p4 l4 c4 => Hld (S w) (DoV Try.prog (Builtin.append_ #[64, 64] 64 #[.slice p4 l4 c4, .slice p1 l1 c1]) w fun v7 w => OpS v7 fun p5 l5 c5 => Hld (S w) (DoQ Try.prog
  (Instr.build 66 #[(0, .slice p3 l3 c3), (1, .slice p5 l5 c5), (2, .int .u32 n), (3, .bool g)]) (At w) fun v8 => OpA 4 v8 fun cs => StA 4 b1 0 cs w fun w => Hld (S w) (LdA
  4 b1 0 (At w) fun cs1 => Ret [] (R (.agg cs1) w)))))) ∧ (DoV Try.prog (Instr.buildSlice 64 0 #[]) w fun v9 w => OpS v9 fun p6 l6 c6 => Hld (S w) (DoV Try.prog
  (Builtin.append_ #[63, 63] 63 #[.slice p2 l2 c2, .slice p l c]) w fun v10 w => OpS v10 fun p7 l7 c7 => Hld (S w) (DoV Try.prog (Builtin.append_ #[64, 64] 64 #[.slice p6 l6
  c6, .slice p1 l1 c1]) w fun v11 w => OpS v11 fun p8 l8 c8 => Hld (S w) (DoQ Try.prog (Instr.build 66 #[(0, .slice p7 l7 c7), (1, .slice p8 l8 c8), (2, .int .u32 n), (3,
  .bool g)]) (At w) fun v12 => OpA 4 v12 fun cs2 => StA 4 b1 0 cs2 w fun w => Hld (S w) (LdA 4 b1 0 (At w) fun cs3 => Ret [] (R (.agg cs3) w)))))))) ∧ (DoV Try.prog
  (Instr.buildSlice 64 0 #[]) w fun v13 w => OpS v13 fun p9 l9 c9 => Hld (S w) (DoV Try.prog (Instr.buildSlice 63 0 #[]) w fun v14 w => OpS v14 fun p10 l10 c10 => Hld (S w)
  (DoV Try.prog (Builtin.append_ #[63, 63] 63 #[.slice p10 l10 c10, .slice p l c]) w fun v15 w => OpS v15 fun p11 l11 c11 => Hld (S w) (DoV Try.prog (Builtin.append_ #[64,
  64] 64 #[.slice p9 l9 c9, .slice p1 l1 c1]) w fun v16 w => OpS v16 fun p12 l12 c12 => Hld (S w) (DoQ Try.prog (Instr.build 66 #[(0, .slice p11 l11 c11), (1, .slice p12 l12
  c12), (2, .int .u32 n), (3, .bool g)]) (At w) fun v17 => OpA 4 v17 fun cs4 => StA 4 b1 0 cs4 w fun w => Hld (S w) (LdA 4 b1 0 (At w) fun cs5 => Ret [] (R (.agg cs5)
  w)))))))
theorem C_ravelinref06_Copy {d : Array Value} {w : World} {R : Value → World → Prop} (h : F_ravelinref06_Copy d w R) : CallV Try.prog 92 #[.agg d] w R := by
  exact calls_of_F (args := [.agg d]) (mkAnn [] [] [] [] []) Try_mixed Try.func92 rfl rfl (by kernel_rfl) h
def F_ravelinref06_Hurt (d : Array Value) (at_ : Int) (w : World) (R : Value → World → Prop) : Prop :=
  Alc 66 d w fun b w => Alc 66 (zc Try.prog 66) w fun b1 w => Cb (decide (at_ < 0)) (Dr1 w fun w => LdA 4 b 0 (At w) fun cs => StA 4 b1 0 cs w fun w => LdA 4 b1 0 (At w) fun
  cs1 => Ret [] (R (.tuple #[.int .i64 2, .agg cs1]) w)) (LdV b 0 (At w) fun v => OpS v fun p l c => Cb (decide (at_ ≥ ((l : Nat) : Int))) (Dr1 w fun w => LdA 4 b 0 (At w)
  fun cs2 => StA 4 b1 0 cs2 w fun w => LdA 4 b1 0 (At w) fun cs3 => Ret [] (R (.tuple #[.int .i64 2, .agg cs3]) w)) (LdV b 3 (At w) fun v1 => OpB v1 fun g => Cb g (Dr1 w fun
  w => LdA 4 b 0 (At w) fun cs4 => StA 4 b1 0 cs4 w fun w => LdA 4 b1 0 (At w) fun cs5 => Ret [] (R (.tuple #[.int .i64 5, .agg cs5]) w)) (LdA 4 b 0 (At w) fun cs6 => CallV
  Try.prog 92 #[.agg cs6] w fun v2 w => OpA 4 v2 fun cs7 => Alc 66 (zc Try.prog 66) w fun b2 w => StA 4 b2 0 cs7 w fun w => LdV b2 1 (At w) fun v3 => OpS v3 fun p1 l1 c1 =>
  IdxS p1 l1 at_ 1 fun b3 o => StV b3 o (.bool false) w fun w => Dr1 w fun w => LdA 4 b2 0 (At w) fun cs8 => StA 4 b1 0 cs8 w fun w => LdA 4 b1 0 (At w) fun cs9 => Ret [] (R
  (.tuple #[.int .i64 0, .agg cs9]) w))))
theorem C_ravelinref06_Hurt {d : Array Value} {at_ : Int} {w : World} {R : Value → World → Prop} (h : F_ravelinref06_Hurt d at_ w R) : CallV Try.prog 67 #[.agg d, .int .i64 at_] w R := by
  exact calls_of_F (args := [.agg d, .int .i64 at_]) (mkAnn [] [] [] [] []) Try_mixed Try.func67 rfl rfl (by kernel_rfl) h
def F_ravelinref09_With (s : Array Value) (i : Int) (d : Array Value) (w : World) (R : Value → World → Prop) : Prop :=
  Alc 34 s w fun b w => Alc 66 d w fun b1 w => Alc 34 (zc Try.prog 34) w fun b2 w => DoV Try.prog (Instr.buildSlice 30 0 #[]) w fun v w => OpS v fun p l c => LdV b 3 (At w)
  fun v1 => OpS v1 fun p1 l1 c1 => DoV Try.prog (Builtin.append_ #[30, 30] 30 #[.slice p l c, .slice p1 l1 c1]) w fun v2 w => OpS v2 fun p2 l2 c2 => LdA 4 b1 0 (At w) fun cs
  => IdxS p2 l2 i 4 fun b3 o => StA 4 b3 o cs w fun w => StV b 3 (.slice p2 l2 c2) w fun w => LdA 7 b 0 (At w) fun cs1 => StA 7 b2 0 cs1 w fun w => LdA 7 b2 0 (At w) fun cs2
  => Ret [] (R (.agg cs2) w)
theorem C_ravelinref09_With {s : Array Value} {i : Int} {d : Array Value} {w : World} {R : Value → World → Prop} (h : F_ravelinref09_With s i d w R) : CallV Try.prog 69 #[.agg s, .int .i64 i, .agg d] w R := by
  exact calls_of_F (args := [.agg s, .int .i64 i, .agg d]) (mkAnn [] [] [] [] []) Try_mixed Try.func69 rfl rfl (by kernel_rfl) h
end Go.Proofs
