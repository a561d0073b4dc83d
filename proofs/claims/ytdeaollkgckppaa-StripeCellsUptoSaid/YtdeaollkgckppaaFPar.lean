/- PRINTED BY pr.py (own program): what the evaluator of <Name>Ev makes of the code of some functions. -/
import Derived.Test.YtdeaollkgckppaaChecked
import Derived.Test.YtdeaollkgckppaaEv
import Derived.Test.YtdeaollkgckppaaMix
namespace Go.Proofs
open Go.Ev
set_option linter.unusedVariables false
set_option maxRecDepth 100000
def F_parity_add (pp : Option Addr) (pl : Nat) (pc : Nat) (cp : Option Addr) (cl : Nat) (cc : Nat) (g : Int) (w : World) (R : Value → World → Prop) : Prop :=
  LoopC (σ := Int × Unit) (fun _ s1 w K1 => Cb (decide (s1.1 < ((cl : Nat) : Int))) (IdxS cp cl s1.1 1 fun b o => LdV b o (At w) fun v => OpI .u8 v fun n => Dr1 w fun w =>
  IdxS pp pl s1.1 1 fun b1 o1 => LdV b1 o1 (At w) fun v1 => OpI .u8 v1 fun n1 => CallS Try.prog 99 #[.int .u8 g, .int .u8 n] w fun v2 => OpI .u8 v2 fun n2 => IdxS pp pl s1.1
  1 fun b2 o2 => StV b2 o2 (.int .u8 (ibits .xor .u8 n1 n2)) w fun w => K1 (IntKind.wrap .i64 (s1.1 + 1), ()) w) (Ret [] (R (.tuple #[]) w))) (0, ()) w
theorem C_parity_add {pp : Option Addr} {pl : Nat} {pc : Nat} {cp : Option Addr} {cl : Nat} {cc : Nat} {g : Int} {w : World} {R : Value → World → Prop} (h : F_parity_add pp pl pc cp cl cc g w R) : CallV Try.prog 86 #[.slice pp pl pc, .slice cp cl cc, .int .u8 g] w R := by
  exact calls_of_F (args := [.slice pp pl pc, .slice cp cl cc, .int .u8 g]) (mkAnn [(1, [(10, (.int .i64))])] [] [] [] []) Try_mixed Try.func86 rfl rfl (by kernel_rfl) h
def F_parity_sums (colsp : Option Addr) (colsl : Nat) (colsc : Nat) (n : Int) (w : World) (R : Value → World → Prop) : Prop :=
  HeldR w fun S w => (DoV Try.prog (Instr.makeSlice 72 (.int .i64 n) (.int .i64 n)) w fun v w => OpS v fun p l c => Hld (S w) (DoV Try.prog (Instr.makeSlice 72 (.int .i64 n)
  (.int .i64 n)) w fun v1 w => OpS v1 fun p1 l1 c1 => Hld (S w) (LoopC (σ := Int × Unit) (fun _ s1 w K1 => Cb (decide (s1.1 < ((colsl : Nat) : Int))) (IdxS colsp colsl s1.1
  1 fun b o => LdV b o (At w) fun v2 => OpS v2 fun p2 l2 c2 => CallV Try.prog 86 #[.slice p l c, .slice p2 l2 c2, .int .u8 1] w fun v3 w => CallV Try.prog 88 #[.int .i64
  s1.1] w fun v4 w => OpI .u8 v4 fun n1 => CallV Try.prog 86 #[.slice p1 l1 c1, .slice p2 l2 c2, .int .u8 n1] w fun v5 w => K1 (IntKind.wrap .i64 (s1.1 + 1), ()) w) (Ret []
  (R (.tuple #[.slice p l c, .slice p1 l1 c1]) w))) (0, ()) w))) ∧ (DoV Try.prog (Instr.makeSlice 72 (.int .i64 n) (.int .i64 n)) w fun v6 w => OpS v6 fun p3 l3 c3 => Hld (S
  w) (DoV Try.prog (Instr.makeSlice 72 (.int .i64 n) (.int .i64 n)) w fun v7 w => OpS v7 fun p4 l4 c4 => Hld (S w) (LoopC (σ := Int × Unit) (fun _ s2 w K2 => Cb (decide
  (s2.1 < ((colsl : Nat) : Int))) (IdxS colsp colsl s2.1 1 fun b1 o1 => LdV b1 o1 (At w) fun v8 => OpS v8 fun p5 l5 c5 => CallV Try.prog 86 #[.slice p4 l4 c4, .slice p5 l5
  c5, .int .u8 1] w fun v9 w => CallV Try.prog 88 #[.int .i64 s2.1] w fun v10 w => OpI .u8 v10 fun n2 => CallV Try.prog 86 #[.slice p3 l3 c3, .slice p5 l5 c5, .int .u8 n2] w
  fun v11 w => K2 (IntKind.wrap .i64 (s2.1 + 1), ()) w) (Ret [] (R (.tuple #[.slice p4 l4 c4, .slice p3 l3 c3]) w))) (0, ()) w)))
theorem C_parity_sums {colsp : Option Addr} {colsl : Nat} {colsc : Nat} {n : Int} {w : World} {R : Value → World → Prop} (h : F_parity_sums colsp colsl colsc n w R) : CallV Try.prog 79 #[.slice colsp colsl colsc, .int .i64 n] w R := by
  exact calls_of_F (args := [.slice colsp colsl colsc, .int .i64 n]) (mkAnn [(3, [(14, (.int .i64))])] [] [] [] []) Try_mixed Try.func79 rfl rfl (by kernel_rfl) h
def F_slices_Concat_byte (slicesp : Option Addr) (slicesl : Nat) (slicesc : Nat) (w : World) (R : Value → World → Prop) : Prop :=
  LoopC (σ := Int × Int × Unit) (fun _ s1 w K1 => Cb (decide (s1.2.1 < ((slicesl : Nat) : Int))) (IdxS slicesp slicesl s1.2.1 1 fun b o => LdV b o (At w) fun v => OpS v fun
  p l c => Cb (decide (IntKind.wrap .i64 (s1.1 + ((l : Nat) : Int)) < 0)) (False) (K1 (IntKind.wrap .i64 (s1.1 + ((l : Nat) : Int)), (IntKind.wrap .i64 (s1.2.1 + 1), ()))
  w)) (CallV Try.prog 106 #[.slice none 0 0, .int .i64 s1.1] w fun v1 w => OpS v1 fun p1 l1 c1 => LoopC (σ := (Option Addr × Nat × Nat) × Int × Unit) (fun _ s2 w K2 => Cb
  (decide (s2.2.1 < ((slicesl : Nat) : Int))) (IdxS slicesp slicesl s2.2.1 1 fun b1 o1 => LdV b1 o1 (At w) fun v2 => OpS v2 fun p2 l2 c2 => DoV Try.prog (Builtin.append_
  #[111, 111] 111 #[.slice s2.1.1 s2.1.2.1 s2.1.2.2, .slice p2 l2 c2]) w fun v3 w => OpS v3 fun p3 l3 c3 => K2 ((p3, l3, c3), (IntKind.wrap .i64 (s2.2.1 + 1), ())) w) (Ret
  [] (R (.slice s2.1.1 s2.1.2.1 s2.1.2.2) w))) ((p1, l1, c1), (0, ())) w)) (0, (0, ())) w
theorem C_slices_Concat_byte {slicesp : Option Addr} {slicesl : Nat} {slicesc : Nat} {w : World} {R : Value → World → Prop} (h : F_slices_Concat_byte slicesp slicesl slicesc w R) : CallV Try.prog 95 #[.slice slicesp slicesl slicesc] w R := by
  exact calls_of_F (args := [.slice slicesp slicesl slicesc]) (mkAnn [(3, [(3, (.int .i64)), (11, (.int .i64))]), (11, [(6, .slice), (27, (.int .i64))])] [] [] [] []) Try_mixed Try.func95 rfl rfl (by kernel_rfl) h
def F_slices_Grow_byte (sp : Option Addr) (sl : Nat) (sc : Nat) (n : Int) (w : World) (R : Value → World → Prop) : Prop :=
  Cb (decide (n < 0)) (False) (Cb (decide (IntKind.wrap .i64 (n - (IntKind.wrap .i64 (((sc : Nat) : Int) - ((sl : Nat) : Int)))) > 0)) (Slc sl sc none (some ((sc : Nat) :
  Int)) none fun l h m => DoV Try.prog (Builtin.append_ #[111, 3] 111 #[.slice (slcP 1 l m sp) (h - l) (m - l), .int .i64 (IntKind.wrap .i64 (n - (IntKind.wrap .i64 (((sc :
  Nat) : Int) - ((sl : Nat) : Int)))))]) w fun v w => OpS v fun p l1 c => Slc l1 c none (some ((sl : Nat) : Int)) none fun l2 h1 m1 => Ret [] (R (.slice (slcP 1 l2 m1 p) (h1
  - l2) (m1 - l2)) w)) (Ret [] (R (.slice sp sl sc) w)))
theorem C_slices_Grow_byte {sp : Option Addr} {sl : Nat} {sc : Nat} {n : Int} {w : World} {R : Value → World → Prop} (h : F_slices_Grow_byte sp sl sc n w R) : CallV Try.prog 106 #[.slice sp sl sc, .int .i64 n] w R := by
  exact calls_of_F (args := [.slice sp sl sc, .int .i64 n]) (mkAnn [] [] [] [] []) Try_mixed Try.func106 rfl rfl (by kernel_rfl) h
def F_parity_width (colsp : Option Addr) (colsl : Nat) (colsc : Nat) (morep : Option Addr) (morel : Nat) (morec : Nat) (w : World) (R : Value → World → Prop) : Prop :=
  Cb (decide (((colsl : Nat) : Int) < 1)) (Ret [] (R (.tuple #[.int .i64 0, .int .i64 0]) w)) (Cb (decide (((colsl : Nat) : Int) > 30)) (Ret [] (R (.tuple #[.int .i64 0,
  .int .i64 0]) w)) (DoV Try.prog (Instr.buildSlice 194 2 #[(0, .slice colsp colsl colsc), (1, .slice morep morel morec)]) w fun v w => OpS v fun p l c => CallV Try.prog 95
  #[.slice p l c] w fun v1 w => OpS v1 fun p1 l1 c1 => LoopC (σ := Int × Int × Int × Unit) (fun _ s1 w K1 => Cb (decide (s1.2.2.1 < ((l1 : Nat) : Int))) (IdxS p1 l1 s1.2.2.1
  1 fun b o => LdV b o (At w) fun v2 => OpS v2 fun p2 l2 c2 => Cb (((l2 : Nat) : Int) == 0) (K1 (s1.1, (IntKind.wrap .i64 (s1.2.1 + 1), (IntKind.wrap .i64 (s1.2.2.1 + 1),
  ()))) w) (Cb (s1.1 == 0) (K1 (((l2 : Nat) : Int), (s1.2.1, (IntKind.wrap .i64 (s1.2.2.1 + 1), ()))) w) (Cb (s1.1 != ((l2 : Nat) : Int)) (Ret [] (R (.tuple #[.int .i64 0,
  .int .i64 0]) w)) (K1 (s1.1, (s1.2.1, (IntKind.wrap .i64 (s1.2.2.1 + 1), ()))) w)))) (Cb (decide (s1.1 > 4096)) (Ret [] (R (.tuple #[.int .i64 0, .int .i64 0]) w)) (Ret []
  (R (.tuple #[.int .i64 s1.1, .int .i64 s1.2.1]) w)))) (0, (0, (0, ()))) w))
theorem C_parity_width {colsp : Option Addr} {colsl : Nat} {colsc : Nat} {morep : Option Addr} {morel : Nat} {morec : Nat} {w : World} {R : Value → World → Prop} (h : F_parity_width colsp colsl colsc morep morel morec w R) : CallV Try.prog 78 #[.slice colsp colsl colsc, .slice morep morel morec] w R := by
  exact calls_of_F (args := [.slice colsp colsl colsc, .slice morep morel morec]) (mkAnn [(4, [(4, (.int .i64)), (5, (.int .i64)), (21, (.int .i64))])] [] [] [] []) Try_mixed Try.func78 rfl rfl (by kernel_rfl) h
def F_parity_Encode (colsp : Option Addr) (colsl : Nat) (colsc : Nat) (w : World) (R : Value → World → Prop) : Prop :=
  CallV Try.prog 78 #[.slice colsp colsl colsc, .slice none 0 0] w fun v w => T2 v fun v1 v2 => OpI .i64 v1 fun n => OpI .i64 v2 fun n1 => Req ((n == 0) = (n == 0)) (Req ((n
  == 0) = (n == 0)) (Cb (cond (n == 0) true (decide (n1 > 0))) (Ret [] (R (.tuple #[.slice none 0 0, .slice none 0 0, .int .i64 1]) w)) (CallV Try.prog 79 #[.slice colsp
  colsl colsc, .int .i64 n] w fun v3 w => T2 v3 fun v4 v5 => OpS v4 fun p l c => OpS v5 fun p1 l1 c1 => Ret [] (R (.tuple #[.slice p l c, .slice p1 l1 c1, .int .i64 0])
  w))))
theorem C_parity_Encode {colsp : Option Addr} {colsl : Nat} {colsc : Nat} {w : World} {R : Value → World → Prop} (h : F_parity_Encode colsp colsl colsc w R) : CallV Try.prog 45 #[.slice colsp colsl colsc] w R := by
  exact calls_of_F (args := [.slice colsp colsl colsc]) (mkAnn [] [] [] [] []) Try_mixed Try.func45 rfl rfl (by kernel_rfl) h
def F_slices_Clone_byte (sp : Option Addr) (sl : Nat) (sc : Nat) (w : World) (R : Value → World → Prop) : Prop :=
  Cb (Option.isNone sp) (Ret [] (R (.slice none 0 0) w)) (DoV Try.prog (Instr.buildSlice 72 0 #[]) w fun v w => OpS v fun p l c => DoV Try.prog (Builtin.append_ #[72, 72] 72
  #[.slice p l c, .slice sp sl sc]) w fun v1 w => OpS v1 fun p1 l1 c1 => Ret [] (R (.slice p1 l1 c1) w))
theorem C_slices_Clone_byte {sp : Option Addr} {sl : Nat} {sc : Nat} {w : World} {R : Value → World → Prop} (h : F_slices_Clone_byte sp sl sc w R) : CallV Try.prog 85 #[.slice sp sl sc] w R := by
  exact calls_of_F (args := [.slice sp sl sc]) (mkAnn [] [] [] [] []) Try_mixed Try.func85 rfl rfl (by kernel_rfl) h
end Go.Proofs
