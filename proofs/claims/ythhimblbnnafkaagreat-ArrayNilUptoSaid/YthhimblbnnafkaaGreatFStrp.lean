/- PRINTED BY pr.py (own program): what the evaluator of <Name>Ev makes of the code of some functions. -/
import Derived.Test.YthhimblbnnafkaaGreatChecked
import Derived.Test.YthhimblbnnafkaaGreatEv
import Derived.Test.YthhimblbnnafkaaGreatMix
namespace Go.Proofs
open Go.Ev
set_option linter.unusedVariables false
set_option maxRecDepth 100000
def F_gf_Mul (a : Int) (b : Int) (w : World) (R : Value → World → Prop) : Prop :=
  LoopC (σ := Int × Int × Int × Unit) (fun _ s1 w K1 => Cb (decide (s1.1 > 0)) (Cb (ibits .and .u8 s1.1 1 == 1) (Req (0 ≤ (1 : Int)) (Cb (decide (ishl .i64 s1.2.2.1 1 >
  255)) (Req (0 ≤ (1 : Int)) (K1 (ishr .u8 s1.1 1, (ibits .xor .i64 s1.2.1 s1.2.2.1, (ibits .xor .i64 (ishl .i64 s1.2.2.1 1) 285, ()))) w)) (Req (0 ≤ (1 : Int)) (K1 (ishr
  .u8 s1.1 1, (ibits .xor .i64 s1.2.1 s1.2.2.1, (ishl .i64 s1.2.2.1 1, ()))) w)))) (Req (0 ≤ (1 : Int)) (Cb (decide (ishl .i64 s1.2.2.1 1 > 255)) (Req (0 ≤ (1 : Int)) (K1
  (ishr .u8 s1.1 1, (s1.2.1, (ibits .xor .i64 (ishl .i64 s1.2.2.1 1) 285, ()))) w)) (Req (0 ≤ (1 : Int)) (K1 (ishr .u8 s1.1 1, (s1.2.1, (ishl .i64 s1.2.2.1 1, ()))) w)))))
  (Ret [] (R (.int .u8 (IntKind.wrap .u8 s1.2.1)) w))) (b, (0, (IntKind.wrap .i64 a, ()))) w
theorem C_gf_Mul {a : Int} {b : Int} {w : World} {R : Value → World → Prop} (h : F_gf_Mul a b w R) : CallV Tryz.prog 238 #[.int .u8 a, .int .u8 b] w R := by
  exact calls_of_F (args := [.int .u8 a, .int .u8 b]) (mkAnn [(2, [(1, (.int .u8)), (5, (.int .i64)), (6, (.int .i64))])] [] [] [] []) Tryz_mixed Tryz.func238 rfl rfl (by kernel_rfl) h
def F_gf_power (a : Int) (n : Int) (w : World) (R : Value → World → Prop) : Prop :=
  LoopC (σ := Int × Int × Int × Unit) (fun _ s1 w K1 => Cb (decide (s1.2.1 > 0)) (Cb (ibits .and .i64 s1.2.1 1 == 1) (CallV Tryz.prog 238 #[.int .u8 s1.2.2.1, .int .u8 s1.1]
  w fun v w => OpI .u8 v fun n1 => CallV Tryz.prog 238 #[.int .u8 s1.1, .int .u8 s1.1] w fun v1 w => OpI .u8 v1 fun n2 => Req (0 ≤ (1 : Int)) (K1 (n2, (ishr .i64 s1.2.1 1,
  (n1, ()))) w)) (CallV Tryz.prog 238 #[.int .u8 s1.1, .int .u8 s1.1] w fun v2 w => OpI .u8 v2 fun n3 => Req (0 ≤ (1 : Int)) (K1 (n3, (ishr .i64 s1.2.1 1, (s1.2.2.1, ())))
  w))) (Ret [] (R (.int .u8 s1.2.2.1) w))) (a, (n, (1, ()))) w
theorem C_gf_power {a : Int} {n : Int} {w : World} {R : Value → World → Prop} (h : F_gf_power a n w R) : CallV Tryz.prog 239 #[.int .u8 a, .int .i64 n] w R := by
  exact calls_of_F (args := [.int .u8 a, .int .i64 n]) (mkAnn [(2, [(0, (.int .u8)), (1, (.int .i64)), (5, (.int .u8))])] [] [] [] []) Tryz_mixed Tryz.func239 rfl rfl (by kernel_rfl) h
def F_gf_around (n : Int) (w : World) (R : Value → World → Prop) : Prop :=
  Req ((255 : Int) ≠ 0) (Req ((255 : Int) ≠ 0) (Ret [] (R (.int .i64 (Int.tmod (IntKind.wrap .i64 ((Int.tmod n 255) + 255)) 255)) w)))
theorem C_gf_around {n : Int} {w : World} {R : Value → World → Prop} (h : F_gf_around n w R) : CallV Tryz.prog 240 #[.int .i64 n] w R := by
  exact calls_of_F (args := [.int .i64 n]) (mkAnn [] [] [] [] []) Tryz_mixed Tryz.func240 rfl rfl (by kernel_rfl) h
def F_gf_Exp (n : Int) (w : World) (R : Value → World → Prop) : Prop :=
  CallV Tryz.prog 240 #[.int .i64 n] w fun v w => OpI .i64 v fun n1 => CallV Tryz.prog 239 #[.int .u8 2, .int .i64 n1] w fun v1 w => OpI .u8 v1 fun n2 => Ret [] (R (.int .u8
  n2) w)
theorem C_gf_Exp {n : Int} {w : World} {R : Value → World → Prop} (h : F_gf_Exp n w R) : CallV Tryz.prog 185 #[.int .i64 n] w R := by
  exact calls_of_F (args := [.int .i64 n]) (mkAnn [] [] [] [] []) Tryz_mixed Tryz.func185 rfl rfl (by kernel_rfl) h
def F_gf_Inv (a : Int) (w : World) (R : Value → World → Prop) : Prop :=
  Cb (a == 0) (Ret [] (R (.tuple #[.int .u8 0, .int .i64 3]) w)) (CallV Tryz.prog 239 #[.int .u8 a, .int .i64 254] w fun v w => OpI .u8 v fun n => Ret [] (R (.tuple #[.int
  .u8 n, .int .i64 0]) w))
theorem C_gf_Inv {a : Int} {w : World} {R : Value → World → Prop} (h : F_gf_Inv a w R) : CallV Tryz.prog 184 #[.int .u8 a] w R := by
  exact calls_of_F (args := [.int .u8 a]) (mkAnn [] [] [] [] []) Tryz_mixed Tryz.func184 rfl rfl (by kernel_rfl) h
def F_gf_Solve (a : Int) (b : Int) (c : Int) (d : Int) (e : Int) (f : Int) (w : World) (R : Value → World → Prop) : Prop :=
  CallV Tryz.prog 238 #[.int .u8 a, .int .u8 d] w fun v w => OpI .u8 v fun n => CallV Tryz.prog 238 #[.int .u8 b, .int .u8 c] w fun v1 w => OpI .u8 v1 fun n1 => CallV
  Tryz.prog 184 #[.int .u8 (ibits .xor .u8 n n1)] w fun v2 w => T2 v2 fun v3 v4 => OpI .u8 v3 fun n2 => OpI .i64 v4 fun n3 => Cb (n3 != 0) (Ret [] (R (.tuple #[.int .u8 0,
  .int .u8 0, .int .i64 n3]) w)) (CallV Tryz.prog 238 #[.int .u8 d, .int .u8 e] w fun v5 w => OpI .u8 v5 fun n4 => CallV Tryz.prog 238 #[.int .u8 b, .int .u8 f] w fun v6 w
  => OpI .u8 v6 fun n5 => CallV Tryz.prog 238 #[.int .u8 n2, .int .u8 (ibits .xor .u8 n4 n5)] w fun v7 w => OpI .u8 v7 fun n6 => CallV Tryz.prog 238 #[.int .u8 a, .int .u8
  f] w fun v8 w => OpI .u8 v8 fun n7 => CallV Tryz.prog 238 #[.int .u8 c, .int .u8 e] w fun v9 w => OpI .u8 v9 fun n8 => CallV Tryz.prog 238 #[.int .u8 n2, .int .u8 (ibits
  .xor .u8 n7 n8)] w fun v10 w => OpI .u8 v10 fun n9 => Ret [] (R (.tuple #[.int .u8 n6, .int .u8 n9, .int .i64 0]) w))
theorem C_gf_Solve {a : Int} {b : Int} {c : Int} {d : Int} {e : Int} {f : Int} {w : World} {R : Value → World → Prop} (h : F_gf_Solve a b c d e f w R) : CallV Tryz.prog 186 #[.int .u8 a, .int .u8 b, .int .u8 c, .int .u8 d, .int .u8 e, .int .u8 f] w R := by
  exact calls_of_F (args := [.int .u8 a, .int .u8 b, .int .u8 c, .int .u8 d, .int .u8 e, .int .u8 f]) (mkAnn [] [] [] [] []) Tryz_mixed Tryz.func186 rfl rfl (by kernel_rfl) h
def F_parity_add (pp : Option Addr) (pl : Nat) (pc : Nat) (cp : Option Addr) (cl : Nat) (cc : Nat) (g : Int) (w : World) (R : Value → World → Prop) : Prop :=
  LoopC (σ := Int × Unit) (fun _ s1 w K1 => Cb (decide (s1.1 < ((cl : Nat) : Int))) (IdxS cp cl s1.1 1 fun b o => LdV b o (At w) fun v => OpI .u8 v fun n => Dr1 w fun w =>
  IdxS pp pl s1.1 1 fun b1 o1 => LdV b1 o1 (At w) fun v1 => OpI .u8 v1 fun n1 => CallS Tryz.prog 238 #[.int .u8 g, .int .u8 n] w fun v2 => OpI .u8 v2 fun n2 => IdxS pp pl
  s1.1 1 fun b2 o2 => StV b2 o2 (.int .u8 (ibits .xor .u8 n1 n2)) w fun w => K1 (IntKind.wrap .i64 (s1.1 + 1), ()) w) (Ret [] (R (.tuple #[]) w))) (0, ()) w
theorem C_parity_add {pp : Option Addr} {pl : Nat} {pc : Nat} {cp : Option Addr} {cl : Nat} {cc : Nat} {g : Int} {w : World} {R : Value → World → Prop} (h : F_parity_add pp pl pc cp cl cc g w R) : CallV Tryz.prog 183 #[.slice pp pl pc, .slice cp cl cc, .int .u8 g] w R := by
  exact calls_of_F (args := [.slice pp pl pc, .slice cp cl cc, .int .u8 g]) (mkAnn [(1, [(10, (.int .i64))])] [] [] [] []) Tryz_mixed Tryz.func183 rfl rfl (by kernel_rfl) h
def F_parity_sums (colsp : Option Addr) (colsl : Nat) (colsc : Nat) (n : Int) (w : World) (R : Value → World → Prop) : Prop :=
  HeldR w fun S w => (DoV Tryz.prog (Instr.makeSlice 22 (.int .i64 n) (.int .i64 n)) w fun v w => OpS v fun p l c => Hld (S w) (DoV Tryz.prog (Instr.makeSlice 22 (.int .i64
  n) (.int .i64 n)) w fun v1 w => OpS v1 fun p1 l1 c1 => Hld (S w) (LoopC (σ := Int × Unit) (fun _ s1 w K1 => Cb (decide (s1.1 < ((colsl : Nat) : Int))) (IdxS colsp colsl
  s1.1 1 fun b o => LdV b o (At w) fun v2 => OpS v2 fun p2 l2 c2 => CallV Tryz.prog 183 #[.slice p l c, .slice p2 l2 c2, .int .u8 1] w fun v3 w => CallV Tryz.prog 185 #[.int
  .i64 s1.1] w fun v4 w => OpI .u8 v4 fun n1 => CallV Tryz.prog 183 #[.slice p1 l1 c1, .slice p2 l2 c2, .int .u8 n1] w fun v5 w => K1 (IntKind.wrap .i64 (s1.1 + 1), ()) w)
  (Ret [] (R (.tuple #[.slice p l c, .slice p1 l1 c1]) w))) (0, ()) w))) ∧ (DoV Tryz.prog (Instr.makeSlice 22 (.int .i64 n) (.int .i64 n)) w fun v6 w => OpS v6 fun p3 l3 c3
  => Hld (S w) (DoV Tryz.prog (Instr.makeSlice 22 (.int .i64 n) (.int .i64 n)) w fun v7 w => OpS v7 fun p4 l4 c4 => Hld (S w) (LoopC (σ := Int × Unit) (fun _ s2 w K2 => Cb
  (decide (s2.1 < ((colsl : Nat) : Int))) (IdxS colsp colsl s2.1 1 fun b1 o1 => LdV b1 o1 (At w) fun v8 => OpS v8 fun p5 l5 c5 => CallV Tryz.prog 183 #[.slice p4 l4 c4,
  .slice p5 l5 c5, .int .u8 1] w fun v9 w => CallV Tryz.prog 185 #[.int .i64 s2.1] w fun v10 w => OpI .u8 v10 fun n2 => CallV Tryz.prog 183 #[.slice p3 l3 c3, .slice p5 l5
  c5, .int .u8 n2] w fun v11 w => K2 (IntKind.wrap .i64 (s2.1 + 1), ()) w) (Ret [] (R (.tuple #[.slice p4 l4 c4, .slice p3 l3 c3]) w))) (0, ()) w)))
theorem C_parity_sums {colsp : Option Addr} {colsl : Nat} {colsc : Nat} {n : Int} {w : World} {R : Value → World → Prop} (h : F_parity_sums colsp colsl colsc n w R) : CallV Tryz.prog 182 #[.slice colsp colsl colsc, .int .i64 n] w R := by
  exact calls_of_F (args := [.slice colsp colsl colsc, .int .i64 n]) (mkAnn [(3, [(14, (.int .i64))])] [] [] [] []) Tryz_mixed Tryz.func182 rfl rfl (by kernel_rfl) h
def F_slices_Concat_byte (slicesp : Option Addr) (slicesl : Nat) (slicesc : Nat) (w : World) (R : Value → World → Prop) : Prop :=
  LoopC (σ := Int × Int × Unit) (fun _ s1 w K1 => Cb (decide (s1.2.1 < ((slicesl : Nat) : Int))) (IdxS slicesp slicesl s1.2.1 1 fun b o => LdV b o (At w) fun v => OpS v fun
  p l c => Cb (decide (IntKind.wrap .i64 (s1.1 + ((l : Nat) : Int)) < 0)) (False) (K1 (IntKind.wrap .i64 (s1.1 + ((l : Nat) : Int)), (IntKind.wrap .i64 (s1.2.1 + 1), ()))
  w)) (CallV Tryz.prog 268 #[.slice none 0 0, .int .i64 s1.1] w fun v1 w => OpS v1 fun p1 l1 c1 => LoopC (σ := (Option Addr × Nat × Nat) × Int × Unit) (fun _ s2 w K2 => Cb
  (decide (s2.2.1 < ((slicesl : Nat) : Int))) (IdxS slicesp slicesl s2.2.1 1 fun b1 o1 => LdV b1 o1 (At w) fun v2 => OpS v2 fun p2 l2 c2 => DoV Tryz.prog (Builtin.append_
  #[187, 187] 187 #[.slice s2.1.1 s2.1.2.1 s2.1.2.2, .slice p2 l2 c2]) w fun v3 w => OpS v3 fun p3 l3 c3 => K2 ((p3, l3, c3), (IntKind.wrap .i64 (s2.2.1 + 1), ())) w) (Ret
  [] (R (.slice s2.1.1 s2.1.2.1 s2.1.2.2) w))) ((p1, l1, c1), (0, ())) w)) (0, (0, ())) w
theorem C_slices_Concat_byte {slicesp : Option Addr} {slicesl : Nat} {slicesc : Nat} {w : World} {R : Value → World → Prop} (h : F_slices_Concat_byte slicesp slicesl slicesc w R) : CallV Tryz.prog 237 #[.slice slicesp slicesl slicesc] w R := by
  exact calls_of_F (args := [.slice slicesp slicesl slicesc]) (mkAnn [(3, [(3, (.int .i64)), (11, (.int .i64))]), (11, [(6, .slice), (27, (.int .i64))])] [] [] [] []) Tryz_mixed Tryz.func237 rfl rfl (by kernel_rfl) h
def F_slices_Grow_byte (sp : Option Addr) (sl : Nat) (sc : Nat) (n : Int) (w : World) (R : Value → World → Prop) : Prop :=
  Cb (decide (n < 0)) (False) (Cb (decide (IntKind.wrap .i64 (n - (IntKind.wrap .i64 (((sc : Nat) : Int) - ((sl : Nat) : Int)))) > 0)) (Slc sl sc none (some ((sc : Nat) :
  Int)) none fun l h m => DoV Tryz.prog (Builtin.append_ #[187, 3] 187 #[.slice (slcP 1 l m sp) (h - l) (m - l), .int .i64 (IntKind.wrap .i64 (n - (IntKind.wrap .i64 (((sc :
  Nat) : Int) - ((sl : Nat) : Int)))))]) w fun v w => OpS v fun p l1 c => Slc l1 c none (some ((sl : Nat) : Int)) none fun l2 h1 m1 => Ret [] (R (.slice (slcP 1 l2 m1 p) (h1
  - l2) (m1 - l2)) w)) (Ret [] (R (.slice sp sl sc) w)))
theorem C_slices_Grow_byte {sp : Option Addr} {sl : Nat} {sc : Nat} {n : Int} {w : World} {R : Value → World → Prop} (h : F_slices_Grow_byte sp sl sc n w R) : CallV Tryz.prog 268 #[.slice sp sl sc, .int .i64 n] w R := by
  exact calls_of_F (args := [.slice sp sl sc, .int .i64 n]) (mkAnn [] [] [] [] []) Tryz_mixed Tryz.func268 rfl rfl (by kernel_rfl) h
def F_parity_width (colsp : Option Addr) (colsl : Nat) (colsc : Nat) (morep : Option Addr) (morel : Nat) (morec : Nat) (w : World) (R : Value → World → Prop) : Prop :=
  Cb (decide (((colsl : Nat) : Int) < 1)) (Ret [] (R (.tuple #[.int .i64 0, .int .i64 0]) w)) (Cb (decide (((colsl : Nat) : Int) > 30)) (Ret [] (R (.tuple #[.int .i64 0,
  .int .i64 0]) w)) (DoV Tryz.prog (Instr.buildSlice 361 2 #[(0, .slice colsp colsl colsc), (1, .slice morep morel morec)]) w fun v w => OpS v fun p l c => CallV Tryz.prog
  237 #[.slice p l c] w fun v1 w => OpS v1 fun p1 l1 c1 => LoopC (σ := Int × Int × Int × Unit) (fun _ s1 w K1 => Cb (decide (s1.2.2.1 < ((l1 : Nat) : Int))) (IdxS p1 l1
  s1.2.2.1 1 fun b o => LdV b o (At w) fun v2 => OpS v2 fun p2 l2 c2 => Cb (((l2 : Nat) : Int) == 0) (K1 (s1.1, (IntKind.wrap .i64 (s1.2.1 + 1), (IntKind.wrap .i64 (s1.2.2.1
  + 1), ()))) w) (Cb (s1.1 == 0) (K1 (((l2 : Nat) : Int), (s1.2.1, (IntKind.wrap .i64 (s1.2.2.1 + 1), ()))) w) (Cb (s1.1 != ((l2 : Nat) : Int)) (Ret [] (R (.tuple #[.int
  .i64 0, .int .i64 0]) w)) (K1 (s1.1, (s1.2.1, (IntKind.wrap .i64 (s1.2.2.1 + 1), ()))) w)))) (Cb (decide (s1.1 > 4096)) (Ret [] (R (.tuple #[.int .i64 0, .int .i64 0]) w))
  (Ret [] (R (.tuple #[.int .i64 s1.1, .int .i64 s1.2.1]) w)))) (0, (0, (0, ()))) w))
theorem C_parity_width {colsp : Option Addr} {colsl : Nat} {colsc : Nat} {morep : Option Addr} {morel : Nat} {morec : Nat} {w : World} {R : Value → World → Prop} (h : F_parity_width colsp colsl colsc morep morel morec w R) : CallV Tryz.prog 180 #[.slice colsp colsl colsc, .slice morep morel morec] w R := by
  exact calls_of_F (args := [.slice colsp colsl colsc, .slice morep morel morec]) (mkAnn [(4, [(4, (.int .i64)), (5, (.int .i64)), (21, (.int .i64))])] [] [] [] []) Tryz_mixed Tryz.func180 rfl rfl (by kernel_rfl) h
def F_parity_Encode (colsp : Option Addr) (colsl : Nat) (colsc : Nat) (w : World) (R : Value → World → Prop) : Prop :=
  CallV Tryz.prog 180 #[.slice colsp colsl colsc, .slice none 0 0] w fun v w => T2 v fun v1 v2 => OpI .i64 v1 fun n => OpI .i64 v2 fun n1 => Req ((n == 0) = (n == 0)) (Req
  ((n == 0) = (n == 0)) (Cb (cond (n == 0) true (decide (n1 > 0))) (Ret [] (R (.tuple #[.slice none 0 0, .slice none 0 0, .int .i64 1]) w)) (CallV Tryz.prog 182 #[.slice
  colsp colsl colsc, .int .i64 n] w fun v3 w => T2 v3 fun v4 v5 => OpS v4 fun p l c => OpS v5 fun p1 l1 c1 => Ret [] (R (.tuple #[.slice p l c, .slice p1 l1 c1, .int .i64
  0]) w))))
theorem C_parity_Encode {colsp : Option Addr} {colsl : Nat} {colsc : Nat} {w : World} {R : Value → World → Prop} (h : F_parity_Encode colsp colsl colsc w R) : CallV Tryz.prog 115 #[.slice colsp colsl colsc] w R := by
  exact calls_of_F (args := [.slice colsp colsl colsc]) (mkAnn [] [] [] [] []) Tryz_mixed Tryz.func115 rfl rfl (by kernel_rfl) h
def F_slices_Clone_byte (sp : Option Addr) (sl : Nat) (sc : Nat) (w : World) (R : Value → World → Prop) : Prop :=
  Cb (Option.isNone sp) (Ret [] (R (.slice none 0 0) w)) (DoV Tryz.prog (Instr.buildSlice 22 0 #[]) w fun v w => OpS v fun p l c => DoV Tryz.prog (Builtin.append_ #[22, 22]
  22 #[.slice p l c, .slice sp sl sc]) w fun v1 w => OpS v1 fun p1 l1 c1 => Ret [] (R (.slice p1 l1 c1) w))
theorem C_slices_Clone_byte {sp : Option Addr} {sl : Nat} {sc : Nat} {w : World} {R : Value → World → Prop} (h : F_slices_Clone_byte sp sl sc w R) : CallV Tryz.prog 181 #[.slice sp sl sc] w R := by
  exact calls_of_F (args := [.slice sp sl sc]) (mkAnn [] [] [] [] []) Tryz_mixed Tryz.func181 rfl rfl (by kernel_rfl) h
def F_parity_Recover (colsp : Option Addr) (colsl : Nat) (colsc : Nat) (pp : Option Addr) (pl : Nat) (pc : Nat) (qp : Option Addr) (ql : Nat) (qc : Nat) (w : World) (R : Value → World → Prop) : Prop :=
  DoV Tryz.prog (Instr.buildSlice 187 2 #[(0, .slice pp pl pc), (1, .slice qp ql qc)]) w fun v w => OpS v fun p l c => CallV Tryz.prog 180 #[.slice colsp colsl colsc, .slice
  p l c] w fun v1 w => T2 v1 fun v2 v3 => OpI .i64 v2 fun n => OpI .i64 v3 fun n1 => Cb (n == 0) (Ret [] (R (.tuple #[.slice none 0 0, .slice none 0 0, .slice none 0 0, .int
  .i64 1]) w)) (Cb (decide (n1 > 2)) (Ret [] (R (.tuple #[.slice none 0 0, .slice none 0 0, .slice none 0 0, .int .i64 8]) w)) (LoopC (σ := (Option Addr × Nat × Nat) ×
  (Option Addr × Nat × Nat) × Int × Unit) (fun _ s1 w K1 => Cb (decide (s1.2.2.1 < ((colsl : Nat) : Int))) (IdxS colsp colsl s1.2.2.1 1 fun b o => LdV b o (At w) fun v4 =>
  OpS v4 fun p1 l1 c1 => CallV Tryz.prog 181 #[.slice p1 l1 c1] w fun v5 w => OpS v5 fun p2 l2 c2 => DoV Tryz.prog (Instr.buildSlice 187 1 #[(0, .slice p2 l2 c2)]) w fun v6
  w => OpS v6 fun p3 l3 c3 => DoV Tryz.prog (Builtin.append_ #[187, 187] 187 #[.slice s1.1.1 s1.1.2.1 s1.1.2.2, .slice p3 l3 c3]) w fun v7 w => OpS v7 fun p4 l4 c4 => JoinC
  (σ := (Option Addr × Nat × Nat) × Unit) (fun J2 => Cb (((l1 : Nat) : Int) == 0) (DoV Tryz.prog (Instr.buildSlice 69 1 #[(0, .int .i64 s1.2.2.1)]) w fun v8 w => OpS v8 fun
  p5 l5 c5 => DoV Tryz.prog (Builtin.append_ #[69, 69] 69 #[.slice s1.2.1.1 s1.2.1.2.1 s1.2.1.2.2, .slice p5 l5 c5]) w fun v9 w => OpS v9 fun p6 l6 c6 => J2 ((p6, l6, c6),
  ()) w) (J2 ((s1.2.1.1, s1.2.1.2.1, s1.2.1.2.2), ()) w)) (fun _ s2 w => K1 ((p4, l4, c4), ((s2.1.1, s2.1.2.1, s2.1.2.2), (IntKind.wrap .i64 (s1.2.2.1 + 1), ()))) w)) (CallV
  Tryz.prog 182 #[.slice colsp colsl colsc, .int .i64 n] w fun v10 w => T2 v10 fun v11 v12 => OpS v11 fun p7 l7 c7 => OpS v12 fun p8 l8 c8 => CallV Tryz.prog 183 #[.slice p7
  l7 c7, .slice pp pl pc, .int .u8 1] w fun v13 w => CallV Tryz.prog 183 #[.slice p8 l8 c8, .slice qp ql qc, .int .u8 1] w fun v14 w => JoinC (σ := Unit) (fun J3 => Cb
  (((s1.2.1.2.1 : Nat) : Int) == 1) (Cb (decide (((pl : Nat) : Int) > 0)) (IdxS s1.2.1.1 s1.2.1.2.1 0 1 fun b1 o1 => LdV b1 o1 (At w) fun v15 => OpI .i64 v15 fun n2 => IdxS
  s1.1.1 s1.1.2.1 n2 1 fun b2 o2 => StV b2 o2 (.slice p7 l7 c7) w fun w => J3 () w) (Cb (((s1.2.1.2.1 : Nat) : Int) == 1) (IdxS s1.2.1.1 s1.2.1.2.1 0 1 fun b3 o3 => LdV b3
  o3 (At w) fun v16 => OpI .i64 v16 fun n3 => CallV Tryz.prog 185 #[.int .i64 n3] w fun v17 w => OpI .u8 v17 fun n4 => CallV Tryz.prog 184 #[.int .u8 n4] w fun v18 w => T2
  v18 fun v19 v20 => OpI .u8 v19 fun n5 => OpI .i64 v20 fun n6 => DoV Tryz.prog (Instr.makeSlice 22 (.int .i64 n) (.int .i64 n)) w fun v21 w => OpS v21 fun p9 l9 c9 => CallV
  Tryz.prog 183 #[.slice p9 l9 c9, .slice p8 l8 c8, .int .u8 n5] w fun v22 w => IdxS s1.2.1.1 s1.2.1.2.1 0 1 fun b4 o4 => LdV b4 o4 (At w) fun v23 => OpI .i64 v23 fun n7 =>
  IdxS s1.1.1 s1.1.2.1 n7 1 fun b5 o5 => StV b5 o5 (.slice p9 l9 c9) w fun w => J3 () w) (Cb (((s1.2.1.2.1 : Nat) : Int) == 2) (HeldR w fun S w => (DoV Tryz.prog
  (Instr.makeSlice 22 (.int .i64 n) (.int .i64 n)) w fun v24 w => OpS v24 fun p10 l10 c10 => Hld (S w) (DoV Tryz.prog (Instr.makeSlice 22 (.int .i64 n) (.int .i64 n)) w fun
  v25 w => OpS v25 fun p11 l11 c11 => Hld (S w) (LoopC (σ := Int × Unit) (fun _ s4 w K4 => Cb (decide (s4.1 < n)) (HeldR w fun S w => IdxS s1.2.1.1 s1.2.1.2.1 0 1 fun b6 o6
  => LdV b6 o6 S fun v26 => OpI .i64 v26 fun n8 => IdxS s1.2.1.1 s1.2.1.2.1 1 1 fun b7 o7 => LdV b7 o7 S fun v27 => OpI .i64 v27 fun n9 => IdxS p7 l7 s4.1 1 fun b8 o8 => LdV
  b8 o8 S fun v28 => OpI .u8 v28 fun n10 => IdxS p8 l8 s4.1 1 fun b9 o9 => LdV b9 o9 S fun v29 => OpI .u8 v29 fun n11 => CallV Tryz.prog 185 #[.int .i64 n8] w fun v30 w =>
  OpI .u8 v30 fun n12 => Hld (S w) (CallV Tryz.prog 185 #[.int .i64 n9] w fun v31 w => OpI .u8 v31 fun n13 => Hld (S w) (CallV Tryz.prog 186 #[.int .u8 1, .int .u8 1, .int
  .u8 n12, .int .u8 n13, .int .u8 n10, .int .u8 n11] w fun v32 w => T3 v32 fun v33 v34 v35 => OpI .u8 v33 fun n14 => OpI .u8 v34 fun n15 => OpI .i64 v35 fun n16 => Hld (S w)
  (IdxS p10 l10 s4.1 1 fun b10 o10 => StV b10 o10 (.int .u8 n14) w fun w => Hld (S w) (IdxS p11 l11 s4.1 1 fun b11 o11 => StV b11 o11 (.int .u8 n15) w fun w => Hld (S w) (K4
  (IntKind.wrap .i64 (s4.1 + 1), ()) w)))))) (HeldR w fun S w => IdxS s1.2.1.1 s1.2.1.2.1 0 1 fun b12 o12 => LdV b12 o12 (At w) fun v36 => OpI .i64 v36 fun n17 => IdxS
  s1.2.1.1 s1.2.1.2.1 1 1 fun b13 o13 => LdV b13 o13 (At w) fun v37 => OpI .i64 v37 fun n18 => IdxS s1.1.1 s1.1.2.1 n17 1 fun b14 o14 => StV b14 o14 (.slice p10 l10 c10) w
  fun w => Hld (S w) (IdxS s1.1.1 s1.1.2.1 n18 1 fun b15 o15 => StV b15 o15 (.slice p11 l11 c11) w fun w => Hld (S w) (J3 () w)))) (0, ()) w))) ∧ (DoV Tryz.prog
  (Instr.makeSlice 22 (.int .i64 n) (.int .i64 n)) w fun v38 w => OpS v38 fun p12 l12 c12 => Hld (S w) (DoV Tryz.prog (Instr.makeSlice 22 (.int .i64 n) (.int .i64 n)) w fun
  v39 w => OpS v39 fun p13 l13 c13 => Hld (S w) (LoopC (σ := Int × Unit) (fun _ s5 w K5 => Cb (decide (s5.1 < n)) (HeldR w fun S w => IdxS s1.2.1.1 s1.2.1.2.1 0 1 fun b16
  o16 => LdV b16 o16 S fun v40 => OpI .i64 v40 fun n19 => IdxS s1.2.1.1 s1.2.1.2.1 1 1 fun b17 o17 => LdV b17 o17 S fun v41 => OpI .i64 v41 fun n20 => IdxS p7 l7 s5.1 1 fun
  b18 o18 => LdV b18 o18 S fun v42 => OpI .u8 v42 fun n21 => IdxS p8 l8 s5.1 1 fun b19 o19 => LdV b19 o19 S fun v43 => OpI .u8 v43 fun n22 => CallV Tryz.prog 185 #[.int .i64
  n19] w fun v44 w => OpI .u8 v44 fun n23 => Hld (S w) (CallV Tryz.prog 185 #[.int .i64 n20] w fun v45 w => OpI .u8 v45 fun n24 => Hld (S w) (CallV Tryz.prog 186 #[.int .u8
  1, .int .u8 1, .int .u8 n23, .int .u8 n24, .int .u8 n21, .int .u8 n22] w fun v46 w => T3 v46 fun v47 v48 v49 => OpI .u8 v47 fun n25 => OpI .u8 v48 fun n26 => OpI .i64 v49
  fun n27 => Hld (S w) (IdxS p13 l13 s5.1 1 fun b20 o20 => StV b20 o20 (.int .u8 n25) w fun w => Hld (S w) (IdxS p12 l12 s5.1 1 fun b21 o21 => StV b21 o21 (.int .u8 n26) w
  fun w => Hld (S w) (K5 (IntKind.wrap .i64 (s5.1 + 1), ()) w)))))) (HeldR w fun S w => IdxS s1.2.1.1 s1.2.1.2.1 0 1 fun b22 o22 => LdV b22 o22 (At w) fun v50 => OpI .i64
  v50 fun n28 => IdxS s1.2.1.1 s1.2.1.2.1 1 1 fun b23 o23 => LdV b23 o23 (At w) fun v51 => OpI .i64 v51 fun n29 => IdxS s1.1.1 s1.1.2.1 n28 1 fun b24 o24 => StV b24 o24
  (.slice p13 l13 c13) w fun w => Hld (S w) (IdxS s1.1.1 s1.1.2.1 n29 1 fun b25 o25 => StV b25 o25 (.slice p12 l12 c12) w fun w => Hld (S w) (J3 () w)))) (0, ()) w)))) (J3
  () w)))) (Cb (((s1.2.1.2.1 : Nat) : Int) == 1) (IdxS s1.2.1.1 s1.2.1.2.1 0 1 fun b26 o26 => LdV b26 o26 (At w) fun v52 => OpI .i64 v52 fun n30 => CallV Tryz.prog 185
  #[.int .i64 n30] w fun v53 w => OpI .u8 v53 fun n31 => CallV Tryz.prog 184 #[.int .u8 n31] w fun v54 w => T2 v54 fun v55 v56 => OpI .u8 v55 fun n32 => OpI .i64 v56 fun n33
  => DoV Tryz.prog (Instr.makeSlice 22 (.int .i64 n) (.int .i64 n)) w fun v57 w => OpS v57 fun p14 l14 c14 => CallV Tryz.prog 183 #[.slice p14 l14 c14, .slice p8 l8 c8, .int
  .u8 n32] w fun v58 w => IdxS s1.2.1.1 s1.2.1.2.1 0 1 fun b27 o27 => LdV b27 o27 (At w) fun v59 => OpI .i64 v59 fun n34 => IdxS s1.1.1 s1.1.2.1 n34 1 fun b28 o28 => StV b28
  o28 (.slice p14 l14 c14) w fun w => J3 () w) (Cb (((s1.2.1.2.1 : Nat) : Int) == 2) (HeldR w fun S w => (DoV Tryz.prog (Instr.makeSlice 22 (.int .i64 n) (.int .i64 n)) w
  fun v60 w => OpS v60 fun p15 l15 c15 => Hld (S w) (DoV Tryz.prog (Instr.makeSlice 22 (.int .i64 n) (.int .i64 n)) w fun v61 w => OpS v61 fun p16 l16 c16 => Hld (S w)
  (LoopC (σ := Int × Unit) (fun _ s6 w K6 => Cb (decide (s6.1 < n)) (HeldR w fun S w => IdxS s1.2.1.1 s1.2.1.2.1 0 1 fun b29 o29 => LdV b29 o29 S fun v62 => OpI .i64 v62 fun
  n35 => IdxS s1.2.1.1 s1.2.1.2.1 1 1 fun b30 o30 => LdV b30 o30 S fun v63 => OpI .i64 v63 fun n36 => IdxS p7 l7 s6.1 1 fun b31 o31 => LdV b31 o31 S fun v64 => OpI .u8 v64
  fun n37 => IdxS p8 l8 s6.1 1 fun b32 o32 => LdV b32 o32 S fun v65 => OpI .u8 v65 fun n38 => CallV Tryz.prog 185 #[.int .i64 n35] w fun v66 w => OpI .u8 v66 fun n39 => Hld
  (S w) (CallV Tryz.prog 185 #[.int .i64 n36] w fun v67 w => OpI .u8 v67 fun n40 => Hld (S w) (CallV Tryz.prog 186 #[.int .u8 1, .int .u8 1, .int .u8 n39, .int .u8 n40, .int
  .u8 n37, .int .u8 n38] w fun v68 w => T3 v68 fun v69 v70 v71 => OpI .u8 v69 fun n41 => OpI .u8 v70 fun n42 => OpI .i64 v71 fun n43 => Hld (S w) (IdxS p15 l15 s6.1 1 fun
  b33 o33 => StV b33 o33 (.int .u8 n41) w fun w => Hld (S w) (IdxS p16 l16 s6.1 1 fun b34 o34 => StV b34 o34 (.int .u8 n42) w fun w => Hld (S w) (K6 (IntKind.wrap .i64 (s6.1
  + 1), ()) w)))))) (HeldR w fun S w => IdxS s1.2.1.1 s1.2.1.2.1 0 1 fun b35 o35 => LdV b35 o35 (At w) fun v72 => OpI .i64 v72 fun n44 => IdxS s1.2.1.1 s1.2.1.2.1 1 1 fun
  b36 o36 => LdV b36 o36 (At w) fun v73 => OpI .i64 v73 fun n45 => IdxS s1.1.1 s1.1.2.1 n44 1 fun b37 o37 => StV b37 o37 (.slice p15 l15 c15) w fun w => Hld (S w) (IdxS
  s1.1.1 s1.1.2.1 n45 1 fun b38 o38 => StV b38 o38 (.slice p16 l16 c16) w fun w => Hld (S w) (J3 () w)))) (0, ()) w))) ∧ (DoV Tryz.prog (Instr.makeSlice 22 (.int .i64 n)
  (.int .i64 n)) w fun v74 w => OpS v74 fun p17 l17 c17 => Hld (S w) (DoV Tryz.prog (Instr.makeSlice 22 (.int .i64 n) (.int .i64 n)) w fun v75 w => OpS v75 fun p18 l18 c18
  => Hld (S w) (LoopC (σ := Int × Unit) (fun _ s7 w K7 => Cb (decide (s7.1 < n)) (HeldR w fun S w => IdxS s1.2.1.1 s1.2.1.2.1 0 1 fun b39 o39 => LdV b39 o39 S fun v76 => OpI
  .i64 v76 fun n46 => IdxS s1.2.1.1 s1.2.1.2.1 1 1 fun b40 o40 => LdV b40 o40 S fun v77 => OpI .i64 v77 fun n47 => IdxS p7 l7 s7.1 1 fun b41 o41 => LdV b41 o41 S fun v78 =>
  OpI .u8 v78 fun n48 => IdxS p8 l8 s7.1 1 fun b42 o42 => LdV b42 o42 S fun v79 => OpI .u8 v79 fun n49 => CallV Tryz.prog 185 #[.int .i64 n46] w fun v80 w => OpI .u8 v80 fun
  n50 => Hld (S w) (CallV Tryz.prog 185 #[.int .i64 n47] w fun v81 w => OpI .u8 v81 fun n51 => Hld (S w) (CallV Tryz.prog 186 #[.int .u8 1, .int .u8 1, .int .u8 n50, .int
  .u8 n51, .int .u8 n48, .int .u8 n49] w fun v82 w => T3 v82 fun v83 v84 v85 => OpI .u8 v83 fun n52 => OpI .u8 v84 fun n53 => OpI .i64 v85 fun n54 => Hld (S w) (IdxS p18 l18
  s7.1 1 fun b43 o43 => StV b43 o43 (.int .u8 n52) w fun w => Hld (S w) (IdxS p17 l17 s7.1 1 fun b44 o44 => StV b44 o44 (.int .u8 n53) w fun w => Hld (S w) (K7 (IntKind.wrap
  .i64 (s7.1 + 1), ()) w)))))) (HeldR w fun S w => IdxS s1.2.1.1 s1.2.1.2.1 0 1 fun b45 o45 => LdV b45 o45 (At w) fun v86 => OpI .i64 v86 fun n55 => IdxS s1.2.1.1 s1.2.1.2.1
  1 1 fun b46 o46 => LdV b46 o46 (At w) fun v87 => OpI .i64 v87 fun n56 => IdxS s1.1.1 s1.1.2.1 n55 1 fun b47 o47 => StV b47 o47 (.slice p18 l18 c18) w fun w => Hld (S w)
  (IdxS s1.1.1 s1.1.2.1 n56 1 fun b48 o48 => StV b48 o48 (.slice p17 l17 c17) w fun w => Hld (S w) (J3 () w)))) (0, ()) w)))) (J3 () w)))) (fun _ s3 w => CallV Tryz.prog 181
  #[.slice pp pl pc] w fun v88 w => OpS v88 fun p19 l19 c19 => CallV Tryz.prog 181 #[.slice qp ql qc] w fun v89 w => OpS v89 fun p20 l20 c20 => CallV Tryz.prog 182 #[.slice
  s1.1.1 s1.1.2.1 s1.1.2.2, .int .i64 n] w fun v90 w => T2 v90 fun v91 v92 => OpS v91 fun p21 l21 c21 => OpS v92 fun p22 l22 c22 => JoinC (σ := (Option Addr × Nat × Nat) ×
  Unit) (fun J8 => Cb (((pl : Nat) : Int) == 0) (J8 ((p21, l21, c21), ()) w) (J8 ((p19, l19, c19), ()) w)) (fun _ s8 w => JoinC (σ := (Option Addr × Nat × Nat) × Unit) (fun
  J9 => Cb (((ql : Nat) : Int) == 0) (J9 ((p22, l22, c22), ()) w) (J9 ((p20, l20, c20), ()) w)) (fun _ s9 w => Ret [] (R (.tuple #[.slice s1.1.1 s1.1.2.1 s1.1.2.2, .slice
  s8.1.1 s8.1.2.1 s8.1.2.2, .slice s9.1.1 s9.1.2.1 s9.1.2.2, .int .i64 0]) w)))))) ((none, 0, 0), ((none, 0, 0), (0, ()))) w))
theorem C_parity_Recover {colsp : Option Addr} {colsl : Nat} {colsc : Nat} {pp : Option Addr} {pl : Nat} {pc : Nat} {qp : Option Addr} {ql : Nat} {qc : Nat} {w : World} {R : Value → World → Prop} (h : F_parity_Recover colsp colsl colsc pp pl pc qp ql qc w R) : CallV Tryz.prog 110 #[.slice colsp colsl colsc, .slice pp pl pc, .slice qp ql qc] w R := by
  exact calls_of_F (args := [.slice colsp colsl colsc, .slice pp pl pc, .slice qp ql qc]) (mkAnn [(8, [(6, .slice), (12, .slice), (37, (.int .i64))]), (27, [(115, (.int .i64))])] [(2, [])] [(12, [(12, .slice)]), (35, [(7, .slice)]), (37, [(8, .slice)])] [] []) Tryz_mixed Tryz.func110 rfl rfl (by kernel_rfl) h
def F_layout_Check (g : Array Value) (w : World) (R : Value → World → Prop) : Prop :=
  Alc 24 g w fun b w => LdV b 0 (At w) fun v => OpI .i64 v fun n => Cb (decide (n < 4)) (Ret [] (R (.int .i64 1) w)) (LdV b 0 (At w) fun v1 => OpI .i64 v1 fun n1 => Cb
  (decide (n1 > 32)) (Ret [] (R (.int .i64 1) w)) (LdV b 1 (At w) fun v2 => OpI .i64 v2 fun n2 => Cb (decide (n2 < 1)) (Ret [] (R (.int .i64 1) w)) (LdV b 1 (At w) fun v3 =>
  OpI .i64 v3 fun n3 => Cb (decide (n3 > 8)) (Ret [] (R (.int .i64 1) w)) (LdV b 2 (At w) fun v4 => OpI .i64 v4 fun n4 => Cb (decide (n4 < 1)) (Ret [] (R (.int .i64 1) w))
  (LdV b 2 (At w) fun v5 => OpI .i64 v5 fun n5 => Cb (decide (n5 > 64)) (Ret [] (R (.int .i64 1) w)) (Ret [] (R (.int .i64 0) w)))))))
theorem C_layout_Check {g : Array Value} {w : World} {R : Value → World → Prop} (h : F_layout_Check g w R) : CallV Tryz.prog 71 #[.agg g] w R := by
  exact calls_of_F (args := [.agg g]) (mkAnn [] [] [] [] []) Tryz_mixed Tryz.func71 rfl rfl (by kernel_rfl) h
def F_layout_Size (g : Array Value) (w : World) (R : Value → World → Prop) : Prop :=
  Alc 24 g w fun b w => LdA 3 b 0 (At w) fun cs => CallV Tryz.prog 71 #[.agg cs] w fun v w => OpI .i64 v fun n => Cb (n != 0) (Ret [] (R (.tuple #[.int .i64 0, .int .i64 n])
  w)) (LdV b 1 (At w) fun v1 => OpI .i64 v1 fun n1 => LdV b 2 (At w) fun v2 => OpI .i64 v2 fun n2 => Ret [] (R (.tuple #[.int .i64 (IntKind.wrap .i64 (n1 * n2)), .int .i64
  0]) w))
theorem C_layout_Size {g : Array Value} {w : World} {R : Value → World → Prop} (h : F_layout_Size g w R) : CallV Tryz.prog 128 #[.agg g] w R := by
  exact calls_of_F (args := [.agg g]) (mkAnn [] [] [] [] []) Tryz_mixed Tryz.func128 rfl rfl (by kernel_rfl) h
def F_layout_Capacity (g : Array Value) (w : World) (R : Value → World → Prop) : Prop :=
  Alc 24 g w fun b w => LdA 3 b 0 (At w) fun cs => CallV Tryz.prog 71 #[.agg cs] w fun v w => OpI .i64 v fun n => Cb (n != 0) (Ret [] (R (.tuple #[.int .i64 0, .int .i64 n])
  w)) (LdV b 0 (At w) fun v1 => OpI .i64 v1 fun n1 => LdV b 1 (At w) fun v2 => OpI .i64 v2 fun n2 => LdV b 2 (At w) fun v3 => OpI .i64 v3 fun n3 => Ret [] (R (.tuple #[.int
  .i64 (IntKind.wrap .i64 ((IntKind.wrap .i64 ((IntKind.wrap .i64 (n1 - 2)) * n2)) * n3)), .int .i64 0]) w))
theorem C_layout_Capacity {g : Array Value} {w : World} {R : Value → World → Prop} (h : F_layout_Capacity g w R) : CallV Tryz.prog 140 #[.agg g] w R := by
  exact calls_of_F (args := [.agg g]) (mkAnn [] [] [] [] []) Tryz_mixed Tryz.func140 rfl rfl (by kernel_rfl) h
def F_layout_first (g : Array Value) (stripe : Int) (w : World) (R : Value → World → Prop) : Prop :=
  Alc 24 g w fun b w => LdV b 0 (At w) fun v => OpI .i64 v fun n => LdV b 0 (At w) fun v1 => OpI .i64 v1 fun n1 => Req (n1 ≠ 0) (LdV b 0 (At w) fun v2 => OpI .i64 v2 fun n2
  => Req (n2 ≠ 0) (Drw w fun w => Ret [] (R (.int .i64 (Int.tmod (IntKind.wrap .i64 ((IntKind.wrap .i64 ((IntKind.wrap .i64 (2 * n)) + 1)) - (Int.tmod stripe n1))) n2)) w)))
theorem C_layout_first {g : Array Value} {stripe : Int} {w : World} {R : Value → World → Prop} (h : F_layout_first g stripe w R) : CallV Tryz.prog 174 #[.agg g, .int .i64 stripe] w R := by
  exact calls_of_F (args := [.agg g, .int .i64 stripe]) (mkAnn [] [] [] [] []) Tryz_mixed Tryz.func174 rfl rfl (by kernel_rfl) h
def F_layout_Map (g : Array Value) (lba : Int) (w : World) (R : Value → World → Prop) : Prop :=
  Alc 24 g w fun b w => Alc 177 (zc Tryz.prog 177) w fun b1 w => Alc 84 (zc Tryz.prog 84) w fun b2 w => LdA 3 b 0 (At w) fun cs => CallV Tryz.prog 140 #[.agg cs] w fun v w
  => T2 v fun v1 v2 => OpI .i64 v1 fun n => OpI .i64 v2 fun n1 => Cb (n1 != 0) (DoQ Tryz.prog (Instr.build 177 #[]) (At w) fun v3 => OpA 3 v3 fun cs1 => DoQ Tryz.prog
  (Instr.build 84 #[]) (At w) fun v4 => OpA 2 v4 fun cs2 => StA 3 b1 0 cs1 w fun w => StA 2 b2 0 cs2 w fun w => LdA 3 b1 0 (At w) fun cs3 => LdA 2 b2 0 (At w) fun cs4 => Ret
  [] (R (.tuple #[.agg cs3, .agg cs4, .int .i64 n1]) w)) (Req ((decide (lba < 0)) = (decide (lba < 0))) (Req ((decide (lba < 0)) = (decide (lba < 0))) (Req ((decide (lba <
  0)) = (decide (lba < 0))) (Cb (cond (decide (lba < 0)) true (decide (lba ≥ n))) (DoQ Tryz.prog (Instr.build 177 #[]) (At w) fun v5 => OpA 3 v5 fun cs5 => DoQ Tryz.prog
  (Instr.build 84 #[]) (At w) fun v6 => OpA 2 v6 fun cs6 => StA 3 b1 0 cs5 w fun w => StA 2 b2 0 cs6 w fun w => LdA 3 b1 0 (At w) fun cs7 => LdA 2 b2 0 (At w) fun cs8 => Ret
  [] (R (.tuple #[.agg cs7, .agg cs8, .int .i64 2]) w)) (LdV b 0 (At w) fun v7 => OpI .i64 v7 fun n2 => HeldR w fun S w => LdV b 1 S fun v8 => OpI .i64 v8 fun n3 => Req
  (IntKind.wrap .i64 ((IntKind.wrap .i64 (n2 - 2)) * n3) ≠ 0) (LdV b 1 S fun v9 => OpI .i64 v9 fun n4 => Req (n4 ≠ 0) (Req (IntKind.wrap .i64 (n2 - 2) ≠ 0) (LdV b 1 S fun
  v10 => OpI .i64 v10 fun n5 => Req (n5 ≠ 0) (DoQ Tryz.prog (Instr.build 177 #[(0, .int .i64 (IntKind.wrap .i64 (Int.tdiv lba (IntKind.wrap .i64 ((IntKind.wrap .i64 (n2 -
  2)) * n3))))), (1, .int .i64 (Int.tmod (IntKind.wrap .i64 (Int.tdiv lba n4)) (IntKind.wrap .i64 (n2 - 2)))), (2, .int .i64 (Int.tmod lba n5))]) S fun v11 => OpA 3 v11 fun
  cs9 => Alc 177 (zc Tryz.prog 177) w fun b3 w => Hld (S w) (StA 3 b3 0 cs9 w fun w => Hld (S w) (HeldR w fun S w => LdA 3 b3 0 S fun cs10 => LdA 3 b 0 S fun cs11 => LdV b3
  0 S fun v12 => OpI .i64 v12 fun n6 => LdV b3 1 S fun v13 => OpI .i64 v13 fun n7 => LdV b 0 S fun v14 => OpI .i64 v14 fun n8 => LdV b3 0 S fun v15 => OpI .i64 v15 fun n9 =>
  LdV b 1 S fun v16 => OpI .i64 v16 fun n10 => LdV b3 2 S fun v17 => OpI .i64 v17 fun n11 => CallV Tryz.prog 174 #[.agg cs11, .int .i64 n6] w fun v18 w => OpI .i64 v18 fun
  n12 => Hld (S w) (Req (n8 ≠ 0) (DoQ Tryz.prog (Instr.build 84 #[(0, .int .i64 (Int.tmod (IntKind.wrap .i64 (n12 + n7)) n8)), (1, .int .i64 (IntKind.wrap .i64
  ((IntKind.wrap .i64 (n9 * n10)) + n11)))]) S fun v19 => OpA 2 v19 fun cs12 => StA 3 b1 0 cs10 w fun w => Hld (S w) (StA 2 b2 0 cs12 w fun w => Hld (S w) (LdA 3 b1 0 (At w)
  fun cs13 => LdA 2 b2 0 (At w) fun cs14 => Ret [] (R (.tuple #[.agg cs13, .agg cs14, .int .i64 0]) w))))))))))))))))
theorem C_layout_Map {g : Array Value} {lba : Int} {w : World} {R : Value → World → Prop} (h : F_layout_Map g lba w R) : CallV Tryz.prog 105 #[.agg g, .int .i64 lba] w R := by
  exact calls_of_F (args := [.agg g, .int .i64 lba]) (mkAnn [] [] [] [] [54]) Tryz_mixed Tryz.func105 rfl rfl (by kernel_rfl) h
def F_layout_Row (g : Array Value) (stripe : Int) (off : Int) (w : World) (R : Value → World → Prop) : Prop :=
  Alc 24 g w fun b w => LdA 3 b 0 (At w) fun cs => CallV Tryz.prog 71 #[.agg cs] w fun v w => OpI .i64 v fun n => Cb (n != 0) (Ret [] (R (.tuple #[.slice none 0 0, .int .i64
  n]) w)) (Cb (decide (stripe < 0)) (Req (true = true) (Req (true = true) (Ret [] (R (.tuple #[.slice none 0 0, .int .i64 2]) w)))) (LdV b 2 (At w) fun v1 => OpI .i64 v1 fun
  n1 => Req ((decide (stripe ≥ n1)) = (decide (stripe ≥ n1))) (Req ((decide (stripe ≥ n1)) = (decide (stripe ≥ n1))) (Cb (cond (decide (stripe ≥ n1)) true (decide (off <
  0))) (Ret [] (R (.tuple #[.slice none 0 0, .int .i64 2]) w)) (LdV b 1 (At w) fun v2 => OpI .i64 v2 fun n2 => Cb (decide (off ≥ n2)) (Ret [] (R (.tuple #[.slice none 0 0,
  .int .i64 2]) w)) (LdV b 0 (At w) fun v3 => OpI .i64 v3 fun n3 => LoopC (σ := (Option Addr × Nat × Nat) × Int × Unit) (fun _ s1 w K1 => Cb (decide (s1.2.1 < n3)) (HeldR w
  fun S w => LdA 3 b 0 S fun cs1 => LdV b 0 S fun v4 => OpI .i64 v4 fun n4 => LdV b 1 S fun v5 => OpI .i64 v5 fun n5 => CallV Tryz.prog 174 #[.agg cs1, .int .i64 stripe] w
  fun v6 w => OpI .i64 v6 fun n6 => Hld (S w) (Req (n4 ≠ 0) (DoQ Tryz.prog (Instr.build 84 #[(0, .int .i64 (Int.tmod (IntKind.wrap .i64 (n6 + s1.2.1)) n4)), (1, .int .i64
  (IntKind.wrap .i64 ((IntKind.wrap .i64 (stripe * n5)) + off)))]) S fun v7 => OpA 2 v7 fun cs2 => DoV Tryz.prog (Instr.buildSlice 184 1 #[(0, .agg cs2)]) w fun v8 w => OpS
  v8 fun p l c => Hld (S w) (DoV Tryz.prog (Builtin.append_ #[184, 184] 184 #[.slice s1.1.1 s1.1.2.1 s1.1.2.2, .slice p l c]) w fun v9 w => OpS v9 fun p1 l1 c1 => Hld (S w)
  (K1 ((p1, l1, c1), (IntKind.wrap .i64 (s1.2.1 + 1), ())) w))))) (Ret [] (R (.tuple #[.slice s1.1.1 s1.1.2.1 s1.1.2.2, .int .i64 0]) w))) ((none, 0, 0), (0, ())) w))))))
theorem C_layout_Row {g : Array Value} {stripe : Int} {off : Int} {w : World} {R : Value → World → Prop} (h : F_layout_Row g stripe off w R) : CallV Tryz.prog 109 #[.agg g, .int .i64 stripe, .int .i64 off] w R := by
  exact calls_of_F (args := [.agg g, .int .i64 stripe, .int .i64 off]) (mkAnn [(8, [(9, .slice), (36, (.int .i64))])] [] [] [] [42]) Tryz_mixed Tryz.func109 rfl rfl (by kernel_rfl) h
def F_disk_New (n : Int) (m : Nat) (w : World) (R : Value → World → Prop) : Prop :=
  Req ((decide (n < 1)) = (decide (n < 1))) (Req ((decide (n < 1)) = (decide (n < 1))) (Req ((cond (decide (n < 1)) true (decide (n > 1024))) = (cond (decide (n < 1)) true
  (decide (n > 1024)))) (Req ((cond (decide (n < 1)) true (decide (n > 1024))) = (cond (decide (n < 1)) true (decide (n > 1024)))) (Cb (cond (cond (decide (n < 1)) true
  (decide (n > 1024))) true false) (Ret [] (R (.tuple #[.pointer none, .int .i64 2]) w)) (DoV Tryz.prog (Instr.makeSlice 218 (.int .i64 n) (.int .i64 n)) w fun v w => OpS v
  fun p l c => DoQ Tryz.prog (Instr.build 220 #[(0, .pointer (some ⟨m, 0, none⟩)), (1, .slice p l c)]) (At w) fun v1 => OpA 4 v1 fun cs => Alc 220 cs w fun b w => Ret [] (R
  (.tuple #[.pointer (some ⟨b, 0, none⟩), .int .i64 0]) w))))))
theorem C_disk_New {n : Int} {m : Nat} {w : World} {R : Value → World → Prop} (h : F_disk_New n m w R) : CallV Tryz.prog 129 #[.int .i64 n, .pointer (some ⟨m, 0, none⟩)] w R := by
  exact calls_of_F (args := [.int .i64 n, .pointer (some ⟨m, 0, none⟩)]) (mkAnn [] [] [] [] []) Tryz_mixed Tryz.func129 rfl rfl (by kernel_rfl) h
def F_disk_Disk_On (d : Nat) (m : Nat) (w : World) (R : Value → World → Prop) : Prop :=
  StV d 0 (.pointer (some ⟨m, 0, none⟩)) w fun w => Ret [] (R (.pointer (some ⟨d, 0, none⟩)) w)
theorem C_disk_Disk_On {d : Nat} {m : Nat} {w : World} {R : Value → World → Prop} (h : F_disk_Disk_On d m w R) : CallV Tryz.prog 130 #[.pointer (some ⟨d, 0, none⟩), .pointer (some ⟨m, 0, none⟩)] w R := by
  exact calls_of_F (args := [.pointer (some ⟨d, 0, none⟩), .pointer (some ⟨m, 0, none⟩)]) (mkAnn [] [] [] [] []) Tryz_mixed Tryz.func130 rfl rfl (by kernel_rfl) h
def F_disk_Disk_Size (d : Nat) (w : World) (R : Value → World → Prop) : Prop :=
  LdV d 1 (At w) fun v => OpS v fun p l c => Ret [] (R (.int .i64 ((l : Nat) : Int)) w)
theorem C_disk_Disk_Size {d : Nat} {w : World} {R : Value → World → Prop} (h : F_disk_Disk_Size d w R) : CallV Tryz.prog 119 #[.pointer (some ⟨d, 0, none⟩)] w R := by
  exact calls_of_F (args := [.pointer (some ⟨d, 0, none⟩)]) (mkAnn [] [] [] [] []) Tryz_mixed Tryz.func119 rfl rfl (by kernel_rfl) h
def F_disk_Disk_in (d : Nat) (at_ : Int) (w : World) (R : Value → World → Prop) : Prop :=
  Req (true = true) (Req (true = true) (Cb (decide (at_ ≥ 0)) (LdV d 1 (At w) fun v => OpS v fun p l c => Ret [] (R (.bool (decide (at_ < ((l : Nat) : Int)))) w)) (Ret [] (R
  (.bool false) w))))
theorem C_disk_Disk_in {d : Nat} {at_ : Int} {w : World} {R : Value → World → Prop} (h : F_disk_Disk_in d at_ w R) : CallV Tryz.prog 172 #[.pointer (some ⟨d, 0, none⟩), .int .i64 at_] w R := by
  exact calls_of_F (args := [.pointer (some ⟨d, 0, none⟩), .int .i64 at_]) (mkAnn [] [] [] [] []) Tryz_mixed Tryz.func172 rfl rfl (by kernel_rfl) h
def F_disk_Disk_Read (d : Nat) (at_ : Int) (w : World) (R : Value → World → Prop) : Prop :=
  Alc 86 (zc Tryz.prog 86) w fun b w => CallV Tryz.prog 172 #[.pointer (some ⟨d, 0, none⟩), .int .i64 at_] w fun v w => OpB v fun g => Cb (!g) (DoQ Tryz.prog (Instr.build 86
  #[]) (At w) fun v1 => OpA 17 v1 fun cs => StA 17 b 0 cs w fun w => LdA 17 b 0 (At w) fun cs1 => Ret [] (R (.tuple #[.agg cs1, .int .i64 2]) w)) (LdV d 0 (At w) fun v2 =>
  OpN v2 fun b1 o => CallV Tryz.prog 44 #[.pointer (some ⟨b1, o, none⟩)] w fun v3 w => OpB v3 fun g1 => Cb (!g1) (DoQ Tryz.prog (Instr.build 86 #[]) (At w) fun v4 => OpA 17
  v4 fun cs2 => StA 17 b 0 cs2 w fun w => LdA 17 b 0 (At w) fun cs3 => Ret [] (R (.tuple #[.agg cs3, .int .i64 4]) w)) (LdV d 3 (At w) fun v5 => OpB v5 fun g2 => Cb g2 (DoQ
  Tryz.prog (Instr.build 86 #[]) (At w) fun v6 => OpA 17 v6 fun cs4 => StA 17 b 0 cs4 w fun w => LdA 17 b 0 (At w) fun cs5 => Ret [] (R (.tuple #[.agg cs5, .int .i64 5]) w))
  (LdV d 1 (At w) fun v7 => OpS v7 fun p l c => IdxS p l at_ 18 fun b2 o1 => LdV b2 (o1 + 17) (At w) fun v8 => OpB v8 fun g3 => Cb (!g3) (DoQ Tryz.prog (Instr.build 86 #[])
  (At w) fun v9 => OpA 17 v9 fun cs6 => StA 17 b 0 cs6 w fun w => LdA 17 b 0 (At w) fun cs7 => Ret [] (R (.tuple #[.agg cs7, .int .i64 7]) w)) (LdV d 1 (At w) fun v10 => OpS
  v10 fun p1 l1 c1 => IdxS p1 l1 at_ 18 fun b3 o2 => LdA 17 b3 o2 (At w) fun cs8 => StA 17 b 0 cs8 w fun w => LdA 17 b 0 (At w) fun cs9 => Ret [] (R (.tuple #[.agg cs9, .int
  .i64 0]) w)))))
theorem C_disk_Disk_Read {d : Nat} {at_ : Int} {w : World} {R : Value → World → Prop} (h : F_disk_Disk_Read d at_ w R) : CallV Tryz.prog 175 #[.pointer (some ⟨d, 0, none⟩), .int .i64 at_] w R := by
  exact calls_of_F (args := [.pointer (some ⟨d, 0, none⟩), .int .i64 at_]) (mkAnn [] [] [] [] []) Tryz_mixed Tryz.func175 rfl rfl (by kernel_rfl) h
def F_disk_Disk_Write (d : Nat) (at_ : Int) (cellsp : Option Addr) (cellsl : Nat) (cellsc : Nat) (epoch : Int) (w : World) (R : Value → World → Prop) : Prop :=
  Req (false = false) (Req (false = false) (Cb (decide (at_ < 0)) (Ret [] (R (.tuple #[.int .i64 0, .int .i64 2]) w)) (LdV d 1 (At w) fun v => OpS v fun p l c => Cb (decide
  (at_ > ((l : Nat) : Int))) (Ret [] (R (.tuple #[.int .i64 0, .int .i64 2]) w)) (LdV d 1 (At w) fun v1 => OpS v1 fun p1 l1 c1 => Cb (decide (((cellsl : Nat) : Int) >
  IntKind.wrap .i64 (((l1 : Nat) : Int) - at_))) (Ret [] (R (.tuple #[.int .i64 0, .int .i64 2]) w)) (LdV d 0 (At w) fun v2 => OpN v2 fun b o => CallV Tryz.prog 44
  #[.pointer (some ⟨b, o, none⟩)] w fun v3 w => OpB v3 fun g => Cb (!g) (Ret [] (R (.tuple #[.int .i64 0, .int .i64 4]) w)) (LdV d 3 (At w) fun v4 => OpB v4 fun g1 => Cb g1
  (Ret [] (R (.tuple #[.int .i64 0, .int .i64 5]) w)) (LdV d 2 (At w) fun v5 => OpI .u32 v5 fun n => Cb (decide (epoch < n)) (Ret [] (R (.tuple #[.int .i64 0, .int .i64 6])
  w)) (LoopC (σ := Int × Unit) (fun _ s1 w K1 => Cb (decide (s1.1 < ((cellsl : Nat) : Int))) (IdxS cellsp cellsl s1.1 17 fun b1 o1 => LdA 17 b1 o1 (At w) fun cs => Alc 86
  (zc Tryz.prog 86) w fun b2 w => StA 17 b2 0 cs w fun w => LdV d 0 (At w) fun v6 => OpN v6 fun b3 o2 => CallV Tryz.prog 195 #[.pointer (some ⟨b3, o2, none⟩)] w fun v7 w =>
  OpB v7 fun g2 => Cb (!g2) (Ret [] (R (.tuple #[.int .i64 s1.1, .int .i64 4]) w)) (Dr1 w fun w => LdV d 1 (At w) fun v8 => OpS v8 fun p2 l2 c2 => LdA 17 b2 0 (At w) fun cs1
  => DoQ Tryz.prog (Instr.build 260 #[(0, .agg cs1), (1, .bool true)]) (At w) fun v9 => OpA 18 v9 fun cs2 => IdxS p2 l2 (IntKind.wrap .i64 (at_ + s1.1)) 18 fun b4 o3 => StA
  18 b4 o3 cs2 w fun w => K1 (IntKind.wrap .i64 (s1.1 + 1), ()) w)) (Ret [] (R (.tuple #[.int .i64 ((cellsl : Nat) : Int), .int .i64 0]) w))) (0, ()) w))))))))
theorem C_disk_Disk_Write {d : Nat} {at_ : Int} {cellsp : Option Addr} {cellsl : Nat} {cellsc : Nat} {epoch : Int} {w : World} {R : Value → World → Prop} (h : F_disk_Disk_Write d at_ cellsp cellsl cellsc epoch w R) : CallV Tryz.prog 120 #[.pointer (some ⟨d, 0, none⟩), .int .i64 at_, .slice cellsp cellsl cellsc, .int .u32 epoch] w R := by
  exact calls_of_F (args := [.pointer (some ⟨d, 0, none⟩), .int .i64 at_, .slice cellsp cellsl cellsc, .int .u32 epoch]) (mkAnn [(10, [(61, (.int .i64))])] [] [] [] []) Tryz_mixed Tryz.func120 rfl rfl (by kernel_rfl) h
def F_disk_Disk_Fence (d : Nat) (epoch : Int) (w : World) (R : Value → World → Prop) : Prop :=
  LdV d 0 (At w) fun v => OpN v fun b o => CallV Tryz.prog 44 #[.pointer (some ⟨b, o, none⟩)] w fun v1 w => OpB v1 fun g => Cb (!g) (Ret [] (R (.int .i64 4) w)) (LdV d 3 (At
  w) fun v2 => OpB v2 fun g1 => Cb g1 (Ret [] (R (.int .i64 5) w)) (LdV d 2 (At w) fun v3 => OpI .u32 v3 fun n => DoQ Tryz.prog (Builtin.max_ #[62, 62] 62 #[.int .u32 n,
  .int .u32 epoch]) (At w) fun v4 => OpI .u32 v4 fun n1 => StV d 2 (.int .u32 n1) w fun w => Ret [] (R (.int .i64 0) w)))
theorem C_disk_Disk_Fence {d : Nat} {epoch : Int} {w : World} {R : Value → World → Prop} (h : F_disk_Disk_Fence d epoch w R) : CallV Tryz.prog 123 #[.pointer (some ⟨d, 0, none⟩), .int .u32 epoch] w R := by
  exact calls_of_F (args := [.pointer (some ⟨d, 0, none⟩), .int .u32 epoch]) (mkAnn [] [] [] [] []) Tryz_mixed Tryz.func123 rfl rfl (by kernel_rfl) h
def F_disk_Disk_Key (d : Nat) (w : World) (R : Value → World → Prop) : Prop :=
  LdV d 2 (At w) fun v => OpI .u32 v fun n => Ret [] (R (.int .u32 n) w)
theorem C_disk_Disk_Key {d : Nat} {w : World} {R : Value → World → Prop} (h : F_disk_Disk_Key d w R) : CallV Tryz.prog 125 #[.pointer (some ⟨d, 0, none⟩)] w R := by
  exact calls_of_F (args := [.pointer (some ⟨d, 0, none⟩)]) (mkAnn [] [] [] [] []) Tryz_mixed Tryz.func125 rfl rfl (by kernel_rfl) h
def F_disk_Disk_Fail (d : Nat) (w : World) (R : Value → World → Prop) : Prop :=
  StV d 3 (.bool true) w fun w => Ret [] (R (.tuple #[]) w)
theorem C_disk_Disk_Fail {d : Nat} {w : World} {R : Value → World → Prop} (h : F_disk_Disk_Fail d w R) : CallV Tryz.prog 58 #[.pointer (some ⟨d, 0, none⟩)] w R := by
  exact calls_of_F (args := [.pointer (some ⟨d, 0, none⟩)]) (mkAnn [] [] [] [] []) Tryz_mixed Tryz.func58 rfl rfl (by kernel_rfl) h
def F_disk_Disk_Alive (d : Nat) (w : World) (R : Value → World → Prop) : Prop :=
  LdV d 3 (At w) fun v => OpB v fun g => Ret [] (R (.bool (!g)) w)
theorem C_disk_Disk_Alive {d : Nat} {w : World} {R : Value → World → Prop} (h : F_disk_Disk_Alive d w R) : CallV Tryz.prog 87 #[.pointer (some ⟨d, 0, none⟩)] w R := by
  exact calls_of_F (args := [.pointer (some ⟨d, 0, none⟩)]) (mkAnn [] [] [] [] []) Tryz_mixed Tryz.func87 rfl rfl (by kernel_rfl) h
def F_disk_Disk_Hurt (d : Nat) (at_ : Int) (w : World) (R : Value → World → Prop) : Prop :=
  CallV Tryz.prog 172 #[.pointer (some ⟨d, 0, none⟩), .int .i64 at_] w fun v w => OpB v fun g => Cb (!g) (Ret [] (R (.int .i64 2) w)) (LdV d 3 (At w) fun v1 => OpB v1 fun g1
  => Cb g1 (Ret [] (R (.int .i64 5) w)) (LdV d 1 (At w) fun v2 => OpS v2 fun p l c => IdxS p l at_ 18 fun b o => StV b (o + 17) (.bool false) w fun w => Ret [] (R (.int .i64
  0) w)))
theorem C_disk_Disk_Hurt {d : Nat} {at_ : Int} {w : World} {R : Value → World → Prop} (h : F_disk_Disk_Hurt d at_ w R) : CallV Tryz.prog 100 #[.pointer (some ⟨d, 0, none⟩), .int .i64 at_] w R := by
  exact calls_of_F (args := [.pointer (some ⟨d, 0, none⟩), .int .i64 at_]) (mkAnn [] [] [] [] []) Tryz_mixed Tryz.func100 rfl rfl (by kernel_rfl) h
def F_stripe_New (g : Array Value) (m : Nat) (w : World) (R : Value → World → Prop) : Prop :=
  Alc 24 g w fun b w => Alc 51 (zc Tryz.prog 51) w fun b1 w => LdA 3 b 0 (At w) fun cs => CallV Tryz.prog 128 #[.agg cs] w fun v w => T2 v fun v1 v2 => OpI .i64 v1 fun n =>
  OpI .i64 v2 fun n1 => Cb (n1 != 0) (DoQ Tryz.prog (Instr.build 51 #[]) (At w) fun v3 => OpA 4 v3 fun cs1 => StA 4 b1 0 cs1 w fun w => LdA 4 b1 0 (At w) fun cs2 => Ret []
  (R (.tuple #[.agg cs2, .int .i64 n1]) w)) (LdA 3 b 0 (At w) fun cs3 => DoQ Tryz.prog (Instr.build 51 #[(0, .agg cs3)]) (At w) fun v4 => OpA 4 v4 fun cs4 => Alc 51 (zc
  Tryz.prog 51) w fun b2 w => StA 4 b2 0 cs4 w fun w => CallV Tryz.prog 52 #[] w fun v5 w => OpN v5 fun b3 o => LdV b 0 (At w) fun v6 => OpI .i64 v6 fun n2 => LoopC (σ :=
  Int × Unit) (fun _ s1 w K1 => Cb (decide (s1.1 < n2)) (CallV Tryz.prog 129 #[.int .i64 n, .pointer (some ⟨b3, o, none⟩)] w fun v7 w => T2 v7 fun v8 v9 => OpN v8 fun b4 o1
  => OpI .i64 v9 fun n3 => LoopC (σ := Int × Unit) (fun _ s2 w K2 => Cb (decide (s2.1 < n)) (DoQ Tryz.prog (Instr.build 37 #[]) (At w) fun v10 => OpA 16 v10 fun cs5 => CallV
  Tryz.prog 116 #[.int .i64 s2.1, .agg cs5] w fun v11 w => OpA 17 v11 fun cs6 => DoV Tryz.prog (Instr.buildSlice 167 1 #[(0, .agg cs6)]) w fun v12 w => OpS v12 fun p l c =>
  CallV Tryz.prog 120 #[.pointer (some ⟨b4, o1, none⟩), .int .i64 s2.1, .slice p l c, .int .u32 0] w fun v13 w => T2 v13 fun v14 v15 => OpI .i64 v14 fun n4 => OpI .i64 v15
  fun n5 => K2 (IntKind.wrap .i64 (s2.1 + 1), ()) w) (HeldR w fun S w => LdV b2 3 S fun v16 => OpS v16 fun p1 l1 c1 => CallV Tryz.prog 130 #[.pointer (some ⟨b4, o1, none⟩),
  .pointer (some ⟨m, 0, none⟩)] w fun v17 w => OpN v17 fun b5 o2 => Hld (S w) (DoV Tryz.prog (Instr.buildSlice 49 1 #[(0, .pointer (some ⟨b5, o2, none⟩))]) w fun v18 w =>
  OpS v18 fun p2 l2 c2 => Hld (S w) (DoV Tryz.prog (Builtin.append_ #[49, 49] 49 #[.slice p1 l1 c1, .slice p2 l2 c2]) w fun v19 w => OpS v19 fun p3 l3 c3 => Hld (S w) (StV
  b2 3 (.slice p3 l3 c3) w fun w => K1 (IntKind.wrap .i64 (s1.1 + 1), ()) w))))) (0, ()) w) (LdA 4 b2 0 (At w) fun cs7 => StA 4 b1 0 cs7 w fun w => LdA 4 b1 0 (At w) fun cs8
  => Ret [] (R (.tuple #[.agg cs8, .int .i64 0]) w))) (0, ()) w)
theorem C_stripe_New {g : Array Value} {m : Nat} {w : World} {R : Value → World → Prop} (h : F_stripe_New g m w R) : CallV Tryz.prog 53 #[.agg g, .pointer (some ⟨m, 0, none⟩)] w R := by
  exact calls_of_F (args := [.agg g, .pointer (some ⟨m, 0, none⟩)]) (mkAnn [(9, [(30, (.int .i64))]), (12, [(39, (.int .i64))])] [] [] [] [54, 100027, 100035, 100054, 300000]) Tryz_mixed Tryz.func53 rfl rfl (by kernel_rfl) h
def F_stripe_Check (s : Array Value) (w : World) (R : Value → World → Prop) : Prop :=
  Alc 51 s w fun b w => LdA 3 b 0 (At w) fun cs => CallV Tryz.prog 128 #[.agg cs] w fun v w => T2 v fun v1 v2 => OpI .i64 v1 fun n => OpI .i64 v2 fun n1 => Cb (n1 != 0) (Ret
  [] (R (.int .i64 1) w)) (LdV b 3 (At w) fun v3 => OpS v3 fun p l c => LdV b 0 (At w) fun v4 => OpI .i64 v4 fun n2 => Cb (((l : Nat) : Int) != n2) (Ret [] (R (.int .i64 1)
  w)) (LdV b 3 (At w) fun v5 => OpS v5 fun p1 l1 c1 => LoopC (σ := Int × Unit) (fun _ s1 w K1 => Cb (decide (s1.1 < ((l1 : Nat) : Int))) (IdxS p1 l1 s1.1 1 fun b1 o => LdV
  b1 o (At w) fun v6 => OpN v6 fun b2 o1 => CallV Tryz.prog 119 #[.pointer (some ⟨b2, o1, none⟩)] w fun v7 w => OpI .i64 v7 fun n3 => Cb (n3 != n) (Ret [] (R (.int .i64 1)
  w)) (LdV b 3 (At w) fun v8 => OpS v8 fun p2 l2 c2 => Slc l2 c2 none (some s1.1) none fun l3 h m => LoopC (σ := Int × Unit) (fun _ s2 w K2 => Cb (decide (s2.1 < ((h - l3 :
  Nat) : Int))) (IdxS (slcP 1 l3 m p2) (h - l3) s2.1 1 fun b3 o2 => LdV b3 o2 (At w) fun v9 => OpN v9 fun b4 o3 => EqB Tryz.prog .eql 111 (.tmp 51) (.tmp 52) (.pointer (some
  ⟨b4, o3, none⟩) : Value) (.pointer (some ⟨b2, o1, none⟩) : Value) (At w) fun g => Cb g (Ret [] (R (.int .i64 1) w)) (K2 (IntKind.wrap .i64 (s2.1 + 1), ()) w)) (K1
  (IntKind.wrap .i64 (s1.1 + 1), ()) w)) (0, ()) w)) (Ret [] (R (.int .i64 0) w))) (0, ()) w))
theorem C_stripe_Check {s : Array Value} {w : World} {R : Value → World → Prop} (h : F_stripe_Check s w R) : CallV Tryz.prog 93 #[.agg s] w R := by
  exact calls_of_F (args := [.agg s]) (mkAnn [(5, [(29, (.int .i64))]), (10, [(47, (.int .i64))])] [] [] [] []) Tryz_mixed Tryz.func93 rfl rfl (by kernel_rfl) h
def F_stripe_cell (s : Array Value) (p : Array Value) (w : World) (R : Value → World → Prop) : Prop :=
  Alc 51 s w fun b w => Alc 84 p w fun b1 w => Alc 37 (zc Tryz.prog 37) w fun b2 w => HeldR w fun S w => LdV b 3 S fun v => OpS v fun p1 l c => LdV b1 0 S fun v1 => OpI .i64
  v1 fun n => IdxS p1 l n 1 fun b3 o => LdV b3 o S fun v2 => OpN v2 fun b4 o1 => LdV b1 1 S fun v3 => OpI .i64 v3 fun n1 => (CallV Tryz.prog 175 #[.pointer (some ⟨b4, o1,
  none⟩), .int .i64 n1] w fun v4 w => T2 v4 fun v5 v6 => OpA 17 v5 fun cs => OpI .i64 v6 fun n2 => Hld (S w) (Alc 86 (zc Tryz.prog 86) w fun b5 w => Hld (S w) (StA 17 b5 0
  cs w fun w => Hld (S w) (Cb (n2 == 4) (DoQ Tryz.prog (Instr.build 37 #[]) (At w) fun v7 => OpA 16 v7 fun cs1 => StA 16 b2 0 cs1 w fun w => LdA 16 b2 0 (At w) fun cs2 =>
  Ret [] (R (.tuple #[.agg cs2, .bool false, .int .i64 n2]) w)) (Cb (n2 != 0) (DoQ Tryz.prog (Instr.build 37 #[]) (At w) fun v8 => OpA 16 v8 fun cs3 => StA 16 b2 0 cs3 w fun
  w => LdA 16 b2 0 (At w) fun cs4 => Ret [] (R (.tuple #[.agg cs4, .bool false, .int .i64 0]) w)) (LdV b1 1 (At w) fun v9 => OpI .i64 v9 fun n3 => LdA 17 b5 0 (At w) fun cs5
  => CallV Tryz.prog 176 #[.int .i64 n3, .agg cs5] w fun v10 w => OpB v10 fun g => Cb (!g) (DoQ Tryz.prog (Instr.build 37 #[]) (At w) fun v11 => OpA 16 v11 fun cs6 => StA 16
  b2 0 cs6 w fun w => LdA 16 b2 0 (At w) fun cs7 => Ret [] (R (.tuple #[.agg cs7, .bool false, .int .i64 0]) w)) (LdA 16 b5 0 (At w) fun cs8 => StA 16 b2 0 cs8 w fun w =>
  LdA 16 b2 0 (At w) fun cs9 => Ret [] (R (.tuple #[.agg cs9, .bool true, .int .i64 0]) w)))))))) ∧ (Alc 86 (zc Tryz.prog 86) w fun b6 w => Hld (S w) (CallV Tryz.prog 175
  #[.pointer (some ⟨b4, o1, none⟩), .int .i64 n1] w fun v12 w => T2 v12 fun v13 v14 => OpA 17 v13 fun cs10 => OpI .i64 v14 fun n4 => Hld (S w) (StA 17 b6 0 cs10 w fun w =>
  Hld (S w) (Cb (n4 == 4) (DoQ Tryz.prog (Instr.build 37 #[]) (At w) fun v15 => OpA 16 v15 fun cs11 => StA 16 b2 0 cs11 w fun w => LdA 16 b2 0 (At w) fun cs12 => Ret [] (R
  (.tuple #[.agg cs12, .bool false, .int .i64 n4]) w)) (Cb (n4 != 0) (DoQ Tryz.prog (Instr.build 37 #[]) (At w) fun v16 => OpA 16 v16 fun cs13 => StA 16 b2 0 cs13 w fun w =>
  LdA 16 b2 0 (At w) fun cs14 => Ret [] (R (.tuple #[.agg cs14, .bool false, .int .i64 0]) w)) (LdV b1 1 (At w) fun v17 => OpI .i64 v17 fun n5 => LdA 17 b6 0 (At w) fun cs15
  => CallV Tryz.prog 176 #[.int .i64 n5, .agg cs15] w fun v18 w => OpB v18 fun g1 => Cb (!g1) (DoQ Tryz.prog (Instr.build 37 #[]) (At w) fun v19 => OpA 16 v19 fun cs16 =>
  StA 16 b2 0 cs16 w fun w => LdA 16 b2 0 (At w) fun cs17 => Ret [] (R (.tuple #[.agg cs17, .bool false, .int .i64 0]) w)) (LdA 16 b6 0 (At w) fun cs18 => StA 16 b2 0 cs18 w
  fun w => LdA 16 b2 0 (At w) fun cs19 => Ret [] (R (.tuple #[.agg cs19, .bool true, .int .i64 0]) w))))))))
theorem C_stripe_cell {s : Array Value} {p : Array Value} {w : World} {R : Value → World → Prop} (h : F_stripe_cell s p w R) : CallV Tryz.prog 106 #[.agg s, .agg p] w R := by
  exact calls_of_F (args := [.agg s, .agg p]) (mkAnn [] [] [] [] [18]) Tryz_mixed Tryz.func106 rfl rfl (by kernel_rfl) h
def F_stripe_Row (s : Array Value) (stripe : Int) (off : Int) (w : World) (R : Value → World → Prop) : Prop :=
  Alc 51 s w fun b w => LdA 4 b 0 (At w) fun cs => CallV Tryz.prog 93 #[.agg cs] w fun v w => OpI .i64 v fun n => Cb (n != 0) (Ret [] (R (.tuple #[.slice none 0 0, .slice
  none 0 0, .int .i64 n]) w)) (LdA 3 b 0 (At w) fun cs1 => CallV Tryz.prog 109 #[.agg cs1, .int .i64 stripe, .int .i64 off] w fun v1 w => T2 v1 fun v2 v3 => OpS v2 fun p l c
  => OpI .i64 v3 fun n1 => Cb (n1 != 0) (Ret [] (R (.tuple #[.slice none 0 0, .slice none 0 0, .int .i64 n1]) w)) (DoV Tryz.prog (Instr.makeSlice 187 (.int .i64 ((l : Nat) :
  Int)) (.int .i64 ((l : Nat) : Int))) w fun v4 w => OpS v4 fun p1 l1 c1 => LoopC (σ := (Option Addr × Nat × Nat) × (Option Addr × Nat × Nat) × Int × Unit) (fun _ s1 w K1 =>
  Cb (decide (s1.2.2.1 < ((l : Nat) : Int))) (IdxS p l s1.2.2.1 2 fun b1 o => LdA 2 b1 o (At w) fun cs2 => Alc 84 (zc Tryz.prog 84) w fun b2 w => StA 2 b2 0 cs2 w fun w =>
  LdA 4 b 0 (At w) fun cs3 => LdA 2 b2 0 (At w) fun cs4 => CallV Tryz.prog 106 #[.agg cs3, .agg cs4] w fun v5 w => T3 v5 fun v6 v7 v8 => OpA 16 v6 fun cs5 => OpB v7 fun g =>
  OpI .i64 v8 fun n2 => Alc 37 (zc Tryz.prog 37) w fun b3 w => StA 16 b3 0 cs5 w fun w => Cb (n2 != 0) (Ret [] (R (.tuple #[.slice none 0 0, .slice none 0 0, .int .i64 n2])
  w)) (Cb g (Slc 16 16 none none none fun l2 h m => IdxS p1 l1 s1.2.2.1 1 fun b4 o1 => StV b4 o1 (.slice (slcP 1 l2 m (some ⟨b3, 0, none⟩)) (h - l2) (m - l2)) w fun w => K1
  ((s1.1.1, s1.1.2.1, s1.1.2.2), ((s1.2.1.1, s1.2.1.2.1, s1.2.1.2.2), (IntKind.wrap .i64 (s1.2.2.1 + 1), ()))) w) (DoV Tryz.prog (Instr.buildSlice 69 1 #[(0, .int .i64
  s1.2.2.1)]) w fun v9 w => OpS v9 fun p2 l3 c2 => DoV Tryz.prog (Builtin.append_ #[69, 69] 69 #[.slice s1.2.1.1 s1.2.1.2.1 s1.2.1.2.2, .slice p2 l3 c2]) w fun v10 w => OpS
  v10 fun p3 l4 c3 => K1 ((s1.1.1, s1.1.2.1, s1.1.2.2), ((p3, l4, c3), (IntKind.wrap .i64 (s1.2.2.1 + 1), ()))) w))) (Cb (decide (((s1.2.1.2.1 : Nat) : Int) > 2)) (Ret [] (R
  (.tuple #[.slice none 0 0, .slice none 0 0, .int .i64 8]) w)) (HeldR w fun S w => Slc l1 c1 none (some (IntKind.wrap .i64 (((l1 : Nat) : Int) - 2))) none fun l5 h1 m1 =>
  IdxS p1 l1 (IntKind.wrap .i64 (((l1 : Nat) : Int) - 2)) 1 fun b5 o2 => LdV b5 o2 (At w) fun v11 => OpS v11 fun p4 l6 c4 => IdxS p1 l1 (IntKind.wrap .i64 ((IntKind.wrap
  .i64 (((l1 : Nat) : Int) - 2)) + 1)) 1 fun b6 o3 => LdV b6 o3 (At w) fun v12 => OpS v12 fun p5 l7 c5 => CallV Tryz.prog 110 #[.slice (slcP 1 l5 m1 p1) (h1 - l5) (m1 - l5),
  .slice p4 l6 c4, .slice p5 l7 c5] w fun v13 w => T4 v13 fun v14 v15 v16 v17 => OpS v14 fun p6 l8 c6 => OpS v15 fun p7 l9 c7 => OpS v16 fun p8 l10 c8 => OpI .i64 v17 fun n3
  => Hld (S w) (DoV Tryz.prog (Instr.buildSlice 187 2 #[(0, .slice p7 l9 c7), (1, .slice p8 l10 c8)]) w fun v18 w => OpS v18 fun p9 l11 c9 => DoV Tryz.prog (Builtin.append_
  #[187, 187] 187 #[.slice p6 l8 c6, .slice p9 l11 c9]) w fun v19 w => OpS v19 fun p10 l12 c10 => LoopC (σ := (Option Addr × Nat × Nat) × Int × Unit) (fun _ s2 w K2 => Cb
  (decide (s2.2.1 < ((l12 : Nat) : Int))) (IdxS p10 l12 s2.2.1 1 fun b7 o4 => LdV b7 o4 (At w) fun v20 => OpS v20 fun p11 l13 c11 => SlArr p11 l13 16 fun b8 o5 => LdA 16 b8
  o5 (At w) fun cs6 => DoV Tryz.prog (Instr.buildSlice 32 1 #[(0, .agg cs6)]) w fun v21 w => OpS v21 fun p12 l14 c12 => DoV Tryz.prog (Builtin.append_ #[32, 32] 32 #[.slice
  s2.1.1 s2.1.2.1 s2.1.2.2, .slice p12 l14 c12]) w fun v22 w => OpS v22 fun p13 l15 c13 => K2 ((p13, l15, c13), (IntKind.wrap .i64 (s2.2.1 + 1), ())) w) (Ret [] (R (.tuple
  #[.slice s2.1.1 s2.1.2.1 s2.1.2.2, .slice s1.2.1.1 s1.2.1.2.1 s1.2.1.2.2, .int .i64 0]) w))) ((s1.1.1, s1.1.2.1, s1.1.2.2), (0, ())) w)))) ((none, 0, 0), ((none, 0, 0),
  (0, ()))) w))
theorem C_stripe_Row {s : Array Value} {stripe : Int} {off : Int} {w : World} {R : Value → World → Prop} (h : F_stripe_Row s stripe off w R) : CallV Tryz.prog 31 #[.agg s, .int .i64 stripe, .int .i64 off] w R := by
  exact calls_of_F (args := [.agg s, .int .i64 stripe, .int .i64 off]) (mkAnn [(9, [(6, .slice), (7, .slice), (45, (.int .i64))]), (23, [(6, .slice), (102, (.int .i64))])] [] [] [] [91]) Tryz_mixed Tryz.func31 rfl rfl (by kernel_rfl) h
def F_stripe_Read (s : Array Value) (lba : Int) (w : World) (R : Value → World → Prop) : Prop :=
  Alc 51 s w fun b w => Alc 37 (zc Tryz.prog 37) w fun b1 w => LdA 4 b 0 (At w) fun cs => CallV Tryz.prog 93 #[.agg cs] w fun v w => OpI .i64 v fun n => Cb (n != 0) (DoQ
  Tryz.prog (Instr.build 37 #[]) (At w) fun v1 => OpA 16 v1 fun cs1 => StA 16 b1 0 cs1 w fun w => LdA 16 b1 0 (At w) fun cs2 => Ret [] (R (.tuple #[.agg cs2, .int .i64 n])
  w)) (LdA 3 b 0 (At w) fun cs3 => CallV Tryz.prog 105 #[.agg cs3, .int .i64 lba] w fun v2 w => T3 v2 fun v3 v4 v5 => OpA 3 v3 fun cs4 => OpA 2 v4 fun cs5 => OpI .i64 v5 fun
  n1 => Alc 177 (zc Tryz.prog 177) w fun b2 w => Alc 84 (zc Tryz.prog 84) w fun b3 w => StA 3 b2 0 cs4 w fun w => StA 2 b3 0 cs5 w fun w => Cb (n1 != 0) (DoQ Tryz.prog
  (Instr.build 37 #[]) (At w) fun v6 => OpA 16 v6 fun cs6 => StA 16 b1 0 cs6 w fun w => LdA 16 b1 0 (At w) fun cs7 => Ret [] (R (.tuple #[.agg cs7, .int .i64 n1]) w)) (LdA 4
  b 0 (At w) fun cs8 => LdA 2 b3 0 (At w) fun cs9 => CallV Tryz.prog 106 #[.agg cs8, .agg cs9] w fun v7 w => T3 v7 fun v8 v9 v10 => OpA 16 v8 fun cs10 => OpB v9 fun g => OpI
  .i64 v10 fun n2 => Alc 37 (zc Tryz.prog 37) w fun b4 w => StA 16 b4 0 cs10 w fun w => Req (g = g) (Req (g = g) (Cb (cond g true (n2 != 0)) (LdA 16 b4 0 (At w) fun cs11 =>
  StA 16 b1 0 cs11 w fun w => LdA 16 b1 0 (At w) fun cs12 => Ret [] (R (.tuple #[.agg cs12, .int .i64 n2]) w)) (LdA 4 b 0 (At w) fun cs13 => LdV b2 0 (At w) fun v11 => OpI
  .i64 v11 fun n3 => LdV b2 2 (At w) fun v12 => OpI .i64 v12 fun n4 => CallV Tryz.prog 31 #[.agg cs13, .int .i64 n3, .int .i64 n4] w fun v13 w => T3 v13 fun v14 v15 v16 =>
  OpS v14 fun p l c => OpS v15 fun p1 l1 c1 => OpI .i64 v16 fun n5 => Cb (n5 != 0) (DoQ Tryz.prog (Instr.build 37 #[]) (At w) fun v17 => OpA 16 v17 fun cs14 => StA 16 b1 0
  cs14 w fun w => LdA 16 b1 0 (At w) fun cs15 => Ret [] (R (.tuple #[.agg cs15, .int .i64 n5]) w)) (LdV b2 1 (At w) fun v18 => OpI .i64 v18 fun n6 => IdxS p l n6 16 fun b5 o
  => LdA 16 b5 o (At w) fun cs16 => StA 16 b1 0 cs16 w fun w => LdA 16 b1 0 (At w) fun cs17 => Ret [] (R (.tuple #[.agg cs17, .int .i64 0]) w)))))))
theorem C_stripe_Read {s : Array Value} {lba : Int} {w : World} {R : Value → World → Prop} (h : F_stripe_Read s lba w R) : CallV Tryz.prog 29 #[.agg s, .int .i64 lba] w R := by
  exact calls_of_F (args := [.agg s, .int .i64 lba]) (mkAnn [] [] [] [] []) Tryz_mixed Tryz.func29 rfl rfl (by kernel_rfl) h
def F_stripe_Plan (s : Array Value) (lba : Int) (data : Array Value) (w : World) (R : Value → World → Prop) : Prop :=
  Alc 51 s w fun b w => Alc 37 data w fun b1 w => LdA 4 b 0 (At w) fun cs => CallV Tryz.prog 93 #[.agg cs] w fun v w => OpI .i64 v fun n => Cb (n != 0) (Ret [] (R (.tuple
  #[.slice none 0 0, .int .i64 n]) w)) (LdA 3 b 0 (At w) fun cs1 => CallV Tryz.prog 105 #[.agg cs1, .int .i64 lba] w fun v1 w => T3 v1 fun v2 v3 v4 => OpA 3 v2 fun cs2 =>
  OpA 2 v3 fun cs3 => OpI .i64 v4 fun n1 => Alc 177 (zc Tryz.prog 177) w fun b2 w => Alc 84 (zc Tryz.prog 84) w fun b3 w => StA 3 b2 0 cs2 w fun w => StA 2 b3 0 cs3 w fun w
  => Cb (n1 != 0) (Ret [] (R (.tuple #[.slice none 0 0, .int .i64 n1]) w)) (LdA 4 b 0 (At w) fun cs4 => LdV b2 0 (At w) fun v5 => OpI .i64 v5 fun n2 => LdV b2 2 (At w) fun
  v6 => OpI .i64 v6 fun n3 => CallV Tryz.prog 31 #[.agg cs4, .int .i64 n2, .int .i64 n3] w fun v7 w => T3 v7 fun v8 v9 v10 => OpS v8 fun p l c => OpS v9 fun p1 l1 c1 => OpI
  .i64 v10 fun n4 => Cb (n4 != 0) (Ret [] (R (.tuple #[.slice none 0 0, .int .i64 n4]) w)) (LdV b2 1 (At w) fun v11 => OpI .i64 v11 fun n5 => LdA 16 b1 0 (At w) fun cs5 =>
  IdxS p l n5 16 fun b4 o => StA 16 b4 o cs5 w fun w => LoopC (σ := (Option Addr × Nat × Nat) × Int × Unit) (fun _ s1 w K1 => Cb (decide (s1.2.1 < IntKind.wrap .i64 (((l :
  Nat) : Int) - 2))) (IdxS p l s1.2.1 16 fun b5 o1 => Slc 16 16 none none none fun l2 h m => DoV Tryz.prog (Instr.buildSlice 187 1 #[(0, .slice (slcP 1 l2 m (some ⟨b5, o1,
  none⟩)) (h - l2) (m - l2))]) w fun v12 w => OpS v12 fun p2 l3 c2 => DoV Tryz.prog (Builtin.append_ #[187, 187] 187 #[.slice s1.1.1 s1.1.2.1 s1.1.2.2, .slice p2 l3 c2]) w
  fun v13 w => OpS v13 fun p3 l4 c3 => K1 ((p3, l4, c3), (IntKind.wrap .i64 (s1.2.1 + 1), ())) w) (CallV Tryz.prog 115 #[.slice s1.1.1 s1.1.2.1 s1.1.2.2] w fun v14 w => T3
  v14 fun v15 v16 v17 => OpS v15 fun p4 l5 c4 => OpS v16 fun p5 l6 c5 => OpI .i64 v17 fun n6 => HeldR w fun S w => SlArr p4 l5 16 fun b6 o2 => LdA 16 b6 o2 (At w) fun cs6 =>
  SlArr p5 l6 16 fun b7 o3 => LdA 16 b7 o3 (At w) fun cs7 => IdxS p l (IntKind.wrap .i64 (((l : Nat) : Int) - 2)) 16 fun b8 o4 => StA 16 b8 o4 cs6 w fun w => Hld (S w) (IdxS
  p l (IntKind.wrap .i64 ((IntKind.wrap .i64 (((l : Nat) : Int) - 2)) + 1)) 16 fun b9 o5 => StA 16 b9 o5 cs7 w fun w => Hld (S w) (LdA 3 b 0 (At w) fun cs8 => LdV b2 0 (At
  w) fun v18 => OpI .i64 v18 fun n7 => LdV b2 2 (At w) fun v19 => OpI .i64 v19 fun n8 => CallV Tryz.prog 109 #[.agg cs8, .int .i64 n7, .int .i64 n8] w fun v20 w => T2 v20
  fun v21 v22 => OpS v21 fun p6 l7 c6 => OpI .i64 v22 fun n9 => LdV b2 1 (At w) fun v23 => OpI .i64 v23 fun n10 => DoV Tryz.prog (Instr.buildSlice 69 3 #[(0, .int .i64 n10),
  (1, .int .i64 (IntKind.wrap .i64 (((l : Nat) : Int) - 2))), (2, .int .i64 (IntKind.wrap .i64 ((IntKind.wrap .i64 (((l : Nat) : Int) - 2)) + 1)))]) w fun v24 w => OpS v24
  fun p7 l8 c7 => LoopC (σ := (Option Addr × Nat × Nat) × Int × Unit) (fun _ s2 w K2 => Cb (decide (s2.2.1 < ((l8 : Nat) : Int))) (IdxS p7 l8 s2.2.1 1 fun b10 o6 => LdV b10
  o6 (At w) fun v25 => OpI .i64 v25 fun n11 => IdxS p6 l7 n11 2 fun b11 o7 => LdA 2 b11 o7 (At w) fun cs9 => Alc 84 (zc Tryz.prog 84) w fun b12 w => StA 2 b12 0 cs9 w fun w
  => LdV b 3 (At w) fun v26 => OpS v26 fun p8 l9 c8 => LdV b12 0 (At w) fun v27 => OpI .i64 v27 fun n12 => IdxS p8 l9 n12 1 fun b13 o8 => LdV b13 o8 (At w) fun v28 => OpN
  v28 fun b14 o9 => CallV Tryz.prog 87 #[.pointer (some ⟨b14, o9, none⟩)] w fun v29 w => OpB v29 fun g => Cb g (HeldR w fun S w => LdA 2 b12 0 S fun cs10 => LdV b12 1 S fun
  v30 => OpI .i64 v30 fun n13 => IdxS p l n11 16 fun b15 o10 => LdA 16 b15 o10 S fun cs11 => CallV Tryz.prog 116 #[.int .i64 n13, .agg cs11] w fun v31 w => OpA 17 v31 fun
  cs12 => Hld (S w) (DoQ Tryz.prog (Instr.build 88 #[(0, .agg cs10), (1, .agg cs12)]) S fun v32 => OpA 19 v32 fun cs13 => DoV Tryz.prog (Instr.buildSlice 75 1 #[(0, .agg
  cs13)]) w fun v33 w => OpS v33 fun p9 l10 c9 => Hld (S w) (DoV Tryz.prog (Builtin.append_ #[75, 75] 75 #[.slice s2.1.1 s2.1.2.1 s2.1.2.2, .slice p9 l10 c9]) w fun v34 w =>
  OpS v34 fun p10 l11 c10 => Hld (S w) (K2 ((p10, l11, c10), (IntKind.wrap .i64 (s2.2.1 + 1), ())) w)))) (K2 ((s2.1.1, s2.1.2.1, s2.1.2.2), (IntKind.wrap .i64 (s2.2.1 + 1),
  ())) w)) (Ret [] (R (.tuple #[.slice s2.1.1 s2.1.2.1 s2.1.2.2, .int .i64 0]) w))) ((none, 0, 0), (0, ())) w)))) ((none, 0, 0), (0, ())) w)))
theorem C_stripe_Plan {s : Array Value} {lba : Int} {data : Array Value} {w : World} {R : Value → World → Prop} (h : F_stripe_Plan s lba data w R) : CallV Tryz.prog 35 #[.agg s, .int .i64 lba, .agg data] w R := by
  exact calls_of_F (args := [.agg s, .int .i64 lba, .agg data]) (mkAnn [(14, [(15, .slice), (64, (.int .i64))]), (23, [(22, .slice), (111, (.int .i64))])] [] [] [] [134]) Tryz_mixed Tryz.func35 rfl rfl (by kernel_rfl) h
def F_stripe_Apply (s : Array Value) (putsp : Option Addr) (putsl : Nat) (putsc : Nat) (epoch : Int) (w : World) (R : Value → World → Prop) : Prop :=
  Alc 51 s w fun b w => LdA 4 b 0 (At w) fun cs => CallV Tryz.prog 93 #[.agg cs] w fun v w => OpI .i64 v fun n => Cb (n != 0) (Ret [] (R (.int .i64 n) w)) (LoopC (σ := Int ×
  Unit) (fun _ s1 w K1 => Cb (decide (s1.1 < ((putsl : Nat) : Int))) (IdxS putsp putsl s1.1 19 fun b1 o => LdA 19 b1 o (At w) fun cs1 => Alc 88 (zc Tryz.prog 88) w fun b2 w
  => StA 19 b2 0 cs1 w fun w => LdV b2 0 (At w) fun v1 => OpI .i64 v1 fun n1 => Cb (decide (n1 < 0)) (Drw w fun w => Ret [] (R (.int .i64 2) w)) (LdV b2 0 (At w) fun v2 =>
  OpI .i64 v2 fun n2 => LdV b 3 (At w) fun v3 => OpS v3 fun p l c => Cb (decide (n2 ≥ ((l : Nat) : Int))) (Drw w fun w => Ret [] (R (.int .i64 2) w)) (LdV b2 1 (At w) fun v4
  => OpI .i64 v4 fun n3 => Cb (decide (n3 < 0)) (Drw w fun w => Ret [] (R (.int .i64 2) w)) (LdV b2 1 (At w) fun v5 => OpI .i64 v5 fun n4 => LdV b 3 (At w) fun v6 => OpS v6
  fun p1 l1 c1 => IdxS p1 l1 0 1 fun b3 o1 => LdV b3 o1 (At w) fun v7 => OpN v7 fun b4 o2 => CallQ Tryz.prog 119 #[.pointer (some ⟨b4, o2, none⟩)] (At w) fun v8 => OpI .i64
  v8 fun n5 => Drw w fun w => Cb (decide (n4 ≥ n5)) (Ret [] (R (.int .i64 2) w)) (K1 (IntKind.wrap .i64 (s1.1 + 1), ()) w))))) (LoopC (σ := Int × Unit) (fun _ s2 w K2 => Cb
  (decide (s2.1 < ((putsl : Nat) : Int))) (IdxS putsp putsl s2.1 19 fun b5 o3 => LdA 19 b5 o3 (At w) fun cs2 => Alc 88 (zc Tryz.prog 88) w fun b6 w => StA 19 b6 0 cs2 w fun
  w => HeldR w fun S w => LdV b 3 S fun v9 => OpS v9 fun p2 l2 c2 => LdV b6 0 S fun v10 => OpI .i64 v10 fun n6 => IdxS p2 l2 n6 1 fun b7 o4 => LdV b7 o4 S fun v11 => OpN v11
  fun b8 o5 => LdV b6 1 S fun v12 => OpI .i64 v12 fun n7 => LdA 17 b6 2 S fun cs3 => DoV Tryz.prog (Instr.buildSlice 167 1 #[(0, .agg cs3)]) w fun v13 w => OpS v13 fun p3 l3
  c3 => Hld (S w) (CallV Tryz.prog 120 #[.pointer (some ⟨b8, o5, none⟩), .int .i64 n7, .slice p3 l3 c3, .int .u32 epoch] w fun v14 w => T2 v14 fun v15 v16 => OpI .i64 v15
  fun n8 => OpI .i64 v16 fun n9 => Hld (S w) (Req ((n9 != 0) = (n9 != 0)) (Req ((n9 != 0) = (n9 != 0)) (Cb (cond (n9 != 0) (n9 != 5) false) (Ret [] (R (.int .i64 n9) w)) (K2
  (IntKind.wrap .i64 (s2.1 + 1), ()) w)))))) (Ret [] (R (.int .i64 0) w))) (0, ()) w)) (0, ()) w)
theorem C_stripe_Apply {s : Array Value} {putsp : Option Addr} {putsl : Nat} {putsc : Nat} {epoch : Int} {w : World} {R : Value → World → Prop} (h : F_stripe_Apply s putsp putsl putsc epoch w R) : CallV Tryz.prog 38 #[.agg s, .slice putsp putsl putsc, .int .u32 epoch] w R := by
  exact calls_of_F (args := [.agg s, .slice putsp putsl putsc, .int .u32 epoch]) (mkAnn [(5, [(21, (.int .i64))]), (11, [(58, (.int .i64))])] [] [] [] [77]) Tryz_mixed Tryz.func38 rfl rfl (by kernel_rfl) h
def F_stripe_Key (s : Array Value) (w : World) (R : Value → World → Prop) : Prop :=
  Alc 51 s w fun b w => LdA 4 b 0 (At w) fun cs => CallV Tryz.prog 93 #[.agg cs] w fun v w => OpI .i64 v fun n => Cb (n != 0) (Ret [] (R (.int .u32 0) w)) (LdV b 3 (At w)
  fun v1 => OpS v1 fun p l c => LoopC (σ := Int × Int × Unit) (fun _ s1 w K1 => Cb (decide (s1.2.1 < ((l : Nat) : Int))) (IdxS p l s1.2.1 1 fun b1 o => LdV b1 o (At w) fun
  v2 => OpN v2 fun b2 o1 => CallV Tryz.prog 87 #[.pointer (some ⟨b2, o1, none⟩)] w fun v3 w => OpB v3 fun g => Cb g (CallV Tryz.prog 125 #[.pointer (some ⟨b2, o1, none⟩)] w
  fun v4 w => OpI .u32 v4 fun n1 => DoQ Tryz.prog (Builtin.max_ #[62, 62] 62 #[.int .u32 s1.1, .int .u32 n1]) (At w) fun v5 => OpI .u32 v5 fun n2 => K1 (n2, (IntKind.wrap
  .i64 (s1.2.1 + 1), ())) w) (K1 (s1.1, (IntKind.wrap .i64 (s1.2.1 + 1), ())) w)) (Ret [] (R (.int .u32 s1.1) w))) (0, (0, ())) w)
theorem C_stripe_Key {s : Array Value} {w : World} {R : Value → World → Prop} (h : F_stripe_Key s w R) : CallV Tryz.prog 42 #[.agg s] w R := by
  exact calls_of_F (args := [.agg s]) (mkAnn [(5, [(3, (.int .u32)), (12, (.int .i64))])] [] [] [] []) Tryz_mixed Tryz.func42 rfl rfl (by kernel_rfl) h
def F_stripe_Fence (s : Array Value) (epoch : Int) (w : World) (R : Value → World → Prop) : Prop :=
  Alc 51 s w fun b w => LdA 4 b 0 (At w) fun cs => CallV Tryz.prog 93 #[.agg cs] w fun v w => OpI .i64 v fun n => Cb (n != 0) (Ret [] (R (.int .i64 n) w)) (LdV b 3 (At w)
  fun v1 => OpS v1 fun p l c => LoopC (σ := Int × Unit) (fun _ s1 w K1 => Cb (decide (s1.1 < ((l : Nat) : Int))) (IdxS p l s1.1 1 fun b1 o => LdV b1 o (At w) fun v2 => OpN
  v2 fun b2 o1 => CallV Tryz.prog 123 #[.pointer (some ⟨b2, o1, none⟩), .int .u32 epoch] w fun v3 w => OpI .i64 v3 fun n1 => Cb (n1 == 4) (Ret [] (R (.int .i64 n1) w)) (K1
  (IntKind.wrap .i64 (s1.1 + 1), ()) w)) (Ret [] (R (.int .i64 0) w))) (0, ()) w)
theorem C_stripe_Fence {s : Array Value} {epoch : Int} {w : World} {R : Value → World → Prop} (h : F_stripe_Fence s epoch w R) : CallV Tryz.prog 40 #[.agg s, .int .u32 epoch] w R := by
  exact calls_of_F (args := [.agg s, .int .u32 epoch]) (mkAnn [(5, [(17, (.int .i64))])] [] [] [] []) Tryz_mixed Tryz.func40 rfl rfl (by kernel_rfl) h
end Go.Proofs
