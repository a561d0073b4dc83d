/- PRINTED BY pr.py (own program): what the evaluator of <Name>Ev makes of the code of some functions. -/
import Derived.Test.YthhimblbnnafkaaGreatChecked
import Derived.Test.YthhimblbnnafkaaGreatEv
import Derived.Test.YthhimblbnnafkaaGreatMix
namespace Go.Proofs
open Go.Ev
set_option linter.unusedVariables false
set_option maxRecDepth 100000
def F_slices_Grow_Record (sp : Option Addr) (sl : Nat) (sc : Nat) (n : Int) (w : World) (R : Value → World → Prop) : Prop :=
  Cb (decide (n < 0)) (False) (Cb (decide (IntKind.wrap .i64 (n - (IntKind.wrap .i64 (((sc : Nat) : Int) - ((sl : Nat) : Int)))) > 0)) (Slc sl sc none (some ((sc : Nat) :
  Int)) none fun l h m => DoV Tryz.prog (Builtin.append_ #[113, 3] 113 #[.slice (slcP 19 l m sp) (h - l) (m - l), .int .i64 (IntKind.wrap .i64 (n - (IntKind.wrap .i64 (((sc
  : Nat) : Int) - ((sl : Nat) : Int)))))]) w fun v w => OpS v fun p l1 c => Slc l1 c none (some ((sl : Nat) : Int)) none fun l2 h1 m1 => Ret [] (R (.slice (slcP 19 l2 m1 p)
  (h1 - l2) (m1 - l2)) w)) (Ret [] (R (.slice sp sl sc) w)))
theorem C_slices_Grow_Record {sp : Option Addr} {sl : Nat} {sc : Nat} {n : Int} {w : World} {R : Value → World → Prop} (h : F_slices_Grow_Record sp sl sc n w R) : CallV Tryz.prog 249 #[.slice sp sl sc, .int .i64 n] w R := by
  exact calls_of_F (args := [.slice sp sl sc, .int .i64 n]) (mkAnn [] [] [] [] []) Tryz_mixed Tryz.func249 rfl rfl (by kernel_rfl) h
def F_slices_Concat_Record (slicesp : Option Addr) (slicesl : Nat) (slicesc : Nat) (w : World) (R : Value → World → Prop) : Prop :=
  LoopC (σ := Int × Int × Unit) (fun _ s1 w K1 => Cb (decide (s1.2.1 < ((slicesl : Nat) : Int))) (IdxS slicesp slicesl s1.2.1 1 fun b o => LdV b o (At w) fun v => OpS v fun
  p l c => Cb (decide (IntKind.wrap .i64 (s1.1 + ((l : Nat) : Int)) < 0)) (False) (K1 (IntKind.wrap .i64 (s1.1 + ((l : Nat) : Int)), (IntKind.wrap .i64 (s1.2.1 + 1), ()))
  w)) (CallV Tryz.prog 249 #[.slice none 0 0, .int .i64 s1.1] w fun v1 w => OpS v1 fun p1 l1 c1 => LoopC (σ := (Option Addr × Nat × Nat) × Int × Unit) (fun _ s2 w K2 => Cb
  (decide (s2.2.1 < ((slicesl : Nat) : Int))) (IdxS slicesp slicesl s2.2.1 1 fun b1 o1 => LdV b1 o1 (At w) fun v2 => OpS v2 fun p2 l2 c2 => DoV Tryz.prog (Builtin.append_
  #[113, 113] 113 #[.slice s2.1.1 s2.1.2.1 s2.1.2.2, .slice p2 l2 c2]) w fun v3 w => OpS v3 fun p3 l3 c3 => K2 ((p3, l3, c3), (IntKind.wrap .i64 (s2.2.1 + 1), ())) w) (Ret
  [] (R (.slice s2.1.1 s2.1.2.1 s2.1.2.2) w))) ((p1, l1, c1), (0, ())) w)) (0, (0, ())) w
theorem C_slices_Concat_Record {slicesp : Option Addr} {slicesl : Nat} {slicesc : Nat} {w : World} {R : Value → World → Prop} (h : F_slices_Concat_Record slicesp slicesl slicesc w R) : CallV Tryz.prog 201 #[.slice slicesp slicesl slicesc] w R := by
  exact calls_of_F (args := [.slice slicesp slicesl slicesc]) (mkAnn [(3, [(3, (.int .i64)), (11, (.int .i64))]), (11, [(6, .slice), (27, (.int .i64))])] [] [] [] []) Tryz_mixed Tryz.func201 rfl rfl (by kernel_rfl) h
def F_bits_Len64 (x : Int) (w : World) (R : Value → World → Prop) : Prop :=
  Cb (decide (x ≥ 4294967296)) (Req (0 ≤ (32 : Int)) (Cb (decide (ishr .u64 x 32 ≥ 65536)) (Req (0 ≤ (16 : Int)) (Cb (decide (ishr .u64 (ishr .u64 x 32) 16 ≥ 256)) (Req (0 ≤
  (8 : Int)) (StrAt (ByteArray.mk #[0, 1, 2, 2, 3, 3, 3, 3, 4, 4, 4, 4, 4, 4, 4, 4, 5, 5, 5, 5, 5, 5, 5, 5, 5, 5, 5, 5, 5, 5, 5, 5, 6, 6, 6, 6, 6, 6, 6, 6, 6, 6, 6, 6, 6, 6,
  6, 6, 6, 6, 6, 6, 6, 6, 6, 6, 6, 6, 6, 6, 6, 6, 6, 6, 7, 7, 7, 7, 7, 7, 7, 7, 7, 7, 7, 7, 7, 7, 7, 7, 7, 7, 7, 7, 7, 7, 7, 7, 7, 7, 7, 7, 7, 7, 7, 7, 7, 7, 7, 7, 7, 7, 7,
  7, 7, 7, 7, 7, 7, 7, 7, 7, 7, 7, 7, 7, 7, 7, 7, 7, 7, 7, 7, 7, 7, 7, 7, 7, 8, 8, 8, 8, 8, 8, 8, 8, 8, 8, 8, 8, 8, 8, 8, 8, 8, 8, 8, 8, 8, 8, 8, 8, 8, 8, 8, 8, 8, 8, 8, 8,
  8, 8, 8, 8, 8, 8, 8, 8, 8, 8, 8, 8, 8, 8, 8, 8, 8, 8, 8, 8, 8, 8, 8, 8, 8, 8, 8, 8, 8, 8, 8, 8, 8, 8, 8, 8, 8, 8, 8, 8, 8, 8, 8, 8, 8, 8, 8, 8, 8, 8, 8, 8, 8, 8, 8, 8, 8,
  8, 8, 8, 8, 8, 8, 8, 8, 8, 8, 8, 8, 8, 8, 8, 8, 8, 8, 8, 8, 8, 8, 8, 8, 8, 8, 8, 8, 8, 8, 8, 8, 8, 8, 8, 8, 8, 8, 8]) (IntKind.wrap .u8 (ishr .u64 (ishr .u64 (ishr .u64 x
  32) 16) 8)) fun c => Ret [] (R (.int .i64 (IntKind.wrap .i64 ((IntKind.wrap .i64 ((IntKind.wrap .i64 (32 + 16)) + 8)) + (IntKind.wrap .i64 c)))) w))) (StrAt (ByteArray.mk
  #[0, 1, 2, 2, 3, 3, 3, 3, 4, 4, 4, 4, 4, 4, 4, 4, 5, 5, 5, 5, 5, 5, 5, 5, 5, 5, 5, 5, 5, 5, 5, 5, 6, 6, 6, 6, 6, 6, 6, 6, 6, 6, 6, 6, 6, 6, 6, 6, 6, 6, 6, 6, 6, 6, 6, 6,
  6, 6, 6, 6, 6, 6, 6, 6, 7, 7, 7, 7, 7, 7, 7, 7, 7, 7, 7, 7, 7, 7, 7, 7, 7, 7, 7, 7, 7, 7, 7, 7, 7, 7, 7, 7, 7, 7, 7, 7, 7, 7, 7, 7, 7, 7, 7, 7, 7, 7, 7, 7, 7, 7, 7, 7, 7,
  7, 7, 7, 7, 7, 7, 7, 7, 7, 7, 7, 7, 7, 7, 7, 8, 8, 8, 8, 8, 8, 8, 8, 8, 8, 8, 8, 8, 8, 8, 8, 8, 8, 8, 8, 8, 8, 8, 8, 8, 8, 8, 8, 8, 8, 8, 8, 8, 8, 8, 8, 8, 8, 8, 8, 8, 8,
  8, 8, 8, 8, 8, 8, 8, 8, 8, 8, 8, 8, 8, 8, 8, 8, 8, 8, 8, 8, 8, 8, 8, 8, 8, 8, 8, 8, 8, 8, 8, 8, 8, 8, 8, 8, 8, 8, 8, 8, 8, 8, 8, 8, 8, 8, 8, 8, 8, 8, 8, 8, 8, 8, 8, 8, 8,
  8, 8, 8, 8, 8, 8, 8, 8, 8, 8, 8, 8, 8, 8, 8, 8, 8, 8, 8, 8, 8, 8, 8, 8, 8, 8, 8, 8, 8]) (IntKind.wrap .u8 (ishr .u64 (ishr .u64 x 32) 16)) fun c1 => Ret [] (R (.int .i64
  (IntKind.wrap .i64 ((IntKind.wrap .i64 (32 + 16)) + (IntKind.wrap .i64 c1)))) w)))) (Cb (decide (ishr .u64 x 32 ≥ 256)) (Req (0 ≤ (8 : Int)) (StrAt (ByteArray.mk #[0, 1,
  2, 2, 3, 3, 3, 3, 4, 4, 4, 4, 4, 4, 4, 4, 5, 5, 5, 5, 5, 5, 5, 5, 5, 5, 5, 5, 5, 5, 5, 5, 6, 6, 6, 6, 6, 6, 6, 6, 6, 6, 6, 6, 6, 6, 6, 6, 6, 6, 6, 6, 6, 6, 6, 6, 6, 6, 6,
  6, 6, 6, 6, 6, 7, 7, 7, 7, 7, 7, 7, 7, 7, 7, 7, 7, 7, 7, 7, 7, 7, 7, 7, 7, 7, 7, 7, 7, 7, 7, 7, 7, 7, 7, 7, 7, 7, 7, 7, 7, 7, 7, 7, 7, 7, 7, 7, 7, 7, 7, 7, 7, 7, 7, 7, 7,
  7, 7, 7, 7, 7, 7, 7, 7, 7, 7, 7, 7, 8, 8, 8, 8, 8, 8, 8, 8, 8, 8, 8, 8, 8, 8, 8, 8, 8, 8, 8, 8, 8, 8, 8, 8, 8, 8, 8, 8, 8, 8, 8, 8, 8, 8, 8, 8, 8, 8, 8, 8, 8, 8, 8, 8, 8,
  8, 8, 8, 8, 8, 8, 8, 8, 8, 8, 8, 8, 8, 8, 8, 8, 8, 8, 8, 8, 8, 8, 8, 8, 8, 8, 8, 8, 8, 8, 8, 8, 8, 8, 8, 8, 8, 8, 8, 8, 8, 8, 8, 8, 8, 8, 8, 8, 8, 8, 8, 8, 8, 8, 8, 8, 8,
  8, 8, 8, 8, 8, 8, 8, 8, 8, 8, 8, 8, 8, 8, 8, 8, 8, 8, 8, 8, 8, 8, 8, 8, 8, 8]) (IntKind.wrap .u8 (ishr .u64 (ishr .u64 x 32) 8)) fun c2 => Ret [] (R (.int .i64
  (IntKind.wrap .i64 ((IntKind.wrap .i64 (32 + 8)) + (IntKind.wrap .i64 c2)))) w))) (StrAt (ByteArray.mk #[0, 1, 2, 2, 3, 3, 3, 3, 4, 4, 4, 4, 4, 4, 4, 4, 5, 5, 5, 5, 5, 5,
  5, 5, 5, 5, 5, 5, 5, 5, 5, 5, 6, 6, 6, 6, 6, 6, 6, 6, 6, 6, 6, 6, 6, 6, 6, 6, 6, 6, 6, 6, 6, 6, 6, 6, 6, 6, 6, 6, 6, 6, 6, 6, 7, 7, 7, 7, 7, 7, 7, 7, 7, 7, 7, 7, 7, 7, 7,
  7, 7, 7, 7, 7, 7, 7, 7, 7, 7, 7, 7, 7, 7, 7, 7, 7, 7, 7, 7, 7, 7, 7, 7, 7, 7, 7, 7, 7, 7, 7, 7, 7, 7, 7, 7, 7, 7, 7, 7, 7, 7, 7, 7, 7, 7, 7, 7, 7, 8, 8, 8, 8, 8, 8, 8, 8,
  8, 8, 8, 8, 8, 8, 8, 8, 8, 8, 8, 8, 8, 8, 8, 8, 8, 8, 8, 8, 8, 8, 8, 8, 8, 8, 8, 8, 8, 8, 8, 8, 8, 8, 8, 8, 8, 8, 8, 8, 8, 8, 8, 8, 8, 8, 8, 8, 8, 8, 8, 8, 8, 8, 8, 8, 8,
  8, 8, 8, 8, 8, 8, 8, 8, 8, 8, 8, 8, 8, 8, 8, 8, 8, 8, 8, 8, 8, 8, 8, 8, 8, 8, 8, 8, 8, 8, 8, 8, 8, 8, 8, 8, 8, 8, 8, 8, 8, 8, 8, 8, 8, 8, 8, 8, 8, 8, 8, 8, 8, 8, 8, 8, 8,
  8, 8, 8, 8, 8, 8]) (IntKind.wrap .u8 (ishr .u64 x 32)) fun c3 => Ret [] (R (.int .i64 (IntKind.wrap .i64 (32 + (IntKind.wrap .i64 c3)))) w))))) (Cb (decide (x ≥ 65536))
  (Req (0 ≤ (16 : Int)) (Cb (decide (ishr .u64 x 16 ≥ 256)) (Req (0 ≤ (8 : Int)) (StrAt (ByteArray.mk #[0, 1, 2, 2, 3, 3, 3, 3, 4, 4, 4, 4, 4, 4, 4, 4, 5, 5, 5, 5, 5, 5, 5,
  5, 5, 5, 5, 5, 5, 5, 5, 5, 6, 6, 6, 6, 6, 6, 6, 6, 6, 6, 6, 6, 6, 6, 6, 6, 6, 6, 6, 6, 6, 6, 6, 6, 6, 6, 6, 6, 6, 6, 6, 6, 7, 7, 7, 7, 7, 7, 7, 7, 7, 7, 7, 7, 7, 7, 7, 7,
  7, 7, 7, 7, 7, 7, 7, 7, 7, 7, 7, 7, 7, 7, 7, 7, 7, 7, 7, 7, 7, 7, 7, 7, 7, 7, 7, 7, 7, 7, 7, 7, 7, 7, 7, 7, 7, 7, 7, 7, 7, 7, 7, 7, 7, 7, 7, 7, 8, 8, 8, 8, 8, 8, 8, 8, 8,
  8, 8, 8, 8, 8, 8, 8, 8, 8, 8, 8, 8, 8, 8, 8, 8, 8, 8, 8, 8, 8, 8, 8, 8, 8, 8, 8, 8, 8, 8, 8, 8, 8, 8, 8, 8, 8, 8, 8, 8, 8, 8, 8, 8, 8, 8, 8, 8, 8, 8, 8, 8, 8, 8, 8, 8, 8,
  8, 8, 8, 8, 8, 8, 8, 8, 8, 8, 8, 8, 8, 8, 8, 8, 8, 8, 8, 8, 8, 8, 8, 8, 8, 8, 8, 8, 8, 8, 8, 8, 8, 8, 8, 8, 8, 8, 8, 8, 8, 8, 8, 8, 8, 8, 8, 8, 8, 8, 8, 8, 8, 8, 8, 8, 8,
  8, 8, 8, 8, 8]) (IntKind.wrap .u8 (ishr .u64 (ishr .u64 x 16) 8)) fun c4 => Ret [] (R (.int .i64 (IntKind.wrap .i64 ((IntKind.wrap .i64 ((IntKind.wrap .i64 (0 + 16)) + 8))
  + (IntKind.wrap .i64 c4)))) w))) (StrAt (ByteArray.mk #[0, 1, 2, 2, 3, 3, 3, 3, 4, 4, 4, 4, 4, 4, 4, 4, 5, 5, 5, 5, 5, 5, 5, 5, 5, 5, 5, 5, 5, 5, 5, 5, 6, 6, 6, 6, 6, 6,
  6, 6, 6, 6, 6, 6, 6, 6, 6, 6, 6, 6, 6, 6, 6, 6, 6, 6, 6, 6, 6, 6, 6, 6, 6, 6, 7, 7, 7, 7, 7, 7, 7, 7, 7, 7, 7, 7, 7, 7, 7, 7, 7, 7, 7, 7, 7, 7, 7, 7, 7, 7, 7, 7, 7, 7, 7,
  7, 7, 7, 7, 7, 7, 7, 7, 7, 7, 7, 7, 7, 7, 7, 7, 7, 7, 7, 7, 7, 7, 7, 7, 7, 7, 7, 7, 7, 7, 7, 7, 7, 8, 8, 8, 8, 8, 8, 8, 8, 8, 8, 8, 8, 8, 8, 8, 8, 8, 8, 8, 8, 8, 8, 8, 8,
  8, 8, 8, 8, 8, 8, 8, 8, 8, 8, 8, 8, 8, 8, 8, 8, 8, 8, 8, 8, 8, 8, 8, 8, 8, 8, 8, 8, 8, 8, 8, 8, 8, 8, 8, 8, 8, 8, 8, 8, 8, 8, 8, 8, 8, 8, 8, 8, 8, 8, 8, 8, 8, 8, 8, 8, 8,
  8, 8, 8, 8, 8, 8, 8, 8, 8, 8, 8, 8, 8, 8, 8, 8, 8, 8, 8, 8, 8, 8, 8, 8, 8, 8, 8, 8, 8, 8, 8, 8, 8, 8, 8, 8, 8, 8, 8, 8, 8, 8, 8, 8, 8, 8, 8]) (IntKind.wrap .u8 (ishr .u64
  x 16)) fun c5 => Ret [] (R (.int .i64 (IntKind.wrap .i64 ((IntKind.wrap .i64 (0 + 16)) + (IntKind.wrap .i64 c5)))) w)))) (Cb (decide (x ≥ 256)) (Req (0 ≤ (8 : Int)) (StrAt
  (ByteArray.mk #[0, 1, 2, 2, 3, 3, 3, 3, 4, 4, 4, 4, 4, 4, 4, 4, 5, 5, 5, 5, 5, 5, 5, 5, 5, 5, 5, 5, 5, 5, 5, 5, 6, 6, 6, 6, 6, 6, 6, 6, 6, 6, 6, 6, 6, 6, 6, 6, 6, 6, 6, 6,
  6, 6, 6, 6, 6, 6, 6, 6, 6, 6, 6, 6, 7, 7, 7, 7, 7, 7, 7, 7, 7, 7, 7, 7, 7, 7, 7, 7, 7, 7, 7, 7, 7, 7, 7, 7, 7, 7, 7, 7, 7, 7, 7, 7, 7, 7, 7, 7, 7, 7, 7, 7, 7, 7, 7, 7, 7,
  7, 7, 7, 7, 7, 7, 7, 7, 7, 7, 7, 7, 7, 7, 7, 7, 7, 7, 7, 8, 8, 8, 8, 8, 8, 8, 8, 8, 8, 8, 8, 8, 8, 8, 8, 8, 8, 8, 8, 8, 8, 8, 8, 8, 8, 8, 8, 8, 8, 8, 8, 8, 8, 8, 8, 8, 8,
  8, 8, 8, 8, 8, 8, 8, 8, 8, 8, 8, 8, 8, 8, 8, 8, 8, 8, 8, 8, 8, 8, 8, 8, 8, 8, 8, 8, 8, 8, 8, 8, 8, 8, 8, 8, 8, 8, 8, 8, 8, 8, 8, 8, 8, 8, 8, 8, 8, 8, 8, 8, 8, 8, 8, 8, 8,
  8, 8, 8, 8, 8, 8, 8, 8, 8, 8, 8, 8, 8, 8, 8, 8, 8, 8, 8, 8, 8, 8, 8, 8, 8, 8, 8, 8, 8, 8, 8, 8, 8]) (IntKind.wrap .u8 (ishr .u64 x 8)) fun c6 => Ret [] (R (.int .i64
  (IntKind.wrap .i64 ((IntKind.wrap .i64 (0 + 8)) + (IntKind.wrap .i64 c6)))) w))) (StrAt (ByteArray.mk #[0, 1, 2, 2, 3, 3, 3, 3, 4, 4, 4, 4, 4, 4, 4, 4, 5, 5, 5, 5, 5, 5,
  5, 5, 5, 5, 5, 5, 5, 5, 5, 5, 6, 6, 6, 6, 6, 6, 6, 6, 6, 6, 6, 6, 6, 6, 6, 6, 6, 6, 6, 6, 6, 6, 6, 6, 6, 6, 6, 6, 6, 6, 6, 6, 7, 7, 7, 7, 7, 7, 7, 7, 7, 7, 7, 7, 7, 7, 7,
  7, 7, 7, 7, 7, 7, 7, 7, 7, 7, 7, 7, 7, 7, 7, 7, 7, 7, 7, 7, 7, 7, 7, 7, 7, 7, 7, 7, 7, 7, 7, 7, 7, 7, 7, 7, 7, 7, 7, 7, 7, 7, 7, 7, 7, 7, 7, 7, 7, 8, 8, 8, 8, 8, 8, 8, 8,
  8, 8, 8, 8, 8, 8, 8, 8, 8, 8, 8, 8, 8, 8, 8, 8, 8, 8, 8, 8, 8, 8, 8, 8, 8, 8, 8, 8, 8, 8, 8, 8, 8, 8, 8, 8, 8, 8, 8, 8, 8, 8, 8, 8, 8, 8, 8, 8, 8, 8, 8, 8, 8, 8, 8, 8, 8,
  8, 8, 8, 8, 8, 8, 8, 8, 8, 8, 8, 8, 8, 8, 8, 8, 8, 8, 8, 8, 8, 8, 8, 8, 8, 8, 8, 8, 8, 8, 8, 8, 8, 8, 8, 8, 8, 8, 8, 8, 8, 8, 8, 8, 8, 8, 8, 8, 8, 8, 8, 8, 8, 8, 8, 8, 8,
  8, 8, 8, 8, 8, 8]) (IntKind.wrap .u8 x) fun c7 => Ret [] (R (.int .i64 (IntKind.wrap .i64 (0 + (IntKind.wrap .i64 c7)))) w))))
theorem C_bits_Len64 {x : Int} {w : World} {R : Value → World → Prop} (h : F_bits_Len64 x w R) : CallV Tryz.prog 285 #[.int .u64 x] w R := by
  exact calls_of_F (args := [.int .u64 x]) (mkAnn [] [] [] [] []) Tryz_mixed Tryz.func285 rfl rfl (by kernel_rfl) h
def F_bits_Len (x : Int) (w : World) (R : Value → World → Prop) : Prop :=
  CallV Tryz.prog 285 #[.int .u64 x] w fun v w => OpI .i64 v fun n => Ret [] (R (.int .i64 n) w)
theorem C_bits_Len {x : Int} {w : World} {R : Value → World → Prop} (h : F_bits_Len x w R) : CallV Tryz.prog 251 #[.int .u64 x] w R := by
  exact calls_of_F (args := [.int .u64 x]) (mkAnn [] [] [] [] []) Tryz_mixed Tryz.func251 rfl rfl (by kernel_rfl) h
def F_slices_insertionSortOrdered_uint64 (datap : Option Addr) (datal : Nat) (datac : Nat) (a : Int) (b : Int) (w : World) (R : Value → World → Prop) : Prop :=
  LoopC (σ := Int × Unit) (fun _ s1 w K1 => Cb (decide (s1.1 < b)) (LoopC (σ := Int × Unit) (fun _ s2 w K2 => Cb (decide (s2.1 > a)) (IdxS datap datal s2.1 1 fun b1 o => LdV
  b1 o (At w) fun v => OpI .u64 v fun n => IdxS datap datal (IntKind.wrap .i64 (s2.1 - 1)) 1 fun b2 o1 => LdV b2 o1 (At w) fun v1 => OpI .u64 v1 fun n1 => CallQ Tryz.prog
  281 #[.int .u64 n, .int .u64 n1] (At w) fun v2 => OpB v2 fun g => Drw w fun w => Cb g (HeldR w fun S w => IdxS datap datal (IntKind.wrap .i64 (s2.1 - 1)) 1 fun b3 o2 =>
  LdV b3 o2 (At w) fun v3 => OpI .u64 v3 fun n2 => IdxS datap datal s2.1 1 fun b4 o3 => LdV b4 o3 (At w) fun v4 => OpI .u64 v4 fun n3 => IdxS datap datal s2.1 1 fun b5 o4 =>
  StV b5 o4 (.int .u64 n2) w fun w => Hld (S w) (IdxS datap datal (IntKind.wrap .i64 (s2.1 - 1)) 1 fun b6 o5 => StV b6 o5 (.int .u64 n3) w fun w => Hld (S w) (K2
  (IntKind.wrap .i64 (s2.1 - 1), ()) w))) (K1 (IntKind.wrap .i64 (s1.1 + 1), ()) w)) (Drw w fun w => K1 (IntKind.wrap .i64 (s1.1 + 1), ()) w)) (s1.1, ()) w) (Ret [] (R
  (.tuple #[]) w))) (IntKind.wrap .i64 (a + 1), ()) w
theorem C_slices_insertionSortOrdered_uint64 {datap : Option Addr} {datal : Nat} {datac : Nat} {a : Int} {b : Int} {w : World} {R : Value → World → Prop} (h : F_slices_insertionSortOrdered_uint64 datap datal datac a b w R) : CallV Tryz.prog 275 #[.slice datap datal datac, .int .i64 a, .int .i64 b] w R := by
  exact calls_of_F (args := [.slice datap datal datac, .int .i64 a, .int .i64 b]) (mkAnn [(1, [(6, (.int .i64))]), (4, [(7, (.int .i64))])] [] [] [] []) Tryz_mixed Tryz.func275 rfl rfl (by kernel_rfl) h
def F_slices_pdqsortOrdered_uint64 (datap : Option Addr) (datal : Nat) (datac : Nat) (a : Int) (b : Int) (limit : Int) (w : World) (R : Value → World → Prop) : Prop :=
  LoopC (σ := Int × Int × Int × Bool × Bool × Unit) (fun _ s1 w K1 => Cb (decide (IntKind.wrap .i64 (s1.2.1 - s1.1) ≤ 12)) (CallV Tryz.prog 275 #[.slice datap datal datac,
  .int .i64 s1.1, .int .i64 s1.2.1] w fun v w => Ret [] (R (.tuple #[]) w)) (Cb (s1.2.2.1 == 0) (CallV Tryz.prog 276 #[.slice datap datal datac, .int .i64 s1.1, .int .i64
  s1.2.1] w fun v1 w => Ret [] (R (.tuple #[]) w)) (Cb (!s1.2.2.2.1) (CallV Tryz.prog 277 #[.slice datap datal datac, .int .i64 s1.1, .int .i64 s1.2.1] w fun v2 w => CallV
  Tryz.prog 278 #[.slice datap datal datac, .int .i64 s1.1, .int .i64 s1.2.1] w fun v3 w => T2 v3 fun v4 v5 => OpI .i64 v4 fun n => OpI .i64 v5 fun n1 => Cb (n1 == 2) (CallV
  Tryz.prog 279 #[.slice datap datal datac, .int .i64 s1.1, .int .i64 s1.2.1] w fun v6 w => Req (s1.2.2.2.1 = s1.2.2.2.1) (Req ((cond s1.2.2.2.1 s1.2.2.2.2.1 false) = (cond
  s1.2.2.2.1 s1.2.2.2.2.1 false)) (Req ((cond s1.2.2.2.1 s1.2.2.2.2.1 false) = (cond s1.2.2.2.1 s1.2.2.2.2.1 false)) (Cb (cond (cond s1.2.2.2.1 s1.2.2.2.2.1 false) ((1 :
  Int) == 1) false) (CallV Tryz.prog 280 #[.slice datap datal datac, .int .i64 s1.1, .int .i64 s1.2.1] w fun v7 w => OpB v7 fun g => Cb g (Ret [] (R (.tuple #[]) w)) (Cb
  (decide (s1.1 > 0)) (IdxS datap datal (IntKind.wrap .i64 (s1.1 - 1)) 1 fun b1 o => LdV b1 o (At w) fun v8 => OpI .u64 v8 fun n2 => IdxS datap datal (IntKind.wrap .i64
  ((IntKind.wrap .i64 (s1.2.1 - 1)) - (IntKind.wrap .i64 (n - s1.1)))) 1 fun b2 o1 => LdV b2 o1 (At w) fun v9 => OpI .u64 v9 fun n3 => CallQ Tryz.prog 281 #[.int .u64 n2,
  .int .u64 n3] (At w) fun v10 => OpB v10 fun g1 => Drw w fun w => Cb (!g1) (CallV Tryz.prog 282 #[.slice datap datal datac, .int .i64 s1.1, .int .i64 s1.2.1, .int .i64
  (IntKind.wrap .i64 ((IntKind.wrap .i64 (s1.2.1 - 1)) - (IntKind.wrap .i64 (n - s1.1))))] w fun v11 w => OpI .i64 v11 fun n4 => K1 (n4, (s1.2.1, (IntKind.wrap .i64
  (s1.2.2.1 - 1), (s1.2.2.2.1, (s1.2.2.2.2.1, ()))))) w) (CallV Tryz.prog 283 #[.slice datap datal datac, .int .i64 s1.1, .int .i64 s1.2.1, .int .i64 (IntKind.wrap .i64
  ((IntKind.wrap .i64 (s1.2.1 - 1)) - (IntKind.wrap .i64 (n - s1.1))))] w fun v12 w => T2 v12 fun v13 v14 => OpI .i64 v13 fun n5 => OpB v14 fun g2 => Req ((8 : Int) ≠ 0) (Cb
  (decide (IntKind.wrap .i64 (n5 - s1.1) < IntKind.wrap .i64 (s1.2.1 - n5))) (CallV Tryz.prog 250 #[.slice datap datal datac, .int .i64 s1.1, .int .i64 n5, .int .i64
  (IntKind.wrap .i64 (s1.2.2.1 - 1))] w fun v15 w => K1 (IntKind.wrap .i64 (n5 + 1), (s1.2.1, (IntKind.wrap .i64 (s1.2.2.1 - 1), (decide (IntKind.wrap .i64 (n5 - s1.1) ≥
  IntKind.wrap .i64 (Int.tdiv (IntKind.wrap .i64 (s1.2.1 - s1.1)) 8)), (g2, ()))))) w) (CallV Tryz.prog 250 #[.slice datap datal datac, .int .i64 (IntKind.wrap .i64 (n5 +
  1)), .int .i64 s1.2.1, .int .i64 (IntKind.wrap .i64 (s1.2.2.1 - 1))] w fun v16 w => K1 (s1.1, (n5, (IntKind.wrap .i64 (s1.2.2.1 - 1), (decide (IntKind.wrap .i64 (s1.2.1 -
  n5) ≥ IntKind.wrap .i64 (Int.tdiv (IntKind.wrap .i64 (s1.2.1 - s1.1)) 8)), (g2, ()))))) w)))) (Drw w fun w => CallV Tryz.prog 283 #[.slice datap datal datac, .int .i64
  s1.1, .int .i64 s1.2.1, .int .i64 (IntKind.wrap .i64 ((IntKind.wrap .i64 (s1.2.1 - 1)) - (IntKind.wrap .i64 (n - s1.1))))] w fun v17 w => T2 v17 fun v18 v19 => OpI .i64
  v18 fun n6 => OpB v19 fun g3 => Req ((8 : Int) ≠ 0) (Cb (decide (IntKind.wrap .i64 (n6 - s1.1) < IntKind.wrap .i64 (s1.2.1 - n6))) (CallV Tryz.prog 250 #[.slice datap
  datal datac, .int .i64 s1.1, .int .i64 n6, .int .i64 (IntKind.wrap .i64 (s1.2.2.1 - 1))] w fun v20 w => K1 (IntKind.wrap .i64 (n6 + 1), (s1.2.1, (IntKind.wrap .i64
  (s1.2.2.1 - 1), (decide (IntKind.wrap .i64 (n6 - s1.1) ≥ IntKind.wrap .i64 (Int.tdiv (IntKind.wrap .i64 (s1.2.1 - s1.1)) 8)), (g3, ()))))) w) (CallV Tryz.prog 250 #[.slice
  datap datal datac, .int .i64 (IntKind.wrap .i64 (n6 + 1)), .int .i64 s1.2.1, .int .i64 (IntKind.wrap .i64 (s1.2.2.1 - 1))] w fun v21 w => K1 (s1.1, (n6, (IntKind.wrap .i64
  (s1.2.2.1 - 1), (decide (IntKind.wrap .i64 (s1.2.1 - n6) ≥ IntKind.wrap .i64 (Int.tdiv (IntKind.wrap .i64 (s1.2.1 - s1.1)) 8)), (g3, ()))))) w))))) (Cb (decide (s1.1 > 0))
  (IdxS datap datal (IntKind.wrap .i64 (s1.1 - 1)) 1 fun b3 o2 => LdV b3 o2 (At w) fun v22 => OpI .u64 v22 fun n7 => IdxS datap datal (IntKind.wrap .i64 ((IntKind.wrap .i64
  (s1.2.1 - 1)) - (IntKind.wrap .i64 (n - s1.1)))) 1 fun b4 o3 => LdV b4 o3 (At w) fun v23 => OpI .u64 v23 fun n8 => CallQ Tryz.prog 281 #[.int .u64 n7, .int .u64 n8] (At w)
  fun v24 => OpB v24 fun g4 => Drw w fun w => Cb (!g4) (CallV Tryz.prog 282 #[.slice datap datal datac, .int .i64 s1.1, .int .i64 s1.2.1, .int .i64 (IntKind.wrap .i64
  ((IntKind.wrap .i64 (s1.2.1 - 1)) - (IntKind.wrap .i64 (n - s1.1))))] w fun v25 w => OpI .i64 v25 fun n9 => K1 (n9, (s1.2.1, (IntKind.wrap .i64 (s1.2.2.1 - 1),
  (s1.2.2.2.1, (s1.2.2.2.2.1, ()))))) w) (CallV Tryz.prog 283 #[.slice datap datal datac, .int .i64 s1.1, .int .i64 s1.2.1, .int .i64 (IntKind.wrap .i64 ((IntKind.wrap .i64
  (s1.2.1 - 1)) - (IntKind.wrap .i64 (n - s1.1))))] w fun v26 w => T2 v26 fun v27 v28 => OpI .i64 v27 fun n10 => OpB v28 fun g5 => Req ((8 : Int) ≠ 0) (Cb (decide
  (IntKind.wrap .i64 (n10 - s1.1) < IntKind.wrap .i64 (s1.2.1 - n10))) (CallV Tryz.prog 250 #[.slice datap datal datac, .int .i64 s1.1, .int .i64 n10, .int .i64
  (IntKind.wrap .i64 (s1.2.2.1 - 1))] w fun v29 w => K1 (IntKind.wrap .i64 (n10 + 1), (s1.2.1, (IntKind.wrap .i64 (s1.2.2.1 - 1), (decide (IntKind.wrap .i64 (n10 - s1.1) ≥
  IntKind.wrap .i64 (Int.tdiv (IntKind.wrap .i64 (s1.2.1 - s1.1)) 8)), (g5, ()))))) w) (CallV Tryz.prog 250 #[.slice datap datal datac, .int .i64 (IntKind.wrap .i64 (n10 +
  1)), .int .i64 s1.2.1, .int .i64 (IntKind.wrap .i64 (s1.2.2.1 - 1))] w fun v30 w => K1 (s1.1, (n10, (IntKind.wrap .i64 (s1.2.2.1 - 1), (decide (IntKind.wrap .i64 (s1.2.1 -
  n10) ≥ IntKind.wrap .i64 (Int.tdiv (IntKind.wrap .i64 (s1.2.1 - s1.1)) 8)), (g5, ()))))) w)))) (Drw w fun w => CallV Tryz.prog 283 #[.slice datap datal datac, .int .i64
  s1.1, .int .i64 s1.2.1, .int .i64 (IntKind.wrap .i64 ((IntKind.wrap .i64 (s1.2.1 - 1)) - (IntKind.wrap .i64 (n - s1.1))))] w fun v31 w => T2 v31 fun v32 v33 => OpI .i64
  v32 fun n11 => OpB v33 fun g6 => Req ((8 : Int) ≠ 0) (Cb (decide (IntKind.wrap .i64 (n11 - s1.1) < IntKind.wrap .i64 (s1.2.1 - n11))) (CallV Tryz.prog 250 #[.slice datap
  datal datac, .int .i64 s1.1, .int .i64 n11, .int .i64 (IntKind.wrap .i64 (s1.2.2.1 - 1))] w fun v34 w => K1 (IntKind.wrap .i64 (n11 + 1), (s1.2.1, (IntKind.wrap .i64
  (s1.2.2.1 - 1), (decide (IntKind.wrap .i64 (n11 - s1.1) ≥ IntKind.wrap .i64 (Int.tdiv (IntKind.wrap .i64 (s1.2.1 - s1.1)) 8)), (g6, ()))))) w) (CallV Tryz.prog 250
  #[.slice datap datal datac, .int .i64 (IntKind.wrap .i64 (n11 + 1)), .int .i64 s1.2.1, .int .i64 (IntKind.wrap .i64 (s1.2.2.1 - 1))] w fun v35 w => K1 (s1.1, (n11,
  (IntKind.wrap .i64 (s1.2.2.1 - 1), (decide (IntKind.wrap .i64 (s1.2.1 - n11) ≥ IntKind.wrap .i64 (Int.tdiv (IntKind.wrap .i64 (s1.2.1 - s1.1)) 8)), (g6, ()))))) w))))))))
  (Req (s1.2.2.2.1 = s1.2.2.2.1) (Req ((cond s1.2.2.2.1 s1.2.2.2.2.1 false) = (cond s1.2.2.2.1 s1.2.2.2.2.1 false)) (Req ((cond s1.2.2.2.1 s1.2.2.2.2.1 false) = (cond
  s1.2.2.2.1 s1.2.2.2.2.1 false)) (Cb (cond (cond s1.2.2.2.1 s1.2.2.2.2.1 false) (n1 == 1) false) (CallV Tryz.prog 280 #[.slice datap datal datac, .int .i64 s1.1, .int .i64
  s1.2.1] w fun v36 w => OpB v36 fun g7 => Cb g7 (Ret [] (R (.tuple #[]) w)) (Cb (decide (s1.1 > 0)) (IdxS datap datal (IntKind.wrap .i64 (s1.1 - 1)) 1 fun b5 o4 => LdV b5
  o4 (At w) fun v37 => OpI .u64 v37 fun n12 => IdxS datap datal n 1 fun b6 o5 => LdV b6 o5 (At w) fun v38 => OpI .u64 v38 fun n13 => CallQ Tryz.prog 281 #[.int .u64 n12,
  .int .u64 n13] (At w) fun v39 => OpB v39 fun g8 => Drw w fun w => Cb (!g8) (CallV Tryz.prog 282 #[.slice datap datal datac, .int .i64 s1.1, .int .i64 s1.2.1, .int .i64 n]
  w fun v40 w => OpI .i64 v40 fun n14 => K1 (n14, (s1.2.1, (IntKind.wrap .i64 (s1.2.2.1 - 1), (s1.2.2.2.1, (s1.2.2.2.2.1, ()))))) w) (CallV Tryz.prog 283 #[.slice datap
  datal datac, .int .i64 s1.1, .int .i64 s1.2.1, .int .i64 n] w fun v41 w => T2 v41 fun v42 v43 => OpI .i64 v42 fun n15 => OpB v43 fun g9 => Req ((8 : Int) ≠ 0) (Cb (decide
  (IntKind.wrap .i64 (n15 - s1.1) < IntKind.wrap .i64 (s1.2.1 - n15))) (CallV Tryz.prog 250 #[.slice datap datal datac, .int .i64 s1.1, .int .i64 n15, .int .i64
  (IntKind.wrap .i64 (s1.2.2.1 - 1))] w fun v44 w => K1 (IntKind.wrap .i64 (n15 + 1), (s1.2.1, (IntKind.wrap .i64 (s1.2.2.1 - 1), (decide (IntKind.wrap .i64 (n15 - s1.1) ≥
  IntKind.wrap .i64 (Int.tdiv (IntKind.wrap .i64 (s1.2.1 - s1.1)) 8)), (g9, ()))))) w) (CallV Tryz.prog 250 #[.slice datap datal datac, .int .i64 (IntKind.wrap .i64 (n15 +
  1)), .int .i64 s1.2.1, .int .i64 (IntKind.wrap .i64 (s1.2.2.1 - 1))] w fun v45 w => K1 (s1.1, (n15, (IntKind.wrap .i64 (s1.2.2.1 - 1), (decide (IntKind.wrap .i64 (s1.2.1 -
  n15) ≥ IntKind.wrap .i64 (Int.tdiv (IntKind.wrap .i64 (s1.2.1 - s1.1)) 8)), (g9, ()))))) w)))) (Drw w fun w => CallV Tryz.prog 283 #[.slice datap datal datac, .int .i64
  s1.1, .int .i64 s1.2.1, .int .i64 n] w fun v46 w => T2 v46 fun v47 v48 => OpI .i64 v47 fun n16 => OpB v48 fun g10 => Req ((8 : Int) ≠ 0) (Cb (decide (IntKind.wrap .i64
  (n16 - s1.1) < IntKind.wrap .i64 (s1.2.1 - n16))) (CallV Tryz.prog 250 #[.slice datap datal datac, .int .i64 s1.1, .int .i64 n16, .int .i64 (IntKind.wrap .i64 (s1.2.2.1 -
  1))] w fun v49 w => K1 (IntKind.wrap .i64 (n16 + 1), (s1.2.1, (IntKind.wrap .i64 (s1.2.2.1 - 1), (decide (IntKind.wrap .i64 (n16 - s1.1) ≥ IntKind.wrap .i64 (Int.tdiv
  (IntKind.wrap .i64 (s1.2.1 - s1.1)) 8)), (g10, ()))))) w) (CallV Tryz.prog 250 #[.slice datap datal datac, .int .i64 (IntKind.wrap .i64 (n16 + 1)), .int .i64 s1.2.1, .int
  .i64 (IntKind.wrap .i64 (s1.2.2.1 - 1))] w fun v50 w => K1 (s1.1, (n16, (IntKind.wrap .i64 (s1.2.2.1 - 1), (decide (IntKind.wrap .i64 (s1.2.1 - n16) ≥ IntKind.wrap .i64
  (Int.tdiv (IntKind.wrap .i64 (s1.2.1 - s1.1)) 8)), (g10, ()))))) w))))) (Cb (decide (s1.1 > 0)) (IdxS datap datal (IntKind.wrap .i64 (s1.1 - 1)) 1 fun b7 o6 => LdV b7 o6
  (At w) fun v51 => OpI .u64 v51 fun n17 => IdxS datap datal n 1 fun b8 o7 => LdV b8 o7 (At w) fun v52 => OpI .u64 v52 fun n18 => CallQ Tryz.prog 281 #[.int .u64 n17, .int
  .u64 n18] (At w) fun v53 => OpB v53 fun g11 => Drw w fun w => Cb (!g11) (CallV Tryz.prog 282 #[.slice datap datal datac, .int .i64 s1.1, .int .i64 s1.2.1, .int .i64 n] w
  fun v54 w => OpI .i64 v54 fun n19 => K1 (n19, (s1.2.1, (IntKind.wrap .i64 (s1.2.2.1 - 1), (s1.2.2.2.1, (s1.2.2.2.2.1, ()))))) w) (CallV Tryz.prog 283 #[.slice datap datal
  datac, .int .i64 s1.1, .int .i64 s1.2.1, .int .i64 n] w fun v55 w => T2 v55 fun v56 v57 => OpI .i64 v56 fun n20 => OpB v57 fun g12 => Req ((8 : Int) ≠ 0) (Cb (decide
  (IntKind.wrap .i64 (n20 - s1.1) < IntKind.wrap .i64 (s1.2.1 - n20))) (CallV Tryz.prog 250 #[.slice datap datal datac, .int .i64 s1.1, .int .i64 n20, .int .i64
  (IntKind.wrap .i64 (s1.2.2.1 - 1))] w fun v58 w => K1 (IntKind.wrap .i64 (n20 + 1), (s1.2.1, (IntKind.wrap .i64 (s1.2.2.1 - 1), (decide (IntKind.wrap .i64 (n20 - s1.1) ≥
  IntKind.wrap .i64 (Int.tdiv (IntKind.wrap .i64 (s1.2.1 - s1.1)) 8)), (g12, ()))))) w) (CallV Tryz.prog 250 #[.slice datap datal datac, .int .i64 (IntKind.wrap .i64 (n20 +
  1)), .int .i64 s1.2.1, .int .i64 (IntKind.wrap .i64 (s1.2.2.1 - 1))] w fun v59 w => K1 (s1.1, (n20, (IntKind.wrap .i64 (s1.2.2.1 - 1), (decide (IntKind.wrap .i64 (s1.2.1 -
  n20) ≥ IntKind.wrap .i64 (Int.tdiv (IntKind.wrap .i64 (s1.2.1 - s1.1)) 8)), (g12, ()))))) w)))) (Drw w fun w => CallV Tryz.prog 283 #[.slice datap datal datac, .int .i64
  s1.1, .int .i64 s1.2.1, .int .i64 n] w fun v60 w => T2 v60 fun v61 v62 => OpI .i64 v61 fun n21 => OpB v62 fun g13 => Req ((8 : Int) ≠ 0) (Cb (decide (IntKind.wrap .i64
  (n21 - s1.1) < IntKind.wrap .i64 (s1.2.1 - n21))) (CallV Tryz.prog 250 #[.slice datap datal datac, .int .i64 s1.1, .int .i64 n21, .int .i64 (IntKind.wrap .i64 (s1.2.2.1 -
  1))] w fun v63 w => K1 (IntKind.wrap .i64 (n21 + 1), (s1.2.1, (IntKind.wrap .i64 (s1.2.2.1 - 1), (decide (IntKind.wrap .i64 (n21 - s1.1) ≥ IntKind.wrap .i64 (Int.tdiv
  (IntKind.wrap .i64 (s1.2.1 - s1.1)) 8)), (g13, ()))))) w) (CallV Tryz.prog 250 #[.slice datap datal datac, .int .i64 (IntKind.wrap .i64 (n21 + 1)), .int .i64 s1.2.1, .int
  .i64 (IntKind.wrap .i64 (s1.2.2.1 - 1))] w fun v64 w => K1 (s1.1, (n21, (IntKind.wrap .i64 (s1.2.2.1 - 1), (decide (IntKind.wrap .i64 (s1.2.1 - n21) ≥ IntKind.wrap .i64
  (Int.tdiv (IntKind.wrap .i64 (s1.2.1 - s1.1)) 8)), (g13, ()))))) w))))))))) (CallV Tryz.prog 278 #[.slice datap datal datac, .int .i64 s1.1, .int .i64 s1.2.1] w fun v65 w
  => T2 v65 fun v66 v67 => OpI .i64 v66 fun n22 => OpI .i64 v67 fun n23 => Cb (n23 == 2) (CallV Tryz.prog 279 #[.slice datap datal datac, .int .i64 s1.1, .int .i64 s1.2.1] w
  fun v68 w => Req (s1.2.2.2.1 = s1.2.2.2.1) (Req ((cond s1.2.2.2.1 s1.2.2.2.2.1 false) = (cond s1.2.2.2.1 s1.2.2.2.2.1 false)) (Req ((cond s1.2.2.2.1 s1.2.2.2.2.1 false) =
  (cond s1.2.2.2.1 s1.2.2.2.2.1 false)) (Cb (cond (cond s1.2.2.2.1 s1.2.2.2.2.1 false) ((1 : Int) == 1) false) (CallV Tryz.prog 280 #[.slice datap datal datac, .int .i64
  s1.1, .int .i64 s1.2.1] w fun v69 w => OpB v69 fun g14 => Cb g14 (Ret [] (R (.tuple #[]) w)) (Cb (decide (s1.1 > 0)) (IdxS datap datal (IntKind.wrap .i64 (s1.1 - 1)) 1 fun
  b9 o8 => LdV b9 o8 (At w) fun v70 => OpI .u64 v70 fun n24 => IdxS datap datal (IntKind.wrap .i64 ((IntKind.wrap .i64 (s1.2.1 - 1)) - (IntKind.wrap .i64 (n22 - s1.1)))) 1
  fun b10 o9 => LdV b10 o9 (At w) fun v71 => OpI .u64 v71 fun n25 => CallQ Tryz.prog 281 #[.int .u64 n24, .int .u64 n25] (At w) fun v72 => OpB v72 fun g15 => Drw w fun w =>
  Cb (!g15) (CallV Tryz.prog 282 #[.slice datap datal datac, .int .i64 s1.1, .int .i64 s1.2.1, .int .i64 (IntKind.wrap .i64 ((IntKind.wrap .i64 (s1.2.1 - 1)) - (IntKind.wrap
  .i64 (n22 - s1.1))))] w fun v73 w => OpI .i64 v73 fun n26 => K1 (n26, (s1.2.1, (s1.2.2.1, (s1.2.2.2.1, (s1.2.2.2.2.1, ()))))) w) (CallV Tryz.prog 283 #[.slice datap datal
  datac, .int .i64 s1.1, .int .i64 s1.2.1, .int .i64 (IntKind.wrap .i64 ((IntKind.wrap .i64 (s1.2.1 - 1)) - (IntKind.wrap .i64 (n22 - s1.1))))] w fun v74 w => T2 v74 fun v75
  v76 => OpI .i64 v75 fun n27 => OpB v76 fun g16 => Req ((8 : Int) ≠ 0) (Cb (decide (IntKind.wrap .i64 (n27 - s1.1) < IntKind.wrap .i64 (s1.2.1 - n27))) (CallV Tryz.prog 250
  #[.slice datap datal datac, .int .i64 s1.1, .int .i64 n27, .int .i64 s1.2.2.1] w fun v77 w => K1 (IntKind.wrap .i64 (n27 + 1), (s1.2.1, (s1.2.2.1, (decide (IntKind.wrap
  .i64 (n27 - s1.1) ≥ IntKind.wrap .i64 (Int.tdiv (IntKind.wrap .i64 (s1.2.1 - s1.1)) 8)), (g16, ()))))) w) (CallV Tryz.prog 250 #[.slice datap datal datac, .int .i64
  (IntKind.wrap .i64 (n27 + 1)), .int .i64 s1.2.1, .int .i64 s1.2.2.1] w fun v78 w => K1 (s1.1, (n27, (s1.2.2.1, (decide (IntKind.wrap .i64 (s1.2.1 - n27) ≥ IntKind.wrap
  .i64 (Int.tdiv (IntKind.wrap .i64 (s1.2.1 - s1.1)) 8)), (g16, ()))))) w)))) (Drw w fun w => CallV Tryz.prog 283 #[.slice datap datal datac, .int .i64 s1.1, .int .i64
  s1.2.1, .int .i64 (IntKind.wrap .i64 ((IntKind.wrap .i64 (s1.2.1 - 1)) - (IntKind.wrap .i64 (n22 - s1.1))))] w fun v79 w => T2 v79 fun v80 v81 => OpI .i64 v80 fun n28 =>
  OpB v81 fun g17 => Req ((8 : Int) ≠ 0) (Cb (decide (IntKind.wrap .i64 (n28 - s1.1) < IntKind.wrap .i64 (s1.2.1 - n28))) (CallV Tryz.prog 250 #[.slice datap datal datac,
  .int .i64 s1.1, .int .i64 n28, .int .i64 s1.2.2.1] w fun v82 w => K1 (IntKind.wrap .i64 (n28 + 1), (s1.2.1, (s1.2.2.1, (decide (IntKind.wrap .i64 (n28 - s1.1) ≥
  IntKind.wrap .i64 (Int.tdiv (IntKind.wrap .i64 (s1.2.1 - s1.1)) 8)), (g17, ()))))) w) (CallV Tryz.prog 250 #[.slice datap datal datac, .int .i64 (IntKind.wrap .i64 (n28 +
  1)), .int .i64 s1.2.1, .int .i64 s1.2.2.1] w fun v83 w => K1 (s1.1, (n28, (s1.2.2.1, (decide (IntKind.wrap .i64 (s1.2.1 - n28) ≥ IntKind.wrap .i64 (Int.tdiv (IntKind.wrap
  .i64 (s1.2.1 - s1.1)) 8)), (g17, ()))))) w))))) (Cb (decide (s1.1 > 0)) (IdxS datap datal (IntKind.wrap .i64 (s1.1 - 1)) 1 fun b11 o10 => LdV b11 o10 (At w) fun v84 => OpI
  .u64 v84 fun n29 => IdxS datap datal (IntKind.wrap .i64 ((IntKind.wrap .i64 (s1.2.1 - 1)) - (IntKind.wrap .i64 (n22 - s1.1)))) 1 fun b12 o11 => LdV b12 o11 (At w) fun v85
  => OpI .u64 v85 fun n30 => CallQ Tryz.prog 281 #[.int .u64 n29, .int .u64 n30] (At w) fun v86 => OpB v86 fun g18 => Drw w fun w => Cb (!g18) (CallV Tryz.prog 282 #[.slice
  datap datal datac, .int .i64 s1.1, .int .i64 s1.2.1, .int .i64 (IntKind.wrap .i64 ((IntKind.wrap .i64 (s1.2.1 - 1)) - (IntKind.wrap .i64 (n22 - s1.1))))] w fun v87 w =>
  OpI .i64 v87 fun n31 => K1 (n31, (s1.2.1, (s1.2.2.1, (s1.2.2.2.1, (s1.2.2.2.2.1, ()))))) w) (CallV Tryz.prog 283 #[.slice datap datal datac, .int .i64 s1.1, .int .i64
  s1.2.1, .int .i64 (IntKind.wrap .i64 ((IntKind.wrap .i64 (s1.2.1 - 1)) - (IntKind.wrap .i64 (n22 - s1.1))))] w fun v88 w => T2 v88 fun v89 v90 => OpI .i64 v89 fun n32 =>
  OpB v90 fun g19 => Req ((8 : Int) ≠ 0) (Cb (decide (IntKind.wrap .i64 (n32 - s1.1) < IntKind.wrap .i64 (s1.2.1 - n32))) (CallV Tryz.prog 250 #[.slice datap datal datac,
  .int .i64 s1.1, .int .i64 n32, .int .i64 s1.2.2.1] w fun v91 w => K1 (IntKind.wrap .i64 (n32 + 1), (s1.2.1, (s1.2.2.1, (decide (IntKind.wrap .i64 (n32 - s1.1) ≥
  IntKind.wrap .i64 (Int.tdiv (IntKind.wrap .i64 (s1.2.1 - s1.1)) 8)), (g19, ()))))) w) (CallV Tryz.prog 250 #[.slice datap datal datac, .int .i64 (IntKind.wrap .i64 (n32 +
  1)), .int .i64 s1.2.1, .int .i64 s1.2.2.1] w fun v92 w => K1 (s1.1, (n32, (s1.2.2.1, (decide (IntKind.wrap .i64 (s1.2.1 - n32) ≥ IntKind.wrap .i64 (Int.tdiv (IntKind.wrap
  .i64 (s1.2.1 - s1.1)) 8)), (g19, ()))))) w)))) (Drw w fun w => CallV Tryz.prog 283 #[.slice datap datal datac, .int .i64 s1.1, .int .i64 s1.2.1, .int .i64 (IntKind.wrap
  .i64 ((IntKind.wrap .i64 (s1.2.1 - 1)) - (IntKind.wrap .i64 (n22 - s1.1))))] w fun v93 w => T2 v93 fun v94 v95 => OpI .i64 v94 fun n33 => OpB v95 fun g20 => Req ((8 : Int)
  ≠ 0) (Cb (decide (IntKind.wrap .i64 (n33 - s1.1) < IntKind.wrap .i64 (s1.2.1 - n33))) (CallV Tryz.prog 250 #[.slice datap datal datac, .int .i64 s1.1, .int .i64 n33, .int
  .i64 s1.2.2.1] w fun v96 w => K1 (IntKind.wrap .i64 (n33 + 1), (s1.2.1, (s1.2.2.1, (decide (IntKind.wrap .i64 (n33 - s1.1) ≥ IntKind.wrap .i64 (Int.tdiv (IntKind.wrap .i64
  (s1.2.1 - s1.1)) 8)), (g20, ()))))) w) (CallV Tryz.prog 250 #[.slice datap datal datac, .int .i64 (IntKind.wrap .i64 (n33 + 1)), .int .i64 s1.2.1, .int .i64 s1.2.2.1] w
  fun v97 w => K1 (s1.1, (n33, (s1.2.2.1, (decide (IntKind.wrap .i64 (s1.2.1 - n33) ≥ IntKind.wrap .i64 (Int.tdiv (IntKind.wrap .i64 (s1.2.1 - s1.1)) 8)), (g20, ())))))
  w)))))))) (Req (s1.2.2.2.1 = s1.2.2.2.1) (Req ((cond s1.2.2.2.1 s1.2.2.2.2.1 false) = (cond s1.2.2.2.1 s1.2.2.2.2.1 false)) (Req ((cond s1.2.2.2.1 s1.2.2.2.2.1 false) =
  (cond s1.2.2.2.1 s1.2.2.2.2.1 false)) (Cb (cond (cond s1.2.2.2.1 s1.2.2.2.2.1 false) (n23 == 1) false) (CallV Tryz.prog 280 #[.slice datap datal datac, .int .i64 s1.1,
  .int .i64 s1.2.1] w fun v98 w => OpB v98 fun g21 => Cb g21 (Ret [] (R (.tuple #[]) w)) (Cb (decide (s1.1 > 0)) (IdxS datap datal (IntKind.wrap .i64 (s1.1 - 1)) 1 fun b13
  o12 => LdV b13 o12 (At w) fun v99 => OpI .u64 v99 fun n34 => IdxS datap datal n22 1 fun b14 o13 => LdV b14 o13 (At w) fun v100 => OpI .u64 v100 fun n35 => CallQ Tryz.prog
  281 #[.int .u64 n34, .int .u64 n35] (At w) fun v101 => OpB v101 fun g22 => Drw w fun w => Cb (!g22) (CallV Tryz.prog 282 #[.slice datap datal datac, .int .i64 s1.1, .int
  .i64 s1.2.1, .int .i64 n22] w fun v102 w => OpI .i64 v102 fun n36 => K1 (n36, (s1.2.1, (s1.2.2.1, (s1.2.2.2.1, (s1.2.2.2.2.1, ()))))) w) (CallV Tryz.prog 283 #[.slice
  datap datal datac, .int .i64 s1.1, .int .i64 s1.2.1, .int .i64 n22] w fun v103 w => T2 v103 fun v104 v105 => OpI .i64 v104 fun n37 => OpB v105 fun g23 => Req ((8 : Int) ≠
  0) (Cb (decide (IntKind.wrap .i64 (n37 - s1.1) < IntKind.wrap .i64 (s1.2.1 - n37))) (CallV Tryz.prog 250 #[.slice datap datal datac, .int .i64 s1.1, .int .i64 n37, .int
  .i64 s1.2.2.1] w fun v106 w => K1 (IntKind.wrap .i64 (n37 + 1), (s1.2.1, (s1.2.2.1, (decide (IntKind.wrap .i64 (n37 - s1.1) ≥ IntKind.wrap .i64 (Int.tdiv (IntKind.wrap
  .i64 (s1.2.1 - s1.1)) 8)), (g23, ()))))) w) (CallV Tryz.prog 250 #[.slice datap datal datac, .int .i64 (IntKind.wrap .i64 (n37 + 1)), .int .i64 s1.2.1, .int .i64 s1.2.2.1]
  w fun v107 w => K1 (s1.1, (n37, (s1.2.2.1, (decide (IntKind.wrap .i64 (s1.2.1 - n37) ≥ IntKind.wrap .i64 (Int.tdiv (IntKind.wrap .i64 (s1.2.1 - s1.1)) 8)), (g23, ())))))
  w)))) (Drw w fun w => CallV Tryz.prog 283 #[.slice datap datal datac, .int .i64 s1.1, .int .i64 s1.2.1, .int .i64 n22] w fun v108 w => T2 v108 fun v109 v110 => OpI .i64
  v109 fun n38 => OpB v110 fun g24 => Req ((8 : Int) ≠ 0) (Cb (decide (IntKind.wrap .i64 (n38 - s1.1) < IntKind.wrap .i64 (s1.2.1 - n38))) (CallV Tryz.prog 250 #[.slice
  datap datal datac, .int .i64 s1.1, .int .i64 n38, .int .i64 s1.2.2.1] w fun v111 w => K1 (IntKind.wrap .i64 (n38 + 1), (s1.2.1, (s1.2.2.1, (decide (IntKind.wrap .i64 (n38
  - s1.1) ≥ IntKind.wrap .i64 (Int.tdiv (IntKind.wrap .i64 (s1.2.1 - s1.1)) 8)), (g24, ()))))) w) (CallV Tryz.prog 250 #[.slice datap datal datac, .int .i64 (IntKind.wrap
  .i64 (n38 + 1)), .int .i64 s1.2.1, .int .i64 s1.2.2.1] w fun v112 w => K1 (s1.1, (n38, (s1.2.2.1, (decide (IntKind.wrap .i64 (s1.2.1 - n38) ≥ IntKind.wrap .i64 (Int.tdiv
  (IntKind.wrap .i64 (s1.2.1 - s1.1)) 8)), (g24, ()))))) w))))) (Cb (decide (s1.1 > 0)) (IdxS datap datal (IntKind.wrap .i64 (s1.1 - 1)) 1 fun b15 o14 => LdV b15 o14 (At w)
  fun v113 => OpI .u64 v113 fun n39 => IdxS datap datal n22 1 fun b16 o15 => LdV b16 o15 (At w) fun v114 => OpI .u64 v114 fun n40 => CallQ Tryz.prog 281 #[.int .u64 n39,
  .int .u64 n40] (At w) fun v115 => OpB v115 fun g25 => Drw w fun w => Cb (!g25) (CallV Tryz.prog 282 #[.slice datap datal datac, .int .i64 s1.1, .int .i64 s1.2.1, .int .i64
  n22] w fun v116 w => OpI .i64 v116 fun n41 => K1 (n41, (s1.2.1, (s1.2.2.1, (s1.2.2.2.1, (s1.2.2.2.2.1, ()))))) w) (CallV Tryz.prog 283 #[.slice datap datal datac, .int
  .i64 s1.1, .int .i64 s1.2.1, .int .i64 n22] w fun v117 w => T2 v117 fun v118 v119 => OpI .i64 v118 fun n42 => OpB v119 fun g26 => Req ((8 : Int) ≠ 0) (Cb (decide
  (IntKind.wrap .i64 (n42 - s1.1) < IntKind.wrap .i64 (s1.2.1 - n42))) (CallV Tryz.prog 250 #[.slice datap datal datac, .int .i64 s1.1, .int .i64 n42, .int .i64 s1.2.2.1] w
  fun v120 w => K1 (IntKind.wrap .i64 (n42 + 1), (s1.2.1, (s1.2.2.1, (decide (IntKind.wrap .i64 (n42 - s1.1) ≥ IntKind.wrap .i64 (Int.tdiv (IntKind.wrap .i64 (s1.2.1 -
  s1.1)) 8)), (g26, ()))))) w) (CallV Tryz.prog 250 #[.slice datap datal datac, .int .i64 (IntKind.wrap .i64 (n42 + 1)), .int .i64 s1.2.1, .int .i64 s1.2.2.1] w fun v121 w
  => K1 (s1.1, (n42, (s1.2.2.1, (decide (IntKind.wrap .i64 (s1.2.1 - n42) ≥ IntKind.wrap .i64 (Int.tdiv (IntKind.wrap .i64 (s1.2.1 - s1.1)) 8)), (g26, ()))))) w)))) (Drw w
  fun w => CallV Tryz.prog 283 #[.slice datap datal datac, .int .i64 s1.1, .int .i64 s1.2.1, .int .i64 n22] w fun v122 w => T2 v122 fun v123 v124 => OpI .i64 v123 fun n43 =>
  OpB v124 fun g27 => Req ((8 : Int) ≠ 0) (Cb (decide (IntKind.wrap .i64 (n43 - s1.1) < IntKind.wrap .i64 (s1.2.1 - n43))) (CallV Tryz.prog 250 #[.slice datap datal datac,
  .int .i64 s1.1, .int .i64 n43, .int .i64 s1.2.2.1] w fun v125 w => K1 (IntKind.wrap .i64 (n43 + 1), (s1.2.1, (s1.2.2.1, (decide (IntKind.wrap .i64 (n43 - s1.1) ≥
  IntKind.wrap .i64 (Int.tdiv (IntKind.wrap .i64 (s1.2.1 - s1.1)) 8)), (g27, ()))))) w) (CallV Tryz.prog 250 #[.slice datap datal datac, .int .i64 (IntKind.wrap .i64 (n43 +
  1)), .int .i64 s1.2.1, .int .i64 s1.2.2.1] w fun v126 w => K1 (s1.1, (n43, (s1.2.2.1, (decide (IntKind.wrap .i64 (s1.2.1 - n43) ≥ IntKind.wrap .i64 (Int.tdiv (IntKind.wrap
  .i64 (s1.2.1 - s1.1)) 8)), (g27, ()))))) w)))))))))))) (a, (b, (limit, (true, (true, ()))))) w
theorem C_slices_pdqsortOrdered_uint64 {datap : Option Addr} {datal : Nat} {datac : Nat} {a : Int} {b : Int} {limit : Int} {w : World} {R : Value → World → Prop} (h : F_slices_pdqsortOrdered_uint64 datap datal datac a b limit w R) : CallV Tryz.prog 250 #[.slice datap datal datac, .int .i64 a, .int .i64 b, .int .i64 limit] w R := by
  exact calls_of_F (args := [.slice datap datal datac, .int .i64 a, .int .i64 b, .int .i64 limit]) (mkAnn [(2, [(1, (.int .i64)), (2, (.int .i64)), (3, (.int .i64)), (8, .bool), (9, .bool)])] [] [] [] []) Tryz_mixed Tryz.func250 rfl rfl (by kernel_rfl) h
def F_slices_Sort_uint64 (xp : Option Addr) (xl : Nat) (xc : Nat) (w : World) (R : Value → World → Prop) : Prop :=
  CallV Tryz.prog 251 #[.int .u64 (IntKind.wrap .u64 ((xl : Nat) : Int))] w fun v w => OpI .i64 v fun n => CallV Tryz.prog 250 #[.slice xp xl xc, .int .i64 0, .int .i64 ((xl
  : Nat) : Int), .int .i64 n] w fun v1 w => Ret [] (R (.tuple #[]) w)
theorem C_slices_Sort_uint64 {xp : Option Addr} {xl : Nat} {xc : Nat} {w : World} {R : Value → World → Prop} (h : F_slices_Sort_uint64 xp xl xc w R) : CallV Tryz.prog 203 #[.slice xp xl xc] w R := by
  exact calls_of_F (args := [.slice xp xl xc]) (mkAnn [] [] [] [] []) Tryz_mixed Tryz.func203 rfl rfl (by kernel_rfl) h
def F_IndexNil (p : Option Addr) (l : Nat) (c : Nat) (w : World) (R : Value → World → Prop) : Prop :=
  LoopC (σ := Int × Unit) (fun _ s1 w K1 => Cb (decide (s1.1 < ((l : Nat) : Int))) (IdxS p l s1.1 1 fun b o => LdV b o (At w) fun v => OpN v fun b1 o1 => K1 (IntKind.wrap
  .i64 (s1.1 + 1), ()) w) (Ret [] (R (.int .i64 (-1)) w))) (0, ()) w
theorem C_IndexNil {p : Option Addr} {l : Nat} {c : Nat} {w : World} {R : Value → World → Prop} (h : F_IndexNil p l c w R) : CallV Tryz.prog 274 #[.slice p l c, .pointer none] w R := by
  exact calls_of_F (args := [.slice p l c, .pointer none]) (mkAnn [(2, [(8, (.int .i64))])] [] [] [] []) Tryz_mixed Tryz.func274 rfl rfl (by kernel_rfl) h
def F_ContainsNil (p : Option Addr) (l : Nat) (c : Nat) (w : World) (R : Value → World → Prop) : Prop :=
  CallV Tryz.prog 274 #[.slice p l c, .pointer none] w fun v w => OpI .i64 v fun n => Ret [] (R (.bool (decide (n ≥ 0))) w)
theorem C_ContainsNil {p : Option Addr} {l : Nat} {c : Nat} {w : World} {R : Value → World → Prop} (h : F_ContainsNil p l c w R) : CallV Tryz.prog 248 #[.slice p l c, .pointer none] w R := by
  exact calls_of_F (args := [.slice p l c, .pointer none]) (mkAnn [] [] [] [] []) Tryz_mixed Tryz.func248 rfl rfl (by kernel_rfl) h
def F_intent_missing (ramsp : Option Addr) (ramsl : Nat) (ramsc : Nat) (w : World) (R : Value → World → Prop) : Prop :=
  CallV Tryz.prog 248 #[.slice ramsp ramsl ramsc, .pointer none] w fun v w => OpB v fun g => Ret [] (R (.bool g) w)
theorem C_intent_missing {ramsp : Option Addr} {ramsl : Nat} {ramsc : Nat} {w : World} {R : Value → World → Prop} (h : F_intent_missing ramsp ramsl ramsc w R) : CallV Tryz.prog 199 #[.slice ramsp ramsl ramsc] w R := by
  exact calls_of_F (args := [.slice ramsp ramsl ramsc]) (mkAnn [] [] [] [] []) Tryz_mixed Tryz.func199 rfl rfl (by kernel_rfl) h
def F_intent_each (ramsp : Option Addr) (ramsl : Nat) (ramsc : Nat) (x : Array Value) (w : World) (R : Value → World → Prop) : Prop :=
  Alc 246 x w fun b w => LoopC (σ := Int × Unit) (fun _ s1 w K1 => Cb (decide (s1.1 < ((ramsl : Nat) : Int))) (IdxS ramsp ramsl s1.1 1 fun b1 o => LdV b1 o (At w) fun v =>
  OpN v fun b2 o1 => LdA 19 b 0 (At w) fun cs => CallV Tryz.prog 165 #[.pointer (some ⟨b2, o1, none⟩), .agg cs] w fun v1 w => OpI .i64 v1 fun n => Cb (n != 0) (Ret [] (R
  (.int .i64 n) w)) (K1 (IntKind.wrap .i64 (s1.1 + 1), ()) w)) (Ret [] (R (.int .i64 0) w))) (0, ()) w
theorem C_intent_each {ramsp : Option Addr} {ramsl : Nat} {ramsc : Nat} {x : Array Value} {w : World} {R : Value → World → Prop} (h : F_intent_each ramsp ramsl ramsc x w R) : CallV Tryz.prog 200 #[.slice ramsp ramsl ramsc, .agg x] w R := by
  exact calls_of_F (args := [.slice ramsp ramsl ramsc, .agg x]) (mkAnn [(2, [(10, (.int .i64))])] [] [] [] []) Tryz_mixed Tryz.func200 rfl rfl (by kernel_rfl) h
def F_intent_Begin (ramsp : Option Addr) (ramsl : Nat) (ramsc : Nat) (version : Int) (putsp : Option Addr) (putsl : Nat) (putsc : Nat) (w : World) (R : Value → World → Prop) : Prop :=
  CallV Tryz.prog 199 #[.slice ramsp ramsl ramsc] w fun v w => OpB v fun g => Cb g (Ret [] (R (.int .i64 2) w)) (LoopC (σ := Int × Unit) (fun _ s1 w K1 => Cb (decide (s1.1 <
  ((putsl : Nat) : Int))) (IdxS putsp putsl s1.1 19 fun b o => LdA 19 b o (At w) fun cs => Alc 88 (zc Tryz.prog 88) w fun b1 w => StA 19 b1 0 cs w fun w => LdV b1 0 (At w)
  fun v1 => OpI .i64 v1 fun n => Cb (decide (n < 0)) (Ret [] (R (.int .i64 2) w)) (LdV b1 0 (At w) fun v2 => OpI .i64 v2 fun n1 => Cb (decide (n1 ≥ 32)) (Ret [] (R (.int
  .i64 2) w)) (LdV b1 1 (At w) fun v3 => OpI .i64 v3 fun n2 => Cb (decide (n2 < 0)) (Ret [] (R (.int .i64 2) w)) (LdV b1 1 (At w) fun v4 => OpI .i64 v4 fun n3 => Cb (decide
  (n3 ≥ 1024)) (Ret [] (R (.int .i64 2) w)) (K1 (IntKind.wrap .i64 (s1.1 + 1), ()) w))))) (LoopC (σ := Int × Unit) (fun _ s2 w K2 => Cb (decide (s2.1 < ((putsl : Nat) :
  Int))) (IdxS putsp putsl s2.1 19 fun b2 o1 => LdA 19 b2 o1 (At w) fun cs1 => Alc 88 (zc Tryz.prog 88) w fun b3 w => StA 19 b3 0 cs1 w fun w => LdV b3 0 (At w) fun v5 =>
  OpI .i64 v5 fun n4 => LdV b3 1 (At w) fun v6 => OpI .i64 v6 fun n5 => LdA 16 b3 2 (At w) fun cs2 => DoQ Tryz.prog (Instr.build 246 #[(0, .int .i64 3), (1, .int .u64
  version), (2, .int .i64 (IntKind.wrap .i64 ((IntKind.wrap .i64 (n4 * 1024)) + n5))), (3, .agg cs2)]) (At w) fun v7 => OpA 19 v7 fun cs3 => CallV Tryz.prog 200 #[.slice
  ramsp ramsl ramsc, .agg cs3] w fun v8 w => OpI .i64 v8 fun n6 => Cb (n6 != 0) (Ret [] (R (.int .i64 n6) w)) (K2 (IntKind.wrap .i64 (s2.1 + 1), ()) w)) (DoQ Tryz.prog
  (Instr.build 246 #[(0, .int .i64 4), (1, .int .u64 version)]) (At w) fun v9 => OpA 19 v9 fun cs4 => CallV Tryz.prog 200 #[.slice ramsp ramsl ramsc, .agg cs4] w fun v10 w
  => OpI .i64 v10 fun n7 => Ret [] (R (.int .i64 n7) w))) (0, ()) w)) (0, ()) w)
theorem C_intent_Begin {ramsp : Option Addr} {ramsl : Nat} {ramsc : Nat} {version : Int} {putsp : Option Addr} {putsl : Nat} {putsc : Nat} {w : World} {R : Value → World → Prop} (h : F_intent_Begin ramsp ramsl ramsc version putsp putsl putsc w R) : CallV Tryz.prog 131 #[.slice ramsp ramsl ramsc, .int .u64 version, .slice putsp putsl putsc] w R := by
  exact calls_of_F (args := [.slice ramsp ramsl ramsc, .int .u64 version, .slice putsp putsl putsc]) (mkAnn [(4, [(16, (.int .i64))]), (10, [(45, (.int .i64))])] [] [] [] []) Tryz_mixed Tryz.func131 rfl rfl (by kernel_rfl) h
def F_intent_End (ramsp : Option Addr) (ramsl : Nat) (ramsc : Nat) (version : Int) (w : World) (R : Value → World → Prop) : Prop :=
  CallV Tryz.prog 199 #[.slice ramsp ramsl ramsc] w fun v w => OpB v fun g => Cb g (Ret [] (R (.int .i64 2) w)) (DoQ Tryz.prog (Instr.build 246 #[(0, .int .i64 5), (1, .int
  .u64 version)]) (At w) fun v1 => OpA 19 v1 fun cs => CallV Tryz.prog 200 #[.slice ramsp ramsl ramsc, .agg cs] w fun v2 w => OpI .i64 v2 fun n => Ret [] (R (.int .i64 n)
  w))
theorem C_intent_End {ramsp : Option Addr} {ramsl : Nat} {ramsc : Nat} {version : Int} {w : World} {R : Value → World → Prop} (h : F_intent_End ramsp ramsl ramsc version w R) : CallV Tryz.prog 133 #[.slice ramsp ramsl ramsc, .int .u64 version] w R := by
  exact calls_of_F (args := [.slice ramsp ramsl ramsc, .int .u64 version]) (mkAnn [] [] [] [] []) Tryz_mixed Tryz.func133 rfl rfl (by kernel_rfl) h
def F_intent_group (listp : Option Addr) (listl : Nat) (listc : Nat) (version : Int) (w : World) (R : Value → World → Prop) : Prop :=
  LoopC (σ := (Option Addr × Nat × Nat) × Int × Unit) (fun _ s1 w K1 => Cb (decide (s1.2.1 < ((listl : Nat) : Int))) (IdxS listp listl s1.2.1 19 fun b o => LdA 19 b o (At w)
  fun cs => Alc 246 (zc Tryz.prog 246) w fun b1 w => StA 19 b1 0 cs w fun w => LdV b1 0 (At w) fun v => OpI .i64 v fun n => Cb (n == 3) (LdV b1 1 (At w) fun v1 => OpI .u64
  v1 fun n1 => Cb (n1 == version) (LdV b1 2 (At w) fun v2 => OpI .i64 v2 fun n2 => Req ((1024 : Int) ≠ 0) (LdV b1 2 (At w) fun v3 => OpI .i64 v3 fun n3 => Req ((1024 : Int)
  ≠ 0) (DoQ Tryz.prog (Instr.build 84 #[(0, .int .i64 (IntKind.wrap .i64 (Int.tdiv n2 1024))), (1, .int .i64 (Int.tmod n3 1024))]) (At w) fun v4 => OpA 2 v4 fun cs1 => Alc
  84 (zc Tryz.prog 84) w fun b2 w => StA 2 b2 0 cs1 w fun w => JoinC (σ := (Option Addr × Nat × Nat) × Unit) (fun J2 => HeldR w fun S w => LdA 2 b2 0 S fun cs2 => LdV b2 1 S
  fun v5 => OpI .i64 v5 fun n4 => LdA 16 b1 3 S fun cs3 => CallV Tryz.prog 116 #[.int .i64 n4, .agg cs3] w fun v6 w => OpA 17 v6 fun cs4 => Hld (S w) (DoQ Tryz.prog
  (Instr.build 88 #[(0, .agg cs2), (1, .agg cs4)]) S fun v7 => OpA 19 v7 fun cs5 => DoV Tryz.prog (Instr.buildSlice 75 1 #[(0, .agg cs5)]) w fun v8 w => OpS v8 fun p l c =>
  Hld (S w) (DoV Tryz.prog (Builtin.append_ #[75, 75] 75 #[.slice s1.1.1 s1.1.2.1 s1.1.2.2, .slice p l c]) w fun v9 w => OpS v9 fun p1 l1 c1 => Hld (S w) (J2 ((p1, l1, c1),
  ()) w)))) (fun _ s2 w => K1 ((s2.1.1, s2.1.2.1, s2.1.2.2), (IntKind.wrap .i64 (s1.2.1 + 1), ())) w)))) (K1 ((s1.1.1, s1.1.2.1, s1.1.2.2), (IntKind.wrap .i64 (s1.2.1 + 1),
  ())) w)) (K1 ((s1.1.1, s1.1.2.1, s1.1.2.2), (IntKind.wrap .i64 (s1.2.1 + 1), ())) w)) (Ret [] (R (.slice s1.1.1 s1.1.2.1 s1.1.2.2) w))) ((none, 0, 0), (0, ())) w
theorem C_intent_group {listp : Option Addr} {listl : Nat} {listc : Nat} {version : Int} {w : World} {R : Value → World → Prop} (h : F_intent_group listp listl listc version w R) : CallV Tryz.prog 202 #[.slice listp listl listc, .int .u64 version] w R := by
  exact calls_of_F (args := [.slice listp listl listc, .int .u64 version]) (mkAnnR [(3, [(5, .slice), (11, (.int .i64))])] [] [] [] [37] [] [(7, [(5, .slice)])]) Tryz_mixed Tryz.func202 rfl rfl (by kernel_rfl) h
def F_intent_Pending (listsp : Option Addr) (listsl : Nat) (listsc : Nat) (w : World) (R : Value → World → Prop) : Prop :=
  DoV Tryz.prog (Instr.makeMap 297 none) w fun v w => OpM v fun m => CallV Tryz.prog 201 #[.slice listsp listsl listsc] w fun v1 w => OpS v1 fun p l c => LoopC (σ := Int ×
  Unit) (fun _ s1 w K1 => Cb (decide (s1.1 < ((l : Nat) : Int))) (IdxS p l s1.1 19 fun b o => LdA 19 b o (At w) fun cs => Alc 246 (zc Tryz.prog 246) w fun b1 w => StA 19 b1
  0 cs w fun w => LdV b1 0 (At w) fun v2 => OpI .i64 v2 fun n => Cb (n == 5) (LdV b1 1 (At w) fun v3 => OpI .u64 v3 fun n1 => DoQ Tryz.prog (Instr.build 130 #[]) (At w) fun
  v4 => OpA 0 v4 fun cs1 => DoU Tryz.prog (Instr.mapUpdate 297 (.map m) (.int .u64 n1) (.agg cs1)) w fun w => K1 (IntKind.wrap .i64 (s1.1 + 1), ()) w) (K1 (IntKind.wrap .i64
  (s1.1 + 1), ()) w)) (DoV Tryz.prog (Instr.makeMap 298 none) w fun v5 w => OpM v5 fun m1 => LoopC (σ := Int × Unit) (fun _ s2 w K2 => Cb (decide (s2.1 < ((listsl : Nat) :
  Int))) (IdxS listsp listsl s2.1 1 fun b2 o1 => LdV b2 o1 (At w) fun v6 => OpS v6 fun p1 l1 c1 => LoopC (σ := Int × Unit) (fun _ s3 w K3 => Cb (decide (s3.1 < ((l1 : Nat) :
  Int))) (IdxS p1 l1 s3.1 19 fun b3 o2 => LdA 19 b3 o2 (At w) fun cs2 => Alc 246 (zc Tryz.prog 246) w fun b4 w => StA 19 b4 0 cs2 w fun w => LdV b4 0 (At w) fun v7 => OpI
  .i64 v7 fun n2 => Cb (n2 != 4) (K3 (IntKind.wrap .i64 (s3.1 + 1), ()) w) (LdV b4 1 (At w) fun v8 => OpI .u64 v8 fun n3 => DoQ Tryz.prog (Instr.lookup 297 (.map m) (.int
  .u64 n3) true) (At w) fun v9 => T2 v9 fun v10 v11 => OpA 0 v10 fun cs3 => OpB v11 fun g => Alc 130 (zc Tryz.prog 130) w fun b5 w => StA 0 b5 0 cs3 w fun w => LdV b4 1 (At
  w) fun v12 => OpI .u64 v12 fun n4 => DoQ Tryz.prog (Instr.lookup 298 (.map m1) (.int .u64 n4) true) (At w) fun v13 => T2 v13 fun v14 v15 => OpS v14 fun p2 l2 c2 => OpB v15
  fun g1 => Req ((!g) = (!g)) (Req ((!g) = (!g)) (Cb (cond (!g) (!g1) false) (HeldR w fun S w => LdV b4 1 S fun v16 => OpI .u64 v16 fun n5 => Slc l1 c1 none (some s3.1) none
  fun l3 h m2 => LdV b4 1 (At w) fun v17 => OpI .u64 v17 fun n6 => CallV Tryz.prog 202 #[.slice (slcP 19 l3 m2 p1) (h - l3) (m2 - l3), .int .u64 n6] w fun v18 w => OpS v18
  fun p3 l4 c3 => Hld (S w) (DoU Tryz.prog (Instr.mapUpdate 298 (.map m1) (.int .u64 n5) (.slice p3 l4 c3)) w fun w => Hld (S w) (K3 (IntKind.wrap .i64 (s3.1 + 1), ()) w)))
  (K3 (IntKind.wrap .i64 (s3.1 + 1), ()) w))))) (K2 (IntKind.wrap .i64 (s2.1 + 1), ()) w)) (0, ()) w) (DoV Tryz.prog (Instr.range 298 (.map m1)) w fun v19 w => OpN v19 fun
  b6 o3 => LoopC (σ := (Option Addr × Nat × Nat) × Unit) (fun _ s4 w K4 => DoV Tryz.prog (Instr.next (.pointer (some ⟨b6, o3, none⟩)) false 0) w fun v20 w => OpX v20 (fun k
  x => DoQ Tryz.prog (Instr.entry (.pointer (some ⟨b6, o3, none⟩))) (At w) fun v21 => T2 v21 fun v22 v23 => OpI .u64 v22 fun n7 => DoV Tryz.prog (Instr.buildSlice 302 1
  #[(0, .int .u64 n7)]) w fun v24 w => OpS v24 fun p4 l5 c4 => DoV Tryz.prog (Builtin.append_ #[302, 302] 302 #[.slice s4.1.1 s4.1.2.1 s4.1.2.2, .slice p4 l5 c4]) w fun v25
  w => OpS v25 fun p5 l6 c5 => K4 ((p5, l6, c5), ()) w) (CallV Tryz.prog 203 #[.slice s4.1.1 s4.1.2.1 s4.1.2.2] w fun v26 w => LoopC (σ := (Option Addr × Nat × Nat) × Int ×
  Unit) (fun _ s5 w K5 => Cb (decide (s5.2.1 < ((s4.1.2.1 : Nat) : Int))) (IdxS s4.1.1 s4.1.2.1 s5.2.1 1 fun b7 o4 => LdV b7 o4 (At w) fun v27 => OpI .u64 v27 fun n8 => DoQ
  Tryz.prog (Instr.lookup 298 (.map m1) (.int .u64 n8) false) (At w) fun v28 => OpS v28 fun p6 l7 c6 => DoV Tryz.prog (Builtin.append_ #[75, 75] 75 #[.slice s5.1.1 s5.1.2.1
  s5.1.2.2, .slice p6 l7 c6]) w fun v29 w => OpS v29 fun p7 l8 c7 => K5 ((p7, l8, c7), (IntKind.wrap .i64 (s5.2.1 + 1), ())) w) (Ret [] (R (.slice s5.1.1 s5.1.2.1 s5.1.2.2)
  w))) ((none, 0, 0), (0, ())) w)) ((none, 0, 0), ()) w)) (0, ()) w)) (0, ()) w
theorem C_intent_Pending {listsp : Option Addr} {listsl : Nat} {listsc : Nat} {w : World} {R : Value → World → Prop} (h : F_intent_Pending listsp listsl listsc w R) : CallV Tryz.prog 132 #[.slice listsp listsl listsc] w R := by
  exact calls_of_F (args := [.slice listsp listsl listsc]) (mkAnn [(3, [(24, (.int .i64))]), (10, [(39, (.int .i64))]), (13, [(45, (.int .i64))]), (24, [(15, .slice)]), (30, [(17, .slice), (98, (.int .i64))])] [] [] [(88, ((.int .u64), .any))] [81]) Tryz_mixed Tryz.func132 rfl rfl (by kernel_rfl) h
def F_intent_Redo (s : Array Value) (epoch : Int) (listsp : Option Addr) (listsl : Nat) (listsc : Nat) (w : World) (R : Value → World → Prop) : Prop :=
  Alc 51 s w fun b w => LdA 4 b 0 (At w) fun cs => CallV Tryz.prog 93 #[.agg cs] w fun v w => OpI .i64 v fun n => Cb (n != 0) (Ret [] (R (.int .i64 n) w)) (JoinC (σ := Int ×
  Unit) (fun J1 => HeldR w fun S w => LdA 4 b 0 S fun cs1 => CallV Tryz.prog 132 #[.slice listsp listsl listsc] w fun v1 w => OpS v1 fun p l c => Hld (S w) (CallV Tryz.prog
  38 #[.agg cs1, .slice p l c, .int .u32 epoch] w fun v2 w => OpI .i64 v2 fun n1 => Hld (S w) (J1 (n1, ()) w))) (fun _ s1 w => Ret [] (R (.int .i64 s1.1) w)))
theorem C_intent_Redo {s : Array Value} {epoch : Int} {listsp : Option Addr} {listsl : Nat} {listsc : Nat} {w : World} {R : Value → World → Prop} (h : F_intent_Redo s epoch listsp listsl listsc w R) : CallV Tryz.prog 61 #[.agg s, .int .u32 epoch, .slice listsp listsl listsc] w R := by
  exact calls_of_F (args := [.agg s, .int .u32 epoch, .slice listsp listsl listsc]) (mkAnnR [] [] [] [] [15, 17] [] [(4, [(6, (.int .i64))])]) Tryz_mixed Tryz.func61 rfl rfl (by kernel_rfl) h
end Go.Proofs
