/- PRINTED BY pr.py (own program): what the evaluator of <Name>Ev makes of the code of some functions. -/
import Derived.Test.YtacnieopbkeoiaaChecked
import Derived.Test.YtacnieopbkeoiaaEv
import Derived.Test.YtacnieopbkeoiaaMix
namespace Go.Proofs
open Go.Ev
set_option linter.unusedVariables false
set_option maxRecDepth 100000
def F_slices_Concat_Record (slicesp : Option Addr) (slicesl : Nat) (slicesc : Nat) (w : World) (R : Value → World → Prop) : Prop :=
  LoopC (σ := Int × Int × Unit) (fun _ s1 w K1 => Cb (decide (s1.2.1 < ((slicesl : Nat) : Int))) (IdxS slicesp slicesl s1.2.1 1 fun b o => LdV b o (At w) fun v => OpS v fun
  p l c => Cb (decide (IntKind.wrap .i64 (s1.1 + ((l : Nat) : Int)) < 0)) (False) (K1 (IntKind.wrap .i64 (s1.1 + ((l : Nat) : Int)), (IntKind.wrap .i64 (s1.2.1 + 1), ()))
  w)) (CallV Try.prog 49 #[.slice none 0 0, .int .i64 s1.1] w fun v1 w => OpS v1 fun p1 l1 c1 => LoopC (σ := (Option Addr × Nat × Nat) × Int × Unit) (fun _ s2 w K2 => Cb
  (decide (s2.2.1 < ((slicesl : Nat) : Int))) (IdxS slicesp slicesl s2.2.1 1 fun b1 o1 => LdV b1 o1 (At w) fun v2 => OpS v2 fun p2 l2 c2 => DoV Try.prog (Builtin.append_
  #[37, 37] 37 #[.slice s2.1.1 s2.1.2.1 s2.1.2.2, .slice p2 l2 c2]) w fun v3 w => OpS v3 fun p3 l3 c3 => K2 ((p3, l3, c3), (IntKind.wrap .i64 (s2.2.1 + 1), ())) w) (Ret []
  (R (.slice s2.1.1 s2.1.2.1 s2.1.2.2) w))) ((p1, l1, c1), (0, ())) w)) (0, (0, ())) w
theorem C_slices_Concat_Record {slicesp : Option Addr} {slicesl : Nat} {slicesc : Nat} {w : World} {R : Value → World → Prop} (h : F_slices_Concat_Record slicesp slicesl slicesc w R) : CallV Try.prog 36 #[.slice slicesp slicesl slicesc] w R := by
  exact calls_of_F (args := [.slice slicesp slicesl slicesc]) (mkAnn [(3, [(3, (.int .i64)), (11, (.int .i64))]), (11, [(6, .slice), (27, (.int .i64))])] [] [] [] []) Try_mixed Try.func36 rfl rfl (by kernel_rfl) h
def F_slices_Grow_Record (sp : Option Addr) (sl : Nat) (sc : Nat) (n : Int) (w : World) (R : Value → World → Prop) : Prop :=
  Cb (decide (n < 0)) (False) (Cb (decide (IntKind.wrap .i64 (n - (IntKind.wrap .i64 (((sc : Nat) : Int) - ((sl : Nat) : Int)))) > 0)) (Slc sl sc none (some ((sc : Nat) :
  Int)) none fun l h m => DoV Try.prog (Builtin.append_ #[37, 3] 37 #[.slice (slcP 19 l m sp) (h - l) (m - l), .int .i64 (IntKind.wrap .i64 (n - (IntKind.wrap .i64 (((sc :
  Nat) : Int) - ((sl : Nat) : Int)))))]) w fun v w => OpS v fun p l1 c => Slc l1 c none (some ((sl : Nat) : Int)) none fun l2 h1 m1 => Ret [] (R (.slice (slcP 19 l2 m1 p)
  (h1 - l2) (m1 - l2)) w)) (Ret [] (R (.slice sp sl sc) w)))
theorem C_slices_Grow_Record {sp : Option Addr} {sl : Nat} {sc : Nat} {n : Int} {w : World} {R : Value → World → Prop} (h : F_slices_Grow_Record sp sl sc n w R) : CallV Try.prog 49 #[.slice sp sl sc, .int .i64 n] w R := by
  exact calls_of_F (args := [.slice sp sl sc, .int .i64 n]) (mkAnn [] [] [] [] []) Try_mixed Try.func49 rfl rfl (by kernel_rfl) h
def F_merge_Dirty (listsp : Option Addr) (listsl : Nat) (listsc : Nat) (w : World) (R : Value → World → Prop) : Prop :=
  DoV Try.prog (Instr.makeMap 81 none) w fun v w => OpM v fun m => DoV Try.prog (Instr.makeMap 82 none) w fun v1 w => OpM v1 fun m1 => CallV Try.prog 36 #[.slice listsp
  listsl listsc] w fun v2 w => OpS v2 fun p l c => LoopC (σ := Int × Unit) (fun _ s1 w K1 => Cb (decide (s1.1 < ((l : Nat) : Int))) (IdxS p l s1.1 19 fun b o => LdA 19 b o
  (At w) fun cs => Alc 42 (zc Try.prog 42) w fun b1 w => StA 19 b1 0 cs w fun w => LdV b1 2 (At w) fun v3 => OpI .i64 v3 fun n => DoQ Try.prog (Instr.lookup 81 (.map m)
  (.int .i64 n) true) (At w) fun v4 => T2 v4 fun v5 v6 => OpA 19 v5 fun cs1 => OpB v6 fun g => Alc 42 (zc Try.prog 42) w fun b2 w => StA 19 b2 0 cs1 w fun w => LdV b1 0 (At
  w) fun v7 => OpI .i64 v7 fun n1 => Cb (n1 == 2) (LdV b1 2 (At w) fun v8 => OpI .i64 v8 fun n2 => DoQ Try.prog (Instr.lookup 82 (.map m1) (.int .i64 n2) true) (At w) fun v9
  => T2 v9 fun v10 v11 => OpI .u64 v10 fun n3 => OpB v11 fun g1 => Cb (!g1) (LdV b1 2 (At w) fun v12 => OpI .i64 v12 fun n4 => LdV b1 1 (At w) fun v13 => OpI .u64 v13 fun n5
  => DoU Try.prog (Instr.mapUpdate 82 (.map m1) (.int .i64 n4) (.int .u64 n5)) w fun w => K1 (IntKind.wrap .i64 (s1.1 + 1), ()) w) (LdV b1 1 (At w) fun v14 => OpI .u64 v14
  fun n6 => Cb (decide (n3 < n6)) (LdV b1 2 (At w) fun v15 => OpI .i64 v15 fun n7 => LdV b1 1 (At w) fun v16 => OpI .u64 v16 fun n8 => DoU Try.prog (Instr.mapUpdate 82 (.map
  m1) (.int .i64 n7) (.int .u64 n8)) w fun w => K1 (IntKind.wrap .i64 (s1.1 + 1), ()) w) (K1 (IntKind.wrap .i64 (s1.1 + 1), ()) w))) (LdV b1 0 (At w) fun v17 => OpI .i64 v17
  fun n9 => Cb (n9 == 1) (Cb (!g) (LdV b1 2 (At w) fun v18 => OpI .i64 v18 fun n10 => LdA 19 b1 0 (At w) fun cs2 => DoU Try.prog (Instr.mapUpdate 81 (.map m) (.int .i64 n10)
  (.agg cs2)) w fun w => K1 (IntKind.wrap .i64 (s1.1 + 1), ()) w) (LdV b2 1 (At w) fun v19 => OpI .u64 v19 fun n11 => LdV b1 1 (At w) fun v20 => OpI .u64 v20 fun n12 => Cb
  (decide (n11 < n12)) (LdV b1 2 (At w) fun v21 => OpI .i64 v21 fun n13 => LdA 19 b1 0 (At w) fun cs3 => DoU Try.prog (Instr.mapUpdate 81 (.map m) (.int .i64 n13) (.agg
  cs3)) w fun w => K1 (IntKind.wrap .i64 (s1.1 + 1), ()) w) (K1 (IntKind.wrap .i64 (s1.1 + 1), ()) w))) (K1 (IntKind.wrap .i64 (s1.1 + 1), ()) w))) (DoV Try.prog
  (Instr.range 81 (.map m)) w fun v22 w => OpN v22 fun b3 o1 => LoopC (σ := (Option Addr × Nat × Nat) × Unit) (fun _ s2 w K2 => DoV Try.prog (Instr.next (.pointer (some ⟨b3,
  o1, none⟩)) false 0) w fun v23 w => OpX v23 (fun k x => DoQ Try.prog (Instr.entry (.pointer (some ⟨b3, o1, none⟩))) (At w) fun v24 => T2 v24 fun v25 v26 => OpI .i64 v25
  fun n14 => OpA 19 v26 fun cs4 => Alc 42 (zc Try.prog 42) w fun b4 w => StA 19 b4 0 cs4 w fun w => DoQ Try.prog (Instr.lookup 82 (.map m1) (.int .i64 n14) true) (At w) fun
  v27 => T2 v27 fun v28 v29 => OpI .u64 v28 fun n15 => OpB v29 fun g2 => Cb (!g2) (LdA 19 b4 0 (At w) fun cs5 => DoV Try.prog (Instr.buildSlice 37 1 #[(0, .agg cs5)]) w fun
  v30 w => OpS v30 fun p1 l1 c1 => DoV Try.prog (Builtin.append_ #[37, 37] 37 #[.slice s2.1.1 s2.1.2.1 s2.1.2.2, .slice p1 l1 c1]) w fun v31 w => OpS v31 fun p2 l2 c2 => K2
  ((p2, l2, c2), ()) w) (LdV b4 1 (At w) fun v32 => OpI .u64 v32 fun n16 => Cb (decide (n15 < n16)) (LdA 19 b4 0 (At w) fun cs6 => DoV Try.prog (Instr.buildSlice 37 1 #[(0,
  .agg cs6)]) w fun v33 w => OpS v33 fun p3 l3 c3 => DoV Try.prog (Builtin.append_ #[37, 37] 37 #[.slice s2.1.1 s2.1.2.1 s2.1.2.2, .slice p3 l3 c3]) w fun v34 w => OpS v34
  fun p4 l4 c4 => K2 ((p4, l4, c4), ()) w) (K2 ((s2.1.1, s2.1.2.1, s2.1.2.2), ()) w))) (CallV Try.prog 37 #[.slice s2.1.1 s2.1.2.1 s2.1.2.2, .func (.func 38) #[] #[]] w fun
  v35 w => Ret [] (R (.slice s2.1.1 s2.1.2.1 s2.1.2.2) w))) ((none, 0, 0), ()) w)) (0, ()) w
theorem C_merge_Dirty {listsp : Option Addr} {listsl : Nat} {listsc : Nat} {w : World} {R : Value → World → Prop} (h : F_merge_Dirty listsp listsl listsc w R) : CallV Try.prog 20 #[.slice listsp listsl listsc] w R := by
  exact calls_of_F (args := [.slice listsp listsl listsc]) (mkAnn [(3, [(21, (.int .i64))]), (15, [(11, .slice)])] [] [] [(80, ((.int .i64), (.agg 19)))] []) Try_mixed Try.func20 rfl rfl (by kernel_rfl) h
end Go.Proofs
