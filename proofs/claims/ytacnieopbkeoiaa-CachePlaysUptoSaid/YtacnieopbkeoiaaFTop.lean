/- PRINTED BY pr.py (own program): what the evaluator of <Name>Ev makes of the code of some functions. -/
import Derived.Test.YtacnieopbkeoiaaChecked
import Derived.Test.YtacnieopbkeoiaaEv
import Derived.Test.YtacnieopbkeoiaaMix
namespace Go.Proofs
open Go.Ev
set_option linter.unusedVariables false
set_option maxRecDepth 100000
def F_merge_Top (listsp : Option Addr) (listsl : Nat) (listsc : Nat) (w : World) (R : Value → World → Prop) : Prop :=
  CallV Try.prog 36 #[.slice listsp listsl listsc] w fun v w => OpS v fun p l c => LoopC (σ := Int × Int × Unit) (fun _ s1 w K1 => Cb (decide (s1.2.1 < ((l : Nat) : Int)))
  (IdxS p l s1.2.1 19 fun b o => LdA 19 b o (At w) fun cs => Alc 42 (zc Try.prog 42) w fun b1 w => StA 19 b1 0 cs w fun w => LdV b1 0 (At w) fun v1 => OpI .i64 v1 fun n =>
  Cb (decide (n ≥ 1)) (LdV b1 0 (At w) fun v2 => OpI .i64 v2 fun n1 => Cb (decide (n1 ≤ 5)) (LdV b1 1 (At w) fun v3 => OpI .u64 v3 fun n2 => DoQ Try.prog (Builtin.max_ #[32,
  32] 32 #[.int .u64 s1.1, .int .u64 n2]) (At w) fun v4 => OpI .u64 v4 fun n3 => K1 (n3, (IntKind.wrap .i64 (s1.2.1 + 1), ())) w) (K1 (s1.1, (IntKind.wrap .i64 (s1.2.1 + 1),
  ())) w)) (K1 (s1.1, (IntKind.wrap .i64 (s1.2.1 + 1), ())) w)) (Ret [] (R (.int .u64 s1.1) w))) (0, (0, ())) w
theorem C_merge_Top {listsp : Option Addr} {listsl : Nat} {listsc : Nat} {w : World} {R : Value → World → Prop} (h : F_merge_Top listsp listsl listsc w R) : CallV Try.prog 24 #[.slice listsp listsl listsc] w R := by
  exact calls_of_F (args := [.slice listsp listsl listsc]) (mkAnn [(3, [(3, (.int .u64)), (9, (.int .i64))])] [] [] [] []) Try_mixed Try.func24 rfl rfl (by kernel_rfl) h
def F_ravelinref13_Top (listsp : Option Addr) (listsl : Nat) (listsc : Nat) (w : World) (R : Value → World → Prop) : Prop :=
  CallV Try.prog 42 #[.slice listsp listsl listsc] w fun v w => OpS v fun p l c => LoopC (σ := Int × Int × Unit) (fun _ s1 w K1 => Cb (decide (s1.2.1 < ((l : Nat) : Int)))
  (IdxS p l s1.2.1 19 fun b o => LdV b o (At w) fun v1 => OpI .i64 v1 fun n => Cb (decide (n ≥ 1)) (IdxS p l s1.2.1 19 fun b1 o1 => LdV b1 o1 (At w) fun v2 => OpI .i64 v2
  fun n1 => Cb (decide (n1 ≤ 5)) (IdxS p l s1.2.1 19 fun b2 o2 => LdV b2 (o2 + 1) (At w) fun v3 => OpI .u64 v3 fun n2 => Cb (decide (n2 > s1.1)) (IdxS p l s1.2.1 19 fun b3
  o3 => LdV b3 (o3 + 1) (At w) fun v4 => OpI .u64 v4 fun n3 => K1 (n3, (IntKind.wrap .i64 (s1.2.1 + 1), ())) w) (K1 (s1.1, (IntKind.wrap .i64 (s1.2.1 + 1), ())) w)) (K1
  (s1.1, (IntKind.wrap .i64 (s1.2.1 + 1), ())) w)) (K1 (s1.1, (IntKind.wrap .i64 (s1.2.1 + 1), ())) w)) (Ret [] (R (.int .u64 s1.1) w))) (0, (0, ())) w
theorem C_ravelinref13_Top {listsp : Option Addr} {listsl : Nat} {listsc : Nat} {w : World} {R : Value → World → Prop} (h : F_ravelinref13_Top listsp listsl listsc w R) : CallV Try.prog 25 #[.slice listsp listsl listsc] w R := by
  exact calls_of_F (args := [.slice listsp listsl listsc]) (mkAnn [(4, [(3, (.int .u64)), (5, (.int .i64))])] [] [] [] []) Try_mixed Try.func25 rfl rfl (by kernel_rfl) h
def F_ravelinref13_joined (listsp : Option Addr) (listsl : Nat) (listsc : Nat) (w : World) (R : Value → World → Prop) : Prop :=
  DoV Try.prog (Instr.buildSlice 37 0 #[]) w fun v w => OpS v fun p l c => LoopC (σ := (Option Addr × Nat × Nat) × Int × Unit) (fun _ s1 w K1 => Cb (decide (s1.2.1 <
  ((listsl : Nat) : Int))) (IdxS listsp listsl s1.2.1 1 fun b o => LdV b o (At w) fun v1 => OpS v1 fun p1 l1 c1 => DoV Try.prog (Builtin.append_ #[37, 37] 37 #[.slice s1.1.1
  s1.1.2.1 s1.1.2.2, .slice p1 l1 c1]) w fun v2 w => OpS v2 fun p2 l2 c2 => K1 ((p2, l2, c2), (IntKind.wrap .i64 (s1.2.1 + 1), ())) w) (Ret [] (R (.slice s1.1.1 s1.1.2.1
  s1.1.2.2) w))) ((p, l, c), (0, ())) w
theorem C_ravelinref13_joined {listsp : Option Addr} {listsl : Nat} {listsc : Nat} {w : World} {R : Value → World → Prop} (h : F_ravelinref13_joined listsp listsl listsc w R) : CallV Try.prog 42 #[.slice listsp listsl listsc] w R := by
  exact calls_of_F (args := [.slice listsp listsl listsc]) (mkAnn [(3, [(3, .slice), (4, (.int .i64))])] [] [] [] []) Try_mixed Try.func42 rfl rfl (by kernel_rfl) h
def F_ravelinref04_SameRecords (ap : Option Addr) (al : Nat) (ac : Nat) (bp : Option Addr) (bl : Nat) (bc : Nat) (w : World) (R : Value → World → Prop) : Prop :=
  Cb (((al : Nat) : Int) != ((bl : Nat) : Int)) (Ret [] (R (.bool false) w)) (LoopC (σ := Int × Unit) (fun _ s1 w K1 => Cb (decide (s1.1 < ((al : Nat) : Int))) (IdxS ap al
  s1.1 19 fun b o => LdA 19 b o (At w) fun cs => IdxS bp bl s1.1 19 fun b1 o1 => LdA 19 b1 o1 (At w) fun cs1 => EqB Try.prog .neq 42 (.tmp 20) (.tmp 24) (.agg cs : Value)
  (.agg cs1 : Value) (At w) fun g => Drw w fun w => Cb g (Ret [] (R (.bool false) w)) (K1 (IntKind.wrap .i64 (s1.1 + 1), ()) w)) (Ret [] (R (.bool true) w))) (0, ()) w)
theorem C_ravelinref04_SameRecords {ap : Option Addr} {al : Nat} {ac : Nat} {bp : Option Addr} {bl : Nat} {bc : Nat} {w : World} {R : Value → World → Prop} (h : F_ravelinref04_SameRecords ap al ac bp bl bc w R) : CallV Try.prog 21 #[.slice ap al ac, .slice bp bl bc] w R := by
  exact calls_of_F (args := [.slice ap al ac, .slice bp bl bc]) (mkAnn [(4, [(5, (.int .i64))])] [] [] [] []) Try_mixed Try.func21 rfl rfl (by kernel_rfl) h
def F_ravelinlaw13_copies (listsp : Option Addr) (listsl : Nat) (listsc : Nat) (w : World) (R : Value → World → Prop) : Prop :=
  DoV Try.prog (Instr.buildSlice 44 0 #[]) w fun v w => OpS v fun p l c => LoopC (σ := (Option Addr × Nat × Nat) × Int × Unit) (fun _ s1 w K1 => Cb (decide (s1.2.1 <
  ((listsl : Nat) : Int))) (DoV Try.prog (Instr.buildSlice 37 0 #[]) w fun v1 w => OpS v1 fun p1 l1 c1 => IdxS listsp listsl s1.2.1 1 fun b o => LdV b o (At w) fun v2 => OpS
  v2 fun p2 l2 c2 => DoV Try.prog (Builtin.append_ #[37, 37] 37 #[.slice p1 l1 c1, .slice p2 l2 c2]) w fun v3 w => OpS v3 fun p3 l3 c3 => DoV Try.prog (Instr.buildSlice 44 1
  #[(0, .slice p3 l3 c3)]) w fun v4 w => OpS v4 fun p4 l4 c4 => DoV Try.prog (Builtin.append_ #[44, 44] 44 #[.slice s1.1.1 s1.1.2.1 s1.1.2.2, .slice p4 l4 c4]) w fun v5 w =>
  OpS v5 fun p5 l5 c5 => K1 ((p5, l5, c5), (IntKind.wrap .i64 (s1.2.1 + 1), ())) w) (Ret [] (R (.slice s1.1.1 s1.1.2.1 s1.1.2.2) w))) ((p, l, c), (0, ())) w
theorem C_ravelinlaw13_copies {listsp : Option Addr} {listsl : Nat} {listsc : Nat} {w : World} {R : Value → World → Prop} (h : F_ravelinlaw13_copies listsp listsl listsc w R) : CallV Try.prog 22 #[.slice listsp listsl listsc] w R := by
  exact calls_of_F (args := [.slice listsp listsl listsc]) (mkAnn [(3, [(3, .slice), (4, (.int .i64))])] [] [] [] []) Try_mixed Try.func22 rfl rfl (by kernel_rfl) h
def F_ravelinlaw13_told (listp : Option Addr) (listl : Nat) (listc : Nat) (w : World) (R : Value → World → Prop) : Prop :=
  DoV Try.prog (Instr.buildSlice 37 0 #[]) w fun v w => OpS v fun p l c => LoopC (σ := (Option Addr × Nat × Nat) × Int × Unit) (fun _ s1 w K1 => Cb (decide (s1.2.1 < ((listl
  : Nat) : Int))) (IdxS listp listl s1.2.1 19 fun b o => LdA 19 b o (At w) fun cs => Alc 42 (zc Try.prog 42) w fun b1 w => StA 19 b1 0 cs w fun w => LdV b1 1 (At w) fun v1
  => OpI .u64 v1 fun n => LdV b1 1 (At w) fun v2 => OpI .u64 v2 fun n1 => Req (0 ≤ (8 : Int)) (LdV b1 2 (At w) fun v3 => OpI .i64 v3 fun n2 => DoQ Try.prog (Instr.build 31
  #[(0, .int .u8 (IntKind.wrap .u8 n)), (1, .int .u8 (IntKind.wrap .u8 (ishr .u64 n1 8))), (2, .int .u8 (IntKind.wrap .u8 n2))]) (At w) fun v4 => OpA 16 v4 fun cs1 => StA 16
  b1 3 cs1 w fun w => LdA 19 b1 0 (At w) fun cs2 => DoV Try.prog (Instr.buildSlice 37 1 #[(0, .agg cs2)]) w fun v5 w => OpS v5 fun p1 l1 c1 => DoV Try.prog (Builtin.append_
  #[37, 37] 37 #[.slice s1.1.1 s1.1.2.1 s1.1.2.2, .slice p1 l1 c1]) w fun v6 w => OpS v6 fun p2 l2 c2 => K1 ((p2, l2, c2), (IntKind.wrap .i64 (s1.2.1 + 1), ())) w)) (Ret []
  (R (.slice s1.1.1 s1.1.2.1 s1.1.2.2) w))) ((p, l, c), (0, ())) w
theorem C_ravelinlaw13_told {listp : Option Addr} {listl : Nat} {listc : Nat} {w : World} {R : Value → World → Prop} (h : F_ravelinlaw13_told listp listl listc w R) : CallV Try.prog 19 #[.slice listp listl listc] w R := by
  exact calls_of_F (args := [.slice listp listl listc]) (mkAnn [(3, [(3, .slice), (4, (.int .i64))])] [] [] [] []) Try_mixed Try.func19 rfl rfl (by kernel_rfl) h
end Go.Proofs
