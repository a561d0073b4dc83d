/- PRINTED BY pr.py (own program): what the evaluator of <Name>Ev makes of the code of some functions. -/
import Derived.Test.YtacnieopbkeoiaaChecked
import Derived.Test.YtacnieopbkeoiaaEv
import Derived.Test.YtacnieopbkeoiaaMix
namespace Go.Proofs
open Go.Ev
set_option linter.unusedVariables false
set_option maxRecDepth 100000
def F_ravelinref13_Dirty (listsp : Option Addr) (listsl : Nat) (listsc : Nat) (w : World) (R : Value → World → Prop) : Prop :=
  CallV Try.prog 42 #[.slice listsp listsl listsc] w fun v w => OpS v fun p l c => DoV Try.prog (Instr.buildSlice 37 0 #[]) w fun v1 w => OpS v1 fun p1 l1 c1 => LoopC (σ :=
  (Option Addr × Nat × Nat) × Int × Unit) (fun _ s1 w K1 => Cb (decide (s1.2.1 < ((l : Nat) : Int))) (IdxS p l s1.2.1 19 fun b o => LdV b o (At w) fun v2 => OpI .i64 v2 fun
  n => LoopC (σ := Bool × Int × Unit) (fun _ s2 w K2 => Req ((decide (s2.2.1 < ((l : Nat) : Int))) = (decide (s2.2.1 < ((l : Nat) : Int)))) (Cb (cond (decide (s2.2.1 < ((l :
  Nat) : Int))) s2.1 false) (IdxS p l s2.2.1 19 fun b1 o1 => LdA 19 b1 o1 (At w) fun cs => Alc 42 (zc Try.prog 42) w fun b2 w => StA 19 b2 0 cs w fun w => LdV b2 2 (At w)
  fun v3 => OpI .i64 v3 fun n1 => IdxS p l s1.2.1 19 fun b3 o2 => LdV b3 (o2 + 2) (At w) fun v4 => OpI .i64 v4 fun n2 => Drw w fun w => Cb (n1 != n2) (K2 (s2.1,
  (IntKind.wrap .i64 (s2.2.1 + 1), ())) w) (LdV b2 0 (At w) fun v5 => OpI .i64 v5 fun n3 => Cb (n3 == 1) (LdV b2 1 (At w) fun v6 => OpI .u64 v6 fun n4 => IdxS p l s1.2.1 19
  fun b4 o3 => LdV b4 (o3 + 1) (At w) fun v7 => OpI .u64 v7 fun n5 => Cb (decide (n4 > n5)) (Drw w fun w => Drw w fun w => K2 (false, (IntKind.wrap .i64 (s2.2.1 + 1), ()))
  w) (LdV b2 1 (At w) fun v8 => OpI .u64 v8 fun n6 => IdxS p l s1.2.1 19 fun b5 o4 => LdV b5 (o4 + 1) (At w) fun v9 => OpI .u64 v9 fun n7 => Cb (n6 == n7) (Drw w fun w => Cb
  (decide (s2.2.1 < s1.2.1)) (Drw w fun w => K2 (false, (IntKind.wrap .i64 (s2.2.1 + 1), ())) w) (LdV b2 0 (At w) fun v10 => OpI .i64 v10 fun n8 => Cb (n8 == 2) (LdV b2 1
  (At w) fun v11 => OpI .u64 v11 fun n9 => IdxS p l s1.2.1 19 fun b6 o5 => LdV b6 (o5 + 1) (At w) fun v12 => OpI .u64 v12 fun n10 => Drw w fun w => Cb (decide (n9 ≥ n10))
  (K2 (false, (IntKind.wrap .i64 (s2.2.1 + 1), ())) w) (K2 (s2.1, (IntKind.wrap .i64 (s2.2.1 + 1), ())) w)) (Drw w fun w => K2 (s2.1, (IntKind.wrap .i64 (s2.2.1 + 1), ()))
  w))) (Drw w fun w => LdV b2 0 (At w) fun v13 => OpI .i64 v13 fun n11 => Cb (n11 == 2) (LdV b2 1 (At w) fun v14 => OpI .u64 v14 fun n12 => IdxS p l s1.2.1 19 fun b7 o6 =>
  LdV b7 (o6 + 1) (At w) fun v15 => OpI .u64 v15 fun n13 => Drw w fun w => Cb (decide (n12 ≥ n13)) (K2 (false, (IntKind.wrap .i64 (s2.2.1 + 1), ())) w) (K2 (s2.1,
  (IntKind.wrap .i64 (s2.2.1 + 1), ())) w)) (Drw w fun w => K2 (s2.1, (IntKind.wrap .i64 (s2.2.1 + 1), ())) w)))) (Drw w fun w => LdV b2 0 (At w) fun v16 => OpI .i64 v16 fun
  n14 => Cb (n14 == 2) (LdV b2 1 (At w) fun v17 => OpI .u64 v17 fun n15 => IdxS p l s1.2.1 19 fun b8 o7 => LdV b8 (o7 + 1) (At w) fun v18 => OpI .u64 v18 fun n16 => Drw w
  fun w => Cb (decide (n15 ≥ n16)) (K2 (false, (IntKind.wrap .i64 (s2.2.1 + 1), ())) w) (K2 (s2.1, (IntKind.wrap .i64 (s2.2.1 + 1), ())) w)) (Drw w fun w => K2 (s2.1,
  (IntKind.wrap .i64 (s2.2.1 + 1), ())) w)))) (Cb s2.1 (IdxS p l s1.2.1 19 fun b9 o8 => LdA 19 b9 o8 (At w) fun cs1 => DoV Try.prog (Instr.buildSlice 37 1 #[(0, .agg cs1)])
  w fun v19 w => OpS v19 fun p2 l2 c2 => DoV Try.prog (Builtin.append_ #[37, 37] 37 #[.slice s1.1.1 s1.1.2.1 s1.1.2.2, .slice p2 l2 c2]) w fun v20 w => OpS v20 fun p3 l3 c3
  => K1 ((p3, l3, c3), (IntKind.wrap .i64 (s1.2.1 + 1), ())) w) (K1 ((s1.1.1, s1.1.2.1, s1.1.2.2), (IntKind.wrap .i64 (s1.2.1 + 1), ())) w)))) (n == 1, (0, ())) w) (CallV
  Try.prog 43 #[.slice s1.1.1 s1.1.2.1 s1.1.2.2] w fun v21 w => OpS v21 fun p4 l4 c4 => Ret [] (R (.slice p4 l4 c4) w))) ((p1, l1, c1), (0, ())) w
theorem C_ravelinref13_Dirty {listsp : Option Addr} {listsl : Nat} {listsc : Nat} {w : World} {R : Value → World → Prop} (h : F_ravelinref13_Dirty listsp listsl listsc w R) : CallV Try.prog 23 #[.slice listsp listsl listsc] w R := by
  exact calls_of_F (args := [.slice listsp listsl listsc]) (mkAnn [(4, [(4, .slice), (5, (.int .i64))]), (8, [(6, .bool), (7, (.int .i64))])] [] [] [] []) Try_mixed Try.func23 rfl rfl (by kernel_rfl) h
def F_ravelinlaw13_MergeDirties (listsp : Option Addr) (listsl : Nat) (listsc : Nat) (w : World) (R : Value → World → Prop) : Prop :=
  CallV Try.prog 22 #[.slice listsp listsl listsc] w fun v w => OpS v fun p l c => CallV Try.prog 18 #[] w fun v1 w => OpB v1 fun g => Cb (!g) (Ret [] (R (.bool false) w))
  (CallV Try.prog 20 #[.slice p l c] w fun v2 w => OpS v2 fun p1 l1 c1 => CallV Try.prog 23 #[.slice listsp listsl listsc] w fun v3 w => OpS v3 fun p2 l2 c2 => CallV
  Try.prog 21 #[.slice p1 l1 c1, .slice p2 l2 c2] w fun v4 w => OpB v4 fun g1 => Cb (!g1) (Ret [] (R (.bool false) w)) (CallV Try.prog 24 #[.slice p l c] w fun v5 w => OpI
  .u64 v5 fun n => CallV Try.prog 25 #[.slice listsp listsl listsc] w fun v6 w => OpI .u64 v6 fun n1 => Cb (n != n1) (Ret [] (R (.bool false) w)) (LoopC (σ := Int × Unit)
  (fun _ s1 w K1 => Cb (decide (s1.1 < ((listsl : Nat) : Int))) (IdxS p l s1.1 1 fun b o => LdV b o (At w) fun v7 => OpS v7 fun p3 l3 c3 => IdxS listsp listsl s1.1 1 fun b1
  o1 => LdV b1 o1 (At w) fun v8 => OpS v8 fun p4 l4 c4 => CallQ Try.prog 21 #[.slice p3 l3 c3, .slice p4 l4 c4] (At w) fun v9 => OpB v9 fun g2 => Drw w fun w => Cb (!g2)
  (Ret [] (R (.bool false) w)) (K1 (IntKind.wrap .i64 (s1.1 + 1), ()) w)) (Ret [] (R (.bool true) w))) (0, ()) w)))
theorem C_ravelinlaw13_MergeDirties {listsp : Option Addr} {listsl : Nat} {listsc : Nat} {w : World} {R : Value → World → Prop} (h : F_ravelinlaw13_MergeDirties listsp listsl listsc w R) : CallV Try.prog 6 #[.slice listsp listsl listsc] w R := by
  exact calls_of_F (args := [.slice listsp listsl listsc]) (mkAnn [(5, [(4, (.int .i64))])] [] [] [] []) Try_mixed Try.func6 rfl rfl (by kernel_rfl) h
def F_ravelinlaw13_MergeAny (ap : Option Addr) (al : Nat) (ac : Nat) (bp : Option Addr) (bl : Nat) (bc : Nat) (w : World) (R : Value → World → Prop) : Prop :=
  CallV Try.prog 18 #[] w fun v w => OpB v fun g => Cb (!g) (Ret [] (R (.bool false) w)) (CallV Try.prog 19 #[.slice ap al ac] w fun v1 w => OpS v1 fun p l c => CallV
  Try.prog 19 #[.slice bp bl bc] w fun v2 w => OpS v2 fun p1 l1 c1 => DoV Try.prog (Instr.buildSlice 44 2 #[(0, .slice p l c), (1, .slice p1 l1 c1)]) w fun v3 w => OpS v3
  fun p2 l2 c2 => CallV Try.prog 20 #[.slice p2 l2 c2] w fun v4 w => OpS v4 fun p3 l3 c3 => DoV Try.prog (Instr.buildSlice 44 2 #[(0, .slice p1 l1 c1), (1, .slice p l c)]) w
  fun v5 w => OpS v5 fun p4 l4 c4 => CallV Try.prog 20 #[.slice p4 l4 c4] w fun v6 w => OpS v6 fun p5 l5 c5 => DoV Try.prog (Instr.buildSlice 37 0 #[]) w fun v7 w => OpS v7
  fun p6 l6 c6 => DoV Try.prog (Builtin.append_ #[37, 37] 37 #[.slice p6 l6 c6, .slice p l c]) w fun v8 w => OpS v8 fun p7 l7 c7 => DoV Try.prog (Builtin.append_ #[37, 37]
  37 #[.slice p7 l7 c7, .slice p1 l1 c1]) w fun v9 w => OpS v9 fun p8 l8 c8 => DoV Try.prog (Instr.buildSlice 44 1 #[(0, .slice p8 l8 c8)]) w fun v10 w => OpS v10 fun p9 l9
  c9 => CallV Try.prog 20 #[.slice p9 l9 c9] w fun v11 w => OpS v11 fun p10 l10 c10 => DoV Try.prog (Instr.buildSlice 44 3 #[(0, .slice p l c), (1, .slice p1 l1 c1), (2,
  .slice p l c)]) w fun v12 w => OpS v12 fun p11 l11 c11 => CallV Try.prog 20 #[.slice p11 l11 c11] w fun v13 w => OpS v13 fun p12 l12 c12 => DoV Try.prog (Instr.buildSlice
  44 2 #[(0, .slice p l c), (1, .slice p1 l1 c1)]) w fun v14 w => OpS v14 fun p13 l13 c13 => CallV Try.prog 20 #[.slice p13 l13 c13] w fun v15 w => OpS v15 fun p14 l14 c14
  => DoV Try.prog (Instr.buildSlice 44 3 #[(0, .slice p14 l14 c14), (1, .slice p l c), (2, .slice p1 l1 c1)]) w fun v16 w => OpS v16 fun p15 l15 c15 => CallV Try.prog 20
  #[.slice p15 l15 c15] w fun v17 w => OpS v17 fun p16 l16 c16 => CallV Try.prog 21 #[.slice p3 l3 c3, .slice p5 l5 c5] w fun v18 w => OpB v18 fun g1 => Cb g1 (CallV
  Try.prog 21 #[.slice p3 l3 c3, .slice p10 l10 c10] w fun v19 w => OpB v19 fun g2 => Cb g2 (CallV Try.prog 21 #[.slice p3 l3 c3, .slice p12 l12 c12] w fun v20 w => OpB v20
  fun g3 => Cb g3 (CallV Try.prog 21 #[.slice p3 l3 c3, .slice p16 l16 c16] w fun v21 w => OpB v21 fun g4 => Ret [] (R (.bool g4) w)) (Ret [] (R (.bool false) w))) (Ret []
  (R (.bool false) w))) (Ret [] (R (.bool false) w)))
theorem C_ravelinlaw13_MergeAny {ap : Option Addr} {al : Nat} {ac : Nat} {bp : Option Addr} {bl : Nat} {bc : Nat} {w : World} {R : Value → World → Prop} (h : F_ravelinlaw13_MergeAny ap al ac bp bl bc w R) : CallV Try.prog 4 #[.slice ap al ac, .slice bp bl bc] w R := by
  exact calls_of_F (args := [.slice ap al ac, .slice bp bl bc]) (mkAnn [] [] [] [] []) Try_mixed Try.func4 rfl rfl (by kernel_rfl) h
def F_ravelinlaw13_MergeCleans (ap : Option Addr) (al : Nat) (ac : Nat) (bp : Option Addr) (bl : Nat) (bc : Nat) (lba : Int) (version : Int) (w : World) (R : Value → World → Prop) : Prop :=
  CallV Try.prog 18 #[] w fun v w => OpB v fun g => Cb (!g) (Ret [] (R (.bool false) w)) (DoQ Try.prog (Instr.build 42 #[(0, .int .i64 2), (1, .int .u64 (IntKind.wrap .u64
  version)), (2, .int .i64 (IntKind.wrap .i64 lba))]) (At w) fun v1 => OpA 19 v1 fun cs => Alc 42 (zc Try.prog 42) w fun b w => StA 19 b 0 cs w fun w => DoV Try.prog
  (Instr.buildSlice 44 2 #[(0, .slice ap al ac), (1, .slice bp bl bc)]) w fun v2 w => OpS v2 fun p l c => CallV Try.prog 20 #[.slice p l c] w fun v3 w => OpS v3 fun p1 l1 c1
  => DoV Try.prog (Instr.buildSlice 37 0 #[]) w fun v4 w => OpS v4 fun p2 l2 c2 => LdA 19 b 0 (At w) fun cs1 => DoV Try.prog (Instr.buildSlice 37 1 #[(0, .agg cs1)]) w fun
  v5 w => OpS v5 fun p3 l3 c3 => DoV Try.prog (Builtin.append_ #[37, 37] 37 #[.slice p2 l2 c2, .slice p3 l3 c3]) w fun v6 w => OpS v6 fun p4 l4 c4 => DoV Try.prog
  (Builtin.append_ #[37, 37] 37 #[.slice p4 l4 c4, .slice bp bl bc]) w fun v7 w => OpS v7 fun p5 l5 c5 => DoV Try.prog (Instr.buildSlice 44 2 #[(0, .slice ap al ac), (1,
  .slice p5 l5 c5)]) w fun v8 w => OpS v8 fun p6 l6 c6 => CallV Try.prog 20 #[.slice p6 l6 c6] w fun v9 w => OpS v9 fun p7 l7 c7 => DoV Try.prog (Instr.buildSlice 37 0 #[])
  w fun v10 w => OpS v10 fun p8 l8 c8 => LoopC (σ := (Option Addr × Nat × Nat) × Int × Unit) (fun _ s1 w K1 => Cb (decide (s1.2.1 < ((l1 : Nat) : Int))) (IdxS p1 l1 s1.2.1
  19 fun b1 o => LdV b1 (o + 2) (At w) fun v11 => OpI .i64 v11 fun n => LdV b 2 (At w) fun v12 => OpI .i64 v12 fun n1 => Cb (n != n1) (Drw w fun w => IdxS p1 l1 s1.2.1 19
  fun b2 o1 => LdA 19 b2 o1 (At w) fun cs2 => DoV Try.prog (Instr.buildSlice 37 1 #[(0, .agg cs2)]) w fun v13 w => OpS v13 fun p9 l9 c9 => DoV Try.prog (Builtin.append_
  #[37, 37] 37 #[.slice s1.1.1 s1.1.2.1 s1.1.2.2, .slice p9 l9 c9]) w fun v14 w => OpS v14 fun p10 l10 c10 => K1 ((p10, l10, c10), (IntKind.wrap .i64 (s1.2.1 + 1), ())) w)
  (IdxS p1 l1 s1.2.1 19 fun b3 o2 => LdV b3 (o2 + 1) (At w) fun v15 => OpI .u64 v15 fun n2 => LdV b 1 (At w) fun v16 => OpI .u64 v16 fun n3 => Drw w fun w => Cb (decide (n2
  > n3)) (IdxS p1 l1 s1.2.1 19 fun b4 o3 => LdA 19 b4 o3 (At w) fun cs3 => DoV Try.prog (Instr.buildSlice 37 1 #[(0, .agg cs3)]) w fun v17 w => OpS v17 fun p11 l11 c11 =>
  DoV Try.prog (Builtin.append_ #[37, 37] 37 #[.slice s1.1.1 s1.1.2.1 s1.1.2.2, .slice p11 l11 c11]) w fun v18 w => OpS v18 fun p12 l12 c12 => K1 ((p12, l12, c12),
  (IntKind.wrap .i64 (s1.2.1 + 1), ())) w) (K1 ((s1.1.1, s1.1.2.1, s1.1.2.2), (IntKind.wrap .i64 (s1.2.1 + 1), ())) w))) (HeldR w fun S w => CallV Try.prog 21 #[.slice p7 l7
  c7, .slice s1.1.1 s1.1.2.1 s1.1.2.2] w fun v19 w => OpB v19 fun g1 => Hld (S w) (Cb g1 (LdA 19 b 0 S fun cs4 => LdA 19 b 0 S fun cs5 => (DoV Try.prog (Instr.buildSlice 37
  1 #[(0, .agg cs4)]) w fun v20 w => OpS v20 fun p13 l13 c13 => Hld (S w) ((DoV Try.prog (Instr.buildSlice 44 3 #[(0, .slice bp bl bc), (1, .slice ap al ac), (2, .slice p13
  l13 c13)]) w fun v21 w => OpS v21 fun p14 l14 c14 => Hld (S w) ((CallV Try.prog 20 #[.slice p14 l14 c14] w fun v22 w => OpS v22 fun p15 l15 c15 => Hld (S w) (DoV Try.prog
  (Instr.buildSlice 37 1 #[(0, .agg cs5)]) w fun v23 w => OpS v23 fun p16 l16 c16 => Hld (S w) (DoV Try.prog (Instr.buildSlice 44 3 #[(0, .slice p16 l16 c16), (1, .slice bp
  bl bc), (2, .slice ap al ac)]) w fun v24 w => OpS v24 fun p17 l17 c17 => Hld (S w) (CallV Try.prog 20 #[.slice p17 l17 c17] w fun v25 w => OpS v25 fun p18 l18 c18 => Hld
  (S w) (CallV Try.prog 21 #[.slice p15 l15 c15, .slice p18 l18 c18] w fun v26 w => OpB v26 fun g2 => Hld (S w) (Ret [] (R (.bool g2) w))))))) ∧ (DoV Try.prog
  (Instr.buildSlice 37 1 #[(0, .agg cs5)]) w fun v27 w => OpS v27 fun p19 l19 c19 => Hld (S w) ((CallV Try.prog 20 #[.slice p14 l14 c14] w fun v28 w => OpS v28 fun p20 l20
  c20 => Hld (S w) (DoV Try.prog (Instr.buildSlice 44 3 #[(0, .slice p19 l19 c19), (1, .slice bp bl bc), (2, .slice ap al ac)]) w fun v29 w => OpS v29 fun p21 l21 c21 => Hld
  (S w) (CallV Try.prog 20 #[.slice p21 l21 c21] w fun v30 w => OpS v30 fun p22 l22 c22 => Hld (S w) (CallV Try.prog 21 #[.slice p20 l20 c20, .slice p22 l22 c22] w fun v31 w
  => OpB v31 fun g3 => Hld (S w) (Ret [] (R (.bool g3) w)))))) ∧ (DoV Try.prog (Instr.buildSlice 44 3 #[(0, .slice p19 l19 c19), (1, .slice bp bl bc), (2, .slice ap al ac)])
  w fun v32 w => OpS v32 fun p23 l23 c23 => Hld (S w) (CallV Try.prog 20 #[.slice p14 l14 c14] w fun v33 w => OpS v33 fun p24 l24 c24 => Hld (S w) (CallV Try.prog 20
  #[.slice p23 l23 c23] w fun v34 w => OpS v34 fun p25 l25 c25 => Hld (S w) (CallV Try.prog 21 #[.slice p24 l24 c24, .slice p25 l25 c25] w fun v35 w => OpB v35 fun g4 => Hld
  (S w) (Ret [] (R (.bool g4) w)))))))))) ∧ (DoV Try.prog (Instr.buildSlice 37 1 #[(0, .agg cs5)]) w fun v36 w => OpS v36 fun p26 l26 c26 => Hld (S w) ((DoV Try.prog
  (Instr.buildSlice 44 3 #[(0, .slice bp bl bc), (1, .slice ap al ac), (2, .slice p13 l13 c13)]) w fun v37 w => OpS v37 fun p27 l27 c27 => Hld (S w) ((CallV Try.prog 20
  #[.slice p27 l27 c27] w fun v38 w => OpS v38 fun p28 l28 c28 => Hld (S w) (DoV Try.prog (Instr.buildSlice 44 3 #[(0, .slice p26 l26 c26), (1, .slice bp bl bc), (2, .slice
  ap al ac)]) w fun v39 w => OpS v39 fun p29 l29 c29 => Hld (S w) (CallV Try.prog 20 #[.slice p29 l29 c29] w fun v40 w => OpS v40 fun p30 l30 c30 => Hld (S w) (CallV
  Try.prog 21 #[.slice p28 l28 c28, .slice p30 l30 c30] w fun v41 w => OpB v41 fun g5 => Hld (S w) (Ret [] (R (.bool g5) w)))))) ∧ (DoV Try.prog (Instr.buildSlice 44 3 #[(0,
  .slice p26 l26 c26), (1, .slice bp bl bc), (2, .slice ap al ac)]) w fun v42 w => OpS v42 fun p31 l31 c31 => Hld (S w) (CallV Try.prog 20 #[.slice p27 l27 c27] w fun v43 w
  => OpS v43 fun p32 l32 c32 => Hld (S w) (CallV Try.prog 20 #[.slice p31 l31 c31] w fun v44 w => OpS v44 fun p33 l33 c33 => Hld (S w) (CallV Try.prog 21 #[.slice p32 l32
  c32, .slice p33 l33 c33] w fun v45 w => OpB v45 fun g6 => Hld (S w) (Ret [] (R (.bool g6) w)))))))) ∧ (DoV Try.prog (Instr.buildSlice 44 3 #[(0, .slice p26 l26 c26), (1,
  .slice bp bl bc), (2, .slice ap al ac)]) w fun v46 w => OpS v46 fun p34 l34 c34 => Hld (S w) (DoV Try.prog (Instr.buildSlice 44 3 #[(0, .slice bp bl bc), (1, .slice ap al
  ac), (2, .slice p13 l13 c13)]) w fun v47 w => OpS v47 fun p35 l35 c35 => Hld (S w) (CallV Try.prog 20 #[.slice p35 l35 c35] w fun v48 w => OpS v48 fun p36 l36 c36 => Hld
  (S w) (CallV Try.prog 20 #[.slice p34 l34 c34] w fun v49 w => OpS v49 fun p37 l37 c37 => Hld (S w) (CallV Try.prog 21 #[.slice p36 l36 c36, .slice p37 l37 c37] w fun v50 w
  => OpB v50 fun g7 => Hld (S w) (Ret [] (R (.bool g7) w))))))))))) ∧ (DoV Try.prog (Instr.buildSlice 37 1 #[(0, .agg cs5)]) w fun v51 w => OpS v51 fun p38 l38 c38 => Hld (S
  w) ((DoV Try.prog (Instr.buildSlice 37 1 #[(0, .agg cs4)]) w fun v52 w => OpS v52 fun p39 l39 c39 => Hld (S w) ((DoV Try.prog (Instr.buildSlice 44 3 #[(0, .slice bp bl
  bc), (1, .slice ap al ac), (2, .slice p39 l39 c39)]) w fun v53 w => OpS v53 fun p40 l40 c40 => Hld (S w) ((CallV Try.prog 20 #[.slice p40 l40 c40] w fun v54 w => OpS v54
  fun p41 l41 c41 => Hld (S w) (DoV Try.prog (Instr.buildSlice 44 3 #[(0, .slice p38 l38 c38), (1, .slice bp bl bc), (2, .slice ap al ac)]) w fun v55 w => OpS v55 fun p42
  l42 c42 => Hld (S w) (CallV Try.prog 20 #[.slice p42 l42 c42] w fun v56 w => OpS v56 fun p43 l43 c43 => Hld (S w) (CallV Try.prog 21 #[.slice p41 l41 c41, .slice p43 l43
  c43] w fun v57 w => OpB v57 fun g8 => Hld (S w) (Ret [] (R (.bool g8) w)))))) ∧ (DoV Try.prog (Instr.buildSlice 44 3 #[(0, .slice p38 l38 c38), (1, .slice bp bl bc), (2,
  .slice ap al ac)]) w fun v58 w => OpS v58 fun p44 l44 c44 => Hld (S w) (CallV Try.prog 20 #[.slice p40 l40 c40] w fun v59 w => OpS v59 fun p45 l45 c45 => Hld (S w) (CallV
  Try.prog 20 #[.slice p44 l44 c44] w fun v60 w => OpS v60 fun p46 l46 c46 => Hld (S w) (CallV Try.prog 21 #[.slice p45 l45 c45, .slice p46 l46 c46] w fun v61 w => OpB v61
  fun g9 => Hld (S w) (Ret [] (R (.bool g9) w)))))))) ∧ (DoV Try.prog (Instr.buildSlice 44 3 #[(0, .slice p38 l38 c38), (1, .slice bp bl bc), (2, .slice ap al ac)]) w fun
  v62 w => OpS v62 fun p47 l47 c47 => Hld (S w) (DoV Try.prog (Instr.buildSlice 44 3 #[(0, .slice bp bl bc), (1, .slice ap al ac), (2, .slice p39 l39 c39)]) w fun v63 w =>
  OpS v63 fun p48 l48 c48 => Hld (S w) (CallV Try.prog 20 #[.slice p48 l48 c48] w fun v64 w => OpS v64 fun p49 l49 c49 => Hld (S w) (CallV Try.prog 20 #[.slice p47 l47 c47]
  w fun v65 w => OpS v65 fun p50 l50 c50 => Hld (S w) (CallV Try.prog 21 #[.slice p49 l49 c49, .slice p50 l50 c50] w fun v66 w => OpB v66 fun g10 => Hld (S w) (Ret [] (R
  (.bool g10) w))))))))) ∧ (DoV Try.prog (Instr.buildSlice 44 3 #[(0, .slice p38 l38 c38), (1, .slice bp bl bc), (2, .slice ap al ac)]) w fun v67 w => OpS v67 fun p51 l51
  c51 => Hld (S w) (DoV Try.prog (Instr.buildSlice 37 1 #[(0, .agg cs4)]) w fun v68 w => OpS v68 fun p52 l52 c52 => Hld (S w) (DoV Try.prog (Instr.buildSlice 44 3 #[(0,
  .slice bp bl bc), (1, .slice ap al ac), (2, .slice p52 l52 c52)]) w fun v69 w => OpS v69 fun p53 l53 c53 => Hld (S w) (CallV Try.prog 20 #[.slice p53 l53 c53] w fun v70 w
  => OpS v70 fun p54 l54 c54 => Hld (S w) (CallV Try.prog 20 #[.slice p51 l51 c51] w fun v71 w => OpS v71 fun p55 l55 c55 => Hld (S w) (CallV Try.prog 21 #[.slice p54 l54
  c54, .slice p55 l55 c55] w fun v72 w => OpB v72 fun g11 => Hld (S w) (Ret [] (R (.bool g11) w))))))))))) ((Hld (S w) ((Hld (S w) ((Hld (S w) (Hld (S w) (Hld (S w) (Hld (S
  w) (Hld (S w) (Ret [] (R (.bool false) w))))))) ∧ (Hld (S w) ((Hld (S w) (Hld (S w) (Hld (S w) (Hld (S w) (Ret [] (R (.bool false) w)))))) ∧ (Hld (S w) (Hld (S w) (Hld (S
  w) (Hld (S w) (Ret [] (R (.bool false) w)))))))))) ∧ (Hld (S w) ((Hld (S w) ((Hld (S w) (Hld (S w) (Hld (S w) (Hld (S w) (Ret [] (R (.bool false) w)))))) ∧ (Hld (S w) (Hld
  (S w) (Hld (S w) (Hld (S w) (Ret [] (R (.bool false) w)))))))) ∧ (Hld (S w) (Hld (S w) (Hld (S w) (Hld (S w) (Hld (S w) (Ret [] (R (.bool false) w))))))))))) ∧ (Hld (S w)
  ((Hld (S w) ((Hld (S w) ((Hld (S w) (Hld (S w) (Hld (S w) (Hld (S w) (Ret [] (R (.bool false) w)))))) ∧ (Hld (S w) (Hld (S w) (Hld (S w) (Hld (S w) (Ret [] (R (.bool
  false) w)))))))) ∧ (Hld (S w) (Hld (S w) (Hld (S w) (Hld (S w) (Hld (S w) (Ret [] (R (.bool false) w))))))))) ∧ (Hld (S w) (Hld (S w) (Hld (S w) (Hld (S w) (Hld (S w) (Hld
  (S w) (Ret [] (R (.bool false) w)))))))))))))) ((p8, l8, c8), (0, ())) w)
theorem C_ravelinlaw13_MergeCleans {ap : Option Addr} {al : Nat} {ac : Nat} {bp : Option Addr} {bl : Nat} {bc : Nat} {lba : Int} {version : Int} {w : World} {R : Value → World → Prop} (h : F_ravelinlaw13_MergeCleans ap al ac bp bl bc lba version w R) : CallV Try.prog 5 #[.slice ap al ac, .slice bp bl bc, .int .u8 lba, .int .u8 version] w R := by
  exact calls_of_F (args := [.slice ap al ac, .slice bp bl bc, .int .u8 lba, .int .u8 version]) (mkAnn [(8, [(12, .slice), (13, (.int .i64))])] [] [] [] [75, 81]) Try_mixed Try.func5 rfl rfl (by kernel_rfl) h
end Go.Proofs
