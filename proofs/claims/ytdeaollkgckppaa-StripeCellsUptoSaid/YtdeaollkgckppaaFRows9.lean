/- PRINTED BY pr.py (own program): what the evaluator of <Name>Ev makes of the code of some functions. -/
import Derived.Test.YtdeaollkgckppaaChecked
import Derived.Test.YtdeaollkgckppaaEv
import Derived.Test.YtdeaollkgckppaaMix
namespace Go.Proofs
open Go.Ev
set_option linter.unusedVariables false
set_option maxRecDepth 100000
def F_Rows9 (a : Int) (b : Int) (c : Int) (listp : Option Addr) (listl : Nat) (listc : Nat) (x : Int) (y : Int) (z : Int) (w : World) (R : Value → World → Prop) : Prop :=
  CallV Try.prog 13 #[.int .u8 a, .int .u8 b, .int .u8 c] w fun v w => OpA 3 v fun cs => Alc 25 (zc Try.prog 25) w fun b1 w => StA 3 b1 0 cs w fun w => LdA 3 b1 0 (At w) fun
  cs1 => CallV Try.prog 14 #[.agg cs1] w fun v1 w => T2 v1 fun v2 v3 => OpA 12 v2 fun cs2 => OpB v3 fun g => Alc 37 (zc Try.prog 37) w fun b2 w => StA 12 b2 0 cs2 w fun w =>
  LdA 3 b1 0 (At w) fun cs3 => CallV Try.prog 15 #[.agg cs3] w fun v4 w => T2 v4 fun v5 v6 => OpI .i64 v5 fun n => OpI .i64 v6 fun n1 => CallV Try.prog 16 #[] w fun v7 w =>
  OpB v7 fun g1 => Req ((!g1) = (!g1)) (Req ((!g1) = (!g1)) (Cb (cond (!g1) true (!g)) (Ret [] (R (.bool false) w)) (DoV Try.prog (Instr.makeSlice 67 (.int .i64 n) (.int
  .i64 n)) w fun v8 w => OpS v8 fun p l c1 => LoopC (σ := Int × Unit) (fun _ s1 w K1 => Req ((decide (s1.1 < ((listl : Nat) : Int))) = (decide (s1.1 < ((listl : Nat) :
  Int)))) (Req ((decide (s1.1 < ((listl : Nat) : Int))) = (decide (s1.1 < ((listl : Nat) : Int)))) (Req ((decide (s1.1 < ((listl : Nat) : Int))) = (decide (s1.1 < ((listl :
  Nat) : Int)))) (Cb (cond (decide (s1.1 < ((listl : Nat) : Int))) (decide (s1.1 < n)) false) (HeldR w fun S w => LdA 4 b2 0 (At w) fun cs4 => IdxS listp listl s1.1 16 fun
  b3 o => LdA 16 b3 o (At w) fun cs5 => CallV Try.prog 17 #[.agg cs4, .int .i64 s1.1, .agg cs5] w fun v9 w => T2 v9 fun v10 v11 => OpS v10 fun p1 l1 c2 => OpI .i64 v11 fun
  n2 => Hld (S w) (Cb (n2 != 0) (Ret [] (R (.bool false) w)) (LdA 4 b2 0 (At w) fun cs6 => CallV Try.prog 18 #[.agg cs6, .slice p1 l1 c2, .int .u32 0] w fun v12 w => OpI
  .i64 v12 fun n3 => Cb (n3 != 0) (Ret [] (R (.bool false) w)) (IdxS listp listl s1.1 16 fun b4 o1 => LdA 16 b4 o1 (At w) fun cs7 => IdxS p l s1.1 16 fun b5 o2 => StA 16 b5
  o2 cs7 w fun w => K1 (IntKind.wrap .i64 (s1.1 + 1), ()) w)))) (LdV b1 0 (At w) fun v13 => OpI .i64 v13 fun n4 => Req (n4 ≠ 0) (LdV b1 0 (At w) fun v14 => OpI .i64 v14 fun
  n5 => Req (n5 ≠ 0) (LdV b1 0 (At w) fun v15 => OpI .i64 v15 fun n6 => Req (n6 ≠ 0) (Drw w fun w => LdV b2 3 (At w) fun v16 => OpS v16 fun p2 l2 c3 => IdxS p2 l2 (Int.tmod
  (IntKind.wrap .i64 x) n4) 1 fun b6 o3 => LdV b6 o3 (At w) fun v17 => OpN v17 fun b7 o4 => CallV Try.prog 26 #[.pointer (some ⟨b7, o4, none⟩), .int .i64 0] w fun v18 w =>
  OpI .i64 v18 fun n7 => LdV b2 3 (At w) fun v19 => OpS v19 fun p3 l3 c4 => IdxS p3 l3 (Int.tmod (IntKind.wrap .i64 y) n5) 1 fun b8 o5 => LdV b8 o5 (At w) fun v20 => OpN v20
  fun b9 o6 => CallV Try.prog 26 #[.pointer (some ⟨b9, o6, none⟩), .int .i64 0] w fun v21 w => OpI .i64 v21 fun n8 => LdA 4 b2 0 (At w) fun cs8 => CallV Try.prog 23 #[.agg
  cs8, .int .i64 0, .int .i64 0] w fun v22 w => T3 v22 fun v23 v24 v25 => OpS v23 fun p4 l4 c5 => OpS v24 fun p5 l5 c6 => OpI .i64 v25 fun n9 => Cb (n9 != 0) (Ret [] (R
  (.bool false) w)) (LdV b1 0 (At w) fun v26 => OpI .i64 v26 fun n10 => Cb (((l4 : Nat) : Int) != n10) (Ret [] (R (.bool false) w)) (Cb (!((((l5 : Nat) : Int) == 1) ==
  (Int.tmod (IntKind.wrap .i64 x) n4 == (Int.tmod (IntKind.wrap .i64 y) n5)))) (Ret [] (R (.bool false) w)) (LoopC (σ := Int × Unit) (fun _ s2 w K2 => LdV b1 0 (At w) fun
  v27 => OpI .i64 v27 fun n11 => Cb (decide (s2.1 < IntKind.wrap .i64 (n11 - 2))) (LdA 4 b2 0 (At w) fun cs9 => LdV b1 1 (At w) fun v28 => OpI .i64 v28 fun n12 => CallV
  Try.prog 25 #[.agg cs9, .int .i64 (IntKind.wrap .i64 (s2.1 * n12))] w fun v29 w => T2 v29 fun v30 v31 => OpA 16 v30 fun cs10 => OpI .i64 v31 fun n13 => Alc 23 (zc Try.prog
  23) w fun b10 w => StA 16 b10 0 cs10 w fun w => Cb (n13 != 0) (Drw w fun w => Ret [] (R (.bool false) w)) (LdA 16 b10 0 (At w) fun cs11 => IdxS p4 l4 s2.1 16 fun b11 o7 =>
  LdA 16 b11 o7 (At w) fun cs12 => EqB Try.prog .neq 23 (.tmp 173) (.tmp 177) (.agg cs11 : Value) (.agg cs12 : Value) (At w) fun g2 => Cb g2 (Drw w fun w => Ret [] (R (.bool
  false) w)) (LdA 16 b10 0 (At w) fun cs13 => LdV b1 1 (At w) fun v32 => OpI .i64 v32 fun n14 => IdxS p l (IntKind.wrap .i64 (s2.1 * n14)) 16 fun b12 o8 => LdA 16 b12 o8 (At
  w) fun cs14 => EqB Try.prog .neq 23 (.tmp 181) (.tmp 188) (.agg cs13 : Value) (.agg cs14 : Value) (At w) fun g3 => Drw w fun w => Cb g3 (Ret [] (R (.bool false) w)) (K2
  (IntKind.wrap .i64 (s2.1 + 1), ()) w)))) (LdV b2 3 (At w) fun v33 => OpS v33 fun p6 l6 c7 => IdxS p6 l6 (Int.tmod (IntKind.wrap .i64 z) n6) 1 fun b13 o9 => LdV b13 o9 (At
  w) fun v34 => OpN v34 fun b14 o10 => CallV Try.prog 26 #[.pointer (some ⟨b14, o10, none⟩), .int .i64 0] w fun v35 w => OpI .i64 v35 fun n15 => LdA 4 b2 0 (At w) fun cs15
  => CallV Try.prog 23 #[.agg cs15, .int .i64 0, .int .i64 0] w fun v36 w => T3 v36 fun v37 v38 v39 => OpS v37 fun p7 l7 c8 => OpS v38 fun p8 l8 c9 => OpI .i64 v39 fun n16
  => Req ((Int.tmod (IntKind.wrap .i64 x) n4 != (Int.tmod (IntKind.wrap .i64 y) n5)) = (Int.tmod (IntKind.wrap .i64 x) n4 != (Int.tmod (IntKind.wrap .i64 y) n5))) (Req
  ((Int.tmod (IntKind.wrap .i64 x) n4 != (Int.tmod (IntKind.wrap .i64 y) n5)) = (Int.tmod (IntKind.wrap .i64 x) n4 != (Int.tmod (IntKind.wrap .i64 y) n5))) (Req ((Int.tmod
  (IntKind.wrap .i64 x) n4 != (Int.tmod (IntKind.wrap .i64 y) n5)) = (Int.tmod (IntKind.wrap .i64 x) n4 != (Int.tmod (IntKind.wrap .i64 y) n5))) (Req ((cond (Int.tmod
  (IntKind.wrap .i64 x) n4 != (Int.tmod (IntKind.wrap .i64 y) n5)) (Int.tmod (IntKind.wrap .i64 x) n4 != (Int.tmod (IntKind.wrap .i64 z) n6)) false) = (cond (Int.tmod
  (IntKind.wrap .i64 x) n4 != (Int.tmod (IntKind.wrap .i64 y) n5)) (Int.tmod (IntKind.wrap .i64 x) n4 != (Int.tmod (IntKind.wrap .i64 z) n6)) false)) (Req ((cond (Int.tmod
  (IntKind.wrap .i64 x) n4 != (Int.tmod (IntKind.wrap .i64 y) n5)) (Int.tmod (IntKind.wrap .i64 x) n4 != (Int.tmod (IntKind.wrap .i64 z) n6)) false) = (cond (Int.tmod
  (IntKind.wrap .i64 x) n4 != (Int.tmod (IntKind.wrap .i64 y) n5)) (Int.tmod (IntKind.wrap .i64 x) n4 != (Int.tmod (IntKind.wrap .i64 z) n6)) false)) (Req ((cond (Int.tmod
  (IntKind.wrap .i64 x) n4 != (Int.tmod (IntKind.wrap .i64 y) n5)) (Int.tmod (IntKind.wrap .i64 x) n4 != (Int.tmod (IntKind.wrap .i64 z) n6)) false) = (cond (Int.tmod
  (IntKind.wrap .i64 x) n4 != (Int.tmod (IntKind.wrap .i64 y) n5)) (Int.tmod (IntKind.wrap .i64 x) n4 != (Int.tmod (IntKind.wrap .i64 z) n6)) false)) (Cb (!((n16 == 8) ==
  (cond (cond (Int.tmod (IntKind.wrap .i64 x) n4 != (Int.tmod (IntKind.wrap .i64 y) n5)) (Int.tmod (IntKind.wrap .i64 x) n4 != (Int.tmod (IntKind.wrap .i64 z) n6)) false)
  (Int.tmod (IntKind.wrap .i64 y) n5 != (Int.tmod (IntKind.wrap .i64 z) n6)) false))) (Ret [] (R (.bool false) w)) (Cb (!(cond (cond (Int.tmod (IntKind.wrap .i64 x) n4 !=
  (Int.tmod (IntKind.wrap .i64 y) n5)) (Int.tmod (IntKind.wrap .i64 x) n4 != (Int.tmod (IntKind.wrap .i64 z) n6)) false) (Int.tmod (IntKind.wrap .i64 y) n5 != (Int.tmod
  (IntKind.wrap .i64 z) n6)) false)) (Cb (n16 != 0) (Ret [] (R (.bool false) w)) (LoopC (σ := Int × Unit) (fun _ s3 w K3 => LdV b1 0 (At w) fun v40 => OpI .i64 v40 fun n17
  => Cb (decide (s3.1 < IntKind.wrap .i64 (n17 - 2))) (LdA 4 b2 0 (At w) fun cs16 => LdV b1 1 (At w) fun v41 => OpI .i64 v41 fun n18 => CallV Try.prog 25 #[.agg cs16, .int
  .i64 (IntKind.wrap .i64 (s3.1 * n18))] w fun v42 w => T2 v42 fun v43 v44 => OpA 16 v43 fun cs17 => OpI .i64 v44 fun n19 => Alc 23 (zc Try.prog 23) w fun b15 w => StA 16
  b15 0 cs17 w fun w => LdA 3 b1 0 (At w) fun cs18 => CallV Try.prog 27 #[.agg cs18, .int .i64 0, .int .i64 s3.1] w fun v45 w => OpI .i64 v45 fun n20 => Cb (cond (cond
  (Int.tmod (IntKind.wrap .i64 x) n4 != (Int.tmod (IntKind.wrap .i64 y) n5)) (Int.tmod (IntKind.wrap .i64 x) n4 != (Int.tmod (IntKind.wrap .i64 z) n6)) false) (Int.tmod
  (IntKind.wrap .i64 y) n5 != (Int.tmod (IntKind.wrap .i64 z) n6)) false) (Cb (n20 == (Int.tmod (IntKind.wrap .i64 x) n4)) (Cb (!(true == (n19 == 8))) (Drw w fun w => Ret []
  (R (.bool false) w)) (Cb (!true) (LdA 16 b15 0 (At w) fun cs19 => LdV b1 1 (At w) fun v46 => OpI .i64 v46 fun n21 => IdxS p l (IntKind.wrap .i64 (s3.1 * n21)) 16 fun b16
  o11 => LdA 16 b16 o11 (At w) fun cs20 => EqB Try.prog .neq 23 (.tmp 274) (.tmp 281) (.agg cs19 : Value) (.agg cs20 : Value) (At w) fun g4 => Drw w fun w => Cb g4 (Ret []
  (R (.bool false) w)) (K3 (IntKind.wrap .i64 (s3.1 + 1), ()) w)) (Drw w fun w => K3 (IntKind.wrap .i64 (s3.1 + 1), ()) w))) (Cb (n20 == (Int.tmod (IntKind.wrap .i64 y) n5))
  (Cb (!(true == (n19 == 8))) (Drw w fun w => Ret [] (R (.bool false) w)) (Cb (!true) (LdA 16 b15 0 (At w) fun cs21 => LdV b1 1 (At w) fun v47 => OpI .i64 v47 fun n22 =>
  IdxS p l (IntKind.wrap .i64 (s3.1 * n22)) 16 fun b17 o12 => LdA 16 b17 o12 (At w) fun cs22 => EqB Try.prog .neq 23 (.tmp 274) (.tmp 281) (.agg cs21 : Value) (.agg cs22 :
  Value) (At w) fun g5 => Drw w fun w => Cb g5 (Ret [] (R (.bool false) w)) (K3 (IntKind.wrap .i64 (s3.1 + 1), ()) w)) (Drw w fun w => K3 (IntKind.wrap .i64 (s3.1 + 1), ())
  w))) (Cb (!((n20 == (Int.tmod (IntKind.wrap .i64 z) n6)) == (n19 == 8))) (Drw w fun w => Ret [] (R (.bool false) w)) (Cb (!(n20 == (Int.tmod (IntKind.wrap .i64 z) n6)))
  (LdA 16 b15 0 (At w) fun cs23 => LdV b1 1 (At w) fun v48 => OpI .i64 v48 fun n23 => IdxS p l (IntKind.wrap .i64 (s3.1 * n23)) 16 fun b18 o13 => LdA 16 b18 o13 (At w) fun
  cs24 => EqB Try.prog .neq 23 (.tmp 274) (.tmp 281) (.agg cs23 : Value) (.agg cs24 : Value) (At w) fun g6 => Drw w fun w => Cb g6 (Ret [] (R (.bool false) w)) (K3
  (IntKind.wrap .i64 (s3.1 + 1), ()) w)) (Drw w fun w => K3 (IntKind.wrap .i64 (s3.1 + 1), ()) w))))) (Cb (!(false == (n19 == 8))) (Drw w fun w => Ret [] (R (.bool false)
  w)) (Cb (!false) (LdA 16 b15 0 (At w) fun cs25 => LdV b1 1 (At w) fun v49 => OpI .i64 v49 fun n24 => IdxS p l (IntKind.wrap .i64 (s3.1 * n24)) 16 fun b19 o14 => LdA 16 b19
  o14 (At w) fun cs26 => EqB Try.prog .neq 23 (.tmp 274) (.tmp 281) (.agg cs25 : Value) (.agg cs26 : Value) (At w) fun g7 => Drw w fun w => Cb g7 (Ret [] (R (.bool false)
  w)) (K3 (IntKind.wrap .i64 (s3.1 + 1), ()) w)) (Drw w fun w => K3 (IntKind.wrap .i64 (s3.1 + 1), ()) w)))) (Ret [] (R (.bool true) w))) (0, ()) w)) (LoopC (σ := Int ×
  Unit) (fun _ s4 w K4 => LdV b1 0 (At w) fun v50 => OpI .i64 v50 fun n25 => Cb (decide (s4.1 < IntKind.wrap .i64 (n25 - 2))) (LdA 4 b2 0 (At w) fun cs27 => LdV b1 1 (At w)
  fun v51 => OpI .i64 v51 fun n26 => CallV Try.prog 25 #[.agg cs27, .int .i64 (IntKind.wrap .i64 (s4.1 * n26))] w fun v52 w => T2 v52 fun v53 v54 => OpA 16 v53 fun cs28 =>
  OpI .i64 v54 fun n27 => Alc 23 (zc Try.prog 23) w fun b20 w => StA 16 b20 0 cs28 w fun w => LdA 3 b1 0 (At w) fun cs29 => CallV Try.prog 27 #[.agg cs29, .int .i64 0, .int
  .i64 s4.1] w fun v55 w => OpI .i64 v55 fun n28 => Cb (cond (cond (Int.tmod (IntKind.wrap .i64 x) n4 != (Int.tmod (IntKind.wrap .i64 y) n5)) (Int.tmod (IntKind.wrap .i64 x)
  n4 != (Int.tmod (IntKind.wrap .i64 z) n6)) false) (Int.tmod (IntKind.wrap .i64 y) n5 != (Int.tmod (IntKind.wrap .i64 z) n6)) false) (Cb (n28 == (Int.tmod (IntKind.wrap
  .i64 x) n4)) (Cb (!(true == (n27 == 8))) (Drw w fun w => Ret [] (R (.bool false) w)) (Cb (!true) (LdA 16 b20 0 (At w) fun cs30 => LdV b1 1 (At w) fun v56 => OpI .i64 v56
  fun n29 => IdxS p l (IntKind.wrap .i64 (s4.1 * n29)) 16 fun b21 o15 => LdA 16 b21 o15 (At w) fun cs31 => EqB Try.prog .neq 23 (.tmp 274) (.tmp 281) (.agg cs30 : Value)
  (.agg cs31 : Value) (At w) fun g8 => Drw w fun w => Cb g8 (Ret [] (R (.bool false) w)) (K4 (IntKind.wrap .i64 (s4.1 + 1), ()) w)) (Drw w fun w => K4 (IntKind.wrap .i64
  (s4.1 + 1), ()) w))) (Cb (n28 == (Int.tmod (IntKind.wrap .i64 y) n5)) (Cb (!(true == (n27 == 8))) (Drw w fun w => Ret [] (R (.bool false) w)) (Cb (!true) (LdA 16 b20 0 (At
  w) fun cs32 => LdV b1 1 (At w) fun v57 => OpI .i64 v57 fun n30 => IdxS p l (IntKind.wrap .i64 (s4.1 * n30)) 16 fun b22 o16 => LdA 16 b22 o16 (At w) fun cs33 => EqB
  Try.prog .neq 23 (.tmp 274) (.tmp 281) (.agg cs32 : Value) (.agg cs33 : Value) (At w) fun g9 => Drw w fun w => Cb g9 (Ret [] (R (.bool false) w)) (K4 (IntKind.wrap .i64
  (s4.1 + 1), ()) w)) (Drw w fun w => K4 (IntKind.wrap .i64 (s4.1 + 1), ()) w))) (Cb (!((n28 == (Int.tmod (IntKind.wrap .i64 z) n6)) == (n27 == 8))) (Drw w fun w => Ret []
  (R (.bool false) w)) (Cb (!(n28 == (Int.tmod (IntKind.wrap .i64 z) n6))) (LdA 16 b20 0 (At w) fun cs34 => LdV b1 1 (At w) fun v58 => OpI .i64 v58 fun n31 => IdxS p l
  (IntKind.wrap .i64 (s4.1 * n31)) 16 fun b23 o17 => LdA 16 b23 o17 (At w) fun cs35 => EqB Try.prog .neq 23 (.tmp 274) (.tmp 281) (.agg cs34 : Value) (.agg cs35 : Value) (At
  w) fun g10 => Drw w fun w => Cb g10 (Ret [] (R (.bool false) w)) (K4 (IntKind.wrap .i64 (s4.1 + 1), ()) w)) (Drw w fun w => K4 (IntKind.wrap .i64 (s4.1 + 1), ()) w)))))
  (Cb (!(false == (n27 == 8))) (Drw w fun w => Ret [] (R (.bool false) w)) (Cb (!false) (LdA 16 b20 0 (At w) fun cs36 => LdV b1 1 (At w) fun v59 => OpI .i64 v59 fun n32 =>
  IdxS p l (IntKind.wrap .i64 (s4.1 * n32)) 16 fun b24 o18 => LdA 16 b24 o18 (At w) fun cs37 => EqB Try.prog .neq 23 (.tmp 274) (.tmp 281) (.agg cs36 : Value) (.agg cs37 :
  Value) (At w) fun g11 => Drw w fun w => Cb g11 (Ret [] (R (.bool false) w)) (K4 (IntKind.wrap .i64 (s4.1 + 1), ()) w)) (Drw w fun w => K4 (IntKind.wrap .i64 (s4.1 + 1),
  ()) w)))) (Ret [] (R (.bool true) w))) (0, ()) w)))))))))) (0, ()) w))))))))))) (0, ()) w)))
theorem C_Rows9 {a : Int} {b : Int} {c : Int} {listp : Option Addr} {listl : Nat} {listc : Nat} {x : Int} {y : Int} {z : Int} {w : World} {R : Value → World → Prop} (h : F_Rows9 a b c listp listl listc x y z w R) : CallV Try.prog 5 #[.int .u8 a, .int .u8 b, .int .u8 c, .slice listp listl listc, .int .u8 x, .int .u8 y, .int .u8 z] w R := by
  exact calls_of_F (args := [.int .u8 a, .int .u8 b, .int .u8 c, .slice listp listl listc, .int .u8 x, .int .u8 y, .int .u8 z]) (mkAnn [(8, [(21, (.int .i64))]), (21, [(30, (.int .i64))]), (32, [(34, (.int .i64))])] [] [] [] [80]) Try_mixed Try.func5 rfl rfl (by kernel_rfl) h
end Go.Proofs
