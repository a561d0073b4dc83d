/- PRINTED BY pr.py (own program): what the evaluator of <Name>Ev makes of the code of some functions. -/
import Derived.Test.YtdeaollkgckppaaChecked
import Derived.Test.YtdeaollkgckppaaEv
import Derived.Test.YtdeaollkgckppaaMix
namespace Go.Proofs
open Go.Ev
set_option linter.unusedVariables false
set_option maxRecDepth 100000
def F_Cells9 (a : Int) (b : Int) (c : Int) (lba : Int) (data : Array Value) (w : World) (R : Value → World → Prop) : Prop :=
  Alc 23 data w fun b1 w => CallV Try.prog 13 #[.int .u8 a, .int .u8 b, .int .u8 c] w fun v w => OpA 3 v fun cs => Alc 25 (zc Try.prog 25) w fun b2 w => StA 3 b2 0 cs w fun
  w => LdA 3 b2 0 (At w) fun cs1 => CallV Try.prog 14 #[.agg cs1] w fun v1 w => T2 v1 fun v2 v3 => OpA 12 v2 fun cs2 => OpB v3 fun g => Alc 37 (zc Try.prog 37) w fun b3 w =>
  StA 12 b3 0 cs2 w fun w => LdA 3 b2 0 (At w) fun cs3 => CallV Try.prog 15 #[.agg cs3] w fun v4 w => T2 v4 fun v5 v6 => OpI .i64 v5 fun n => OpI .i64 v6 fun n1 => CallV
  Try.prog 16 #[] w fun v7 w => OpB v7 fun g1 => Req ((!g1) = (!g1)) (Req ((!g1) = (!g1)) (Cb (cond (!g1) true (!g)) (Ret [] (R (.bool false) w)) (Req (n ≠ 0) (LdA 4 b3 0
  (At w) fun cs4 => LdA 16 b1 0 (At w) fun cs5 => CallV Try.prog 17 #[.agg cs4, .int .i64 (Int.tmod (IntKind.wrap .i64 lba) n), .agg cs5] w fun v8 w => T2 v8 fun v9 v10 =>
  OpS v9 fun p l c1 => OpI .i64 v10 fun n2 => Cb (n2 != 0) (Ret [] (R (.bool false) w)) (Cb (((l : Nat) : Int) != 3) (Ret [] (R (.bool false) w)) (LdA 4 b3 0 (At w) fun cs6
  => CallV Try.prog 18 #[.agg cs6, .slice p l c1, .int .u32 0] w fun v11 w => OpI .i64 v11 fun n3 => Cb (n3 != 0) (Ret [] (R (.bool false) w)) (LdV b3 11 (At w) fun v12 =>
  OpN v12 fun b4 o => CallV Try.prog 19 #[.pointer (some ⟨b4, o, none⟩)] w fun v13 w => OpI .i64 v13 fun n4 => Cb (n4 != 3) (Ret [] (R (.bool false) w)) (LdA 3 b2 0 (At w)
  fun cs7 => CallV Try.prog 20 #[.agg cs7, .int .i64 (Int.tmod (IntKind.wrap .i64 lba) n)] w fun v14 w => T3 v14 fun v15 v16 v17 => OpA 3 v15 fun cs8 => OpA 2 v16 fun cs9 =>
  OpI .i64 v17 fun n5 => Alc 51 (zc Try.prog 51) w fun b5 w => Alc 53 (zc Try.prog 53) w fun b6 w => StA 3 b5 0 cs8 w fun w => StA 2 b6 0 cs9 w fun w => LoopC (σ := Int ×
  Unit) (fun _ s1 w K1 => LdV b2 0 (At w) fun v18 => OpI .i64 v18 fun n6 => Cb (decide (s1.1 < n6)) (LoopC (σ := Int × Unit) (fun _ s2 w K2 => LdV b2 1 (At w) fun v19 => OpI
  .i64 v19 fun n7 => LdV b2 2 (At w) fun v20 => OpI .i64 v20 fun n8 => Cb (decide (s2.1 < IntKind.wrap .i64 (n7 * n8))) (LdV b3 3 (At w) fun v21 => OpS v21 fun p1 l1 c2 =>
  IdxS p1 l1 s1.1 1 fun b7 o1 => LdV b7 o1 (At w) fun v22 => OpN v22 fun b8 o2 => CallV Try.prog 21 #[.pointer (some ⟨b8, o2, none⟩), .int .i64 s2.1] w fun v23 w => T2 v23
  fun v24 v25 => OpA 17 v24 fun cs10 => OpI .i64 v25 fun n9 => Alc 57 (zc Try.prog 57) w fun b9 w => StA 17 b9 0 cs10 w fun w => DoQ Try.prog (Instr.build 53 #[(0, .int .i64
  s1.1), (1, .int .i64 s2.1)]) (At w) fun v26 => OpA 2 v26 fun cs11 => Alc 53 (zc Try.prog 53) w fun b10 w => StA 2 b10 0 cs11 w fun w => LdA 3 b2 0 (At w) fun cs12 => LdA 2
  b10 0 (At w) fun cs13 => CallV Try.prog 22 #[.agg cs12, .agg cs13] w fun v27 w => T3 v27 fun v28 v29 v30 => OpI .i64 v28 fun n10 => OpI .i64 v29 fun n11 => OpI .i64 v30
  fun n12 => LdA 2 b10 0 (At w) fun cs14 => LdA 2 b6 0 (At w) fun cs15 => EqB Try.prog .eql 53 (.tmp 128) (.tmp 129) (.agg cs14 : Value) (.agg cs15 : Value) (At w) fun g2 =>
  Cb g2 (Cb (n9 != 0) (Drw w fun w => Ret [] (R (.bool false) w)) (Cb (!true) (LdA 17 b9 0 (At w) fun cs16 => LdV b3 7 (At w) fun v31 => OpS v31 fun p2 l2 c3 => IdxS p2 l2
  s1.1 4 fun b11 o3 => LdV b11 o3 (At w) fun v32 => OpS v32 fun p3 l3 c4 => IdxS p3 l3 s2.1 17 fun b12 o4 => LdA 17 b12 o4 (At w) fun cs17 => EqB Try.prog .neq 57 (.tmp 150)
  (.tmp 160) (.agg cs16 : Value) (.agg cs17 : Value) (At w) fun g3 => Cb g3 (Drw w fun w => Ret [] (R (.bool false) w)) (LdA 2 b10 0 (At w) fun cs18 => LdA 2 b6 0 (At w) fun
  cs19 => EqB Try.prog .eql 53 (.tmp 165) (.tmp 166) (.agg cs18 : Value) (.agg cs19 : Value) (At w) fun g4 => Cb g4 (LdA 16 b9 0 (At w) fun cs20 => LdA 16 b1 0 (At w) fun
  cs21 => EqB Try.prog .neq 23 (.tmp 170) (.tmp 171) (.agg cs20 : Value) (.agg cs21 : Value) (At w) fun g5 => Drw w fun w => Cb g5 (Ret [] (R (.bool false) w)) (K2
  (IntKind.wrap .i64 (s2.1 + 1), ()) w)) (Drw w fun w => K2 (IntKind.wrap .i64 (s2.1 + 1), ()) w))) (LdA 2 b10 0 (At w) fun cs22 => LdA 2 b6 0 (At w) fun cs23 => EqB
  Try.prog .eql 53 (.tmp 165) (.tmp 166) (.agg cs22 : Value) (.agg cs23 : Value) (At w) fun g6 => Cb g6 (LdA 16 b9 0 (At w) fun cs24 => LdA 16 b1 0 (At w) fun cs25 => EqB
  Try.prog .neq 23 (.tmp 170) (.tmp 171) (.agg cs24 : Value) (.agg cs25 : Value) (At w) fun g7 => Drw w fun w => Cb g7 (Ret [] (R (.bool false) w)) (K2 (IntKind.wrap .i64
  (s2.1 + 1), ()) w)) (Drw w fun w => K2 (IntKind.wrap .i64 (s2.1 + 1), ()) w)))) (LdV b6 1 (At w) fun v33 => OpI .i64 v33 fun n13 => Cb (s2.1 == n13) (LdV b2 0 (At w) fun
  v34 => OpI .i64 v34 fun n14 => Cb (n9 != 0) (Drw w fun w => Ret [] (R (.bool false) w)) (Cb (!(decide (n11 ≥ IntKind.wrap .i64 (n14 - 2)))) (LdA 17 b9 0 (At w) fun cs26 =>
  LdV b3 7 (At w) fun v35 => OpS v35 fun p4 l4 c5 => IdxS p4 l4 s1.1 4 fun b13 o5 => LdV b13 o5 (At w) fun v36 => OpS v36 fun p5 l5 c6 => IdxS p5 l5 s2.1 17 fun b14 o6 =>
  LdA 17 b14 o6 (At w) fun cs27 => EqB Try.prog .neq 57 (.tmp 150) (.tmp 160) (.agg cs26 : Value) (.agg cs27 : Value) (At w) fun g8 => Cb g8 (Drw w fun w => Ret [] (R (.bool
  false) w)) (LdA 2 b10 0 (At w) fun cs28 => LdA 2 b6 0 (At w) fun cs29 => EqB Try.prog .eql 53 (.tmp 165) (.tmp 166) (.agg cs28 : Value) (.agg cs29 : Value) (At w) fun g9
  => Cb g9 (LdA 16 b9 0 (At w) fun cs30 => LdA 16 b1 0 (At w) fun cs31 => EqB Try.prog .neq 23 (.tmp 170) (.tmp 171) (.agg cs30 : Value) (.agg cs31 : Value) (At w) fun g10
  => Drw w fun w => Cb g10 (Ret [] (R (.bool false) w)) (K2 (IntKind.wrap .i64 (s2.1 + 1), ()) w)) (Drw w fun w => K2 (IntKind.wrap .i64 (s2.1 + 1), ()) w))) (LdA 2 b10 0
  (At w) fun cs32 => LdA 2 b6 0 (At w) fun cs33 => EqB Try.prog .eql 53 (.tmp 165) (.tmp 166) (.agg cs32 : Value) (.agg cs33 : Value) (At w) fun g11 => Cb g11 (LdA 16 b9 0
  (At w) fun cs34 => LdA 16 b1 0 (At w) fun cs35 => EqB Try.prog .neq 23 (.tmp 170) (.tmp 171) (.agg cs34 : Value) (.agg cs35 : Value) (At w) fun g12 => Drw w fun w => Cb
  g12 (Ret [] (R (.bool false) w)) (K2 (IntKind.wrap .i64 (s2.1 + 1), ()) w)) (Drw w fun w => K2 (IntKind.wrap .i64 (s2.1 + 1), ()) w)))) (Cb (n9 != 0) (Drw w fun w => Ret
  [] (R (.bool false) w)) (Cb (!false) (LdA 17 b9 0 (At w) fun cs36 => LdV b3 7 (At w) fun v37 => OpS v37 fun p6 l6 c7 => IdxS p6 l6 s1.1 4 fun b15 o7 => LdV b15 o7 (At w)
  fun v38 => OpS v38 fun p7 l7 c8 => IdxS p7 l7 s2.1 17 fun b16 o8 => LdA 17 b16 o8 (At w) fun cs37 => EqB Try.prog .neq 57 (.tmp 150) (.tmp 160) (.agg cs36 : Value) (.agg
  cs37 : Value) (At w) fun g13 => Cb g13 (Drw w fun w => Ret [] (R (.bool false) w)) (LdA 2 b10 0 (At w) fun cs38 => LdA 2 b6 0 (At w) fun cs39 => EqB Try.prog .eql 53 (.tmp
  165) (.tmp 166) (.agg cs38 : Value) (.agg cs39 : Value) (At w) fun g14 => Cb g14 (LdA 16 b9 0 (At w) fun cs40 => LdA 16 b1 0 (At w) fun cs41 => EqB Try.prog .neq 23 (.tmp
  170) (.tmp 171) (.agg cs40 : Value) (.agg cs41 : Value) (At w) fun g15 => Drw w fun w => Cb g15 (Ret [] (R (.bool false) w)) (K2 (IntKind.wrap .i64 (s2.1 + 1), ()) w))
  (Drw w fun w => K2 (IntKind.wrap .i64 (s2.1 + 1), ()) w))) (LdA 2 b10 0 (At w) fun cs42 => LdA 2 b6 0 (At w) fun cs43 => EqB Try.prog .eql 53 (.tmp 165) (.tmp 166) (.agg
  cs42 : Value) (.agg cs43 : Value) (At w) fun g16 => Cb g16 (LdA 16 b9 0 (At w) fun cs44 => LdA 16 b1 0 (At w) fun cs45 => EqB Try.prog .neq 23 (.tmp 170) (.tmp 171) (.agg
  cs44 : Value) (.agg cs45 : Value) (At w) fun g17 => Drw w fun w => Cb g17 (Ret [] (R (.bool false) w)) (K2 (IntKind.wrap .i64 (s2.1 + 1), ()) w)) (Drw w fun w => K2
  (IntKind.wrap .i64 (s2.1 + 1), ()) w)))))) (K1 (IntKind.wrap .i64 (s1.1 + 1), ()) w)) (0, ()) w) (LdA 4 b3 0 (At w) fun cs46 => LdV b5 0 (At w) fun v39 => OpI .i64 v39 fun
  n15 => LdV b5 2 (At w) fun v40 => OpI .i64 v40 fun n16 => CallV Try.prog 23 #[.agg cs46, .int .i64 n15, .int .i64 n16] w fun v41 w => T3 v41 fun v42 v43 v44 => OpS v42 fun
  p8 l8 c9 => OpS v43 fun p9 l9 c10 => OpI .i64 v44 fun n17 => Cb (n17 == 0) (Cb (((l9 : Nat) : Int) == 0) (LdV b2 0 (At w) fun v45 => OpI .i64 v45 fun n18 => Cb (((l8 :
  Nat) : Int) == n18) (LdV b5 1 (At w) fun v46 => OpI .i64 v46 fun n19 => IdxS p8 l8 n19 16 fun b17 o9 => LdA 16 b17 o9 (At w) fun cs47 => LdA 16 b1 0 (At w) fun cs48 => EqB
  Try.prog .eql 23 (.tmp 205) (.tmp 206) (.agg cs47 : Value) (.agg cs48 : Value) (At w) fun g18 => Drw w fun w => Ret [] (R (.bool g18) w)) (Drw w fun w => Ret [] (R (.bool
  false) w))) (Drw w fun w => Ret [] (R (.bool false) w))) (Drw w fun w => Ret [] (R (.bool false) w)))) (0, ()) w))))))))
theorem C_Cells9 {a : Int} {b : Int} {c : Int} {lba : Int} {data : Array Value} {w : World} {R : Value → World → Prop} (h : F_Cells9 a b c lba data w R) : CallV Try.prog 3 #[.int .u8 a, .int .u8 b, .int .u8 c, .int .u8 lba, .agg data] w R := by
  exact calls_of_F (args := [.int .u8 a, .int .u8 b, .int .u8 c, .int .u8 lba, .agg data]) (mkAnn [(12, [(22, (.int .i64))]), (15, [(23, (.int .i64))])] [] [] [] []) Try_mixed Try.func3 rfl rfl (by kernel_rfl) h
end Go.Proofs
