/- PRINTED BY pr.py (own program): what the evaluator of <Name>Ev makes of the code of some functions. -/
import Derived.Test.YtdeaollkgckppaaChecked
import Derived.Test.YtdeaollkgckppaaEv
import Derived.Test.YtdeaollkgckppaaMix
namespace Go.Proofs
open Go.Ev
set_option linter.unusedVariables false
set_option maxRecDepth 100000
def F_ravelinlaw09_hit (w_ : Array Value) (o : Array Value) (w : World) (R : Value → World → Prop) : Prop :=
  Alc 37 w_ w fun b w => Alc 90 o w fun b1 w => Alc 37 (zc Try.prog 37) w fun b2 w => LdV b1 0 (At w) fun v => OpI .i64 v fun n => Cb (n == 9) (LdV b 11 (At w) fun v1 => OpN
  v1 fun b3 o1 => LdV b1 1 (At w) fun v2 => OpI .i64 v2 fun n1 => CallV Try.prog 62 #[.pointer (some ⟨b3, o1, none⟩), .int .i64 n1] w fun v3 w => OpI .i64 v3 fun n2 => LdA 3
  b 8 (At w) fun cs => LdV b1 1 (At w) fun v4 => OpI .i64 v4 fun n3 => CallV Try.prog 63 #[.agg cs, .int .i64 n3] w fun v5 w => T2 v5 fun v6 v7 => OpI .i64 v6 fun n4 => OpA
  3 v7 fun cs1 => StA 3 b 8 cs1 w fun w => LdA 12 b 0 (At w) fun cs2 => StA 12 b2 0 cs2 w fun w => LdA 12 b2 0 (At w) fun cs3 => Ret [] (R (.tuple #[.agg cs3, .bool true])
  w)) (LdV b1 0 (At w) fun v8 => OpI .i64 v8 fun n5 => Cb (n5 == 10) (LdV b 11 (At w) fun v9 => OpN v9 fun b4 o2 => CallV Try.prog 64 #[.pointer (some ⟨b4, o2, none⟩)] w fun
  v10 w => LdA 3 b 8 (At w) fun cs4 => CallV Try.prog 65 #[.agg cs4] w fun v11 w => OpA 3 v11 fun cs5 => StA 3 b 8 cs5 w fun w => LdA 12 b 0 (At w) fun cs6 => StA 12 b2 0
  cs6 w fun w => LdA 12 b2 0 (At w) fun cs7 => Ret [] (R (.tuple #[.agg cs7, .bool true]) w)) (LdV b1 0 (At w) fun v12 => OpI .i64 v12 fun n6 => Cb (decide (n6 < 4)) (LdA 12
  b 0 (At w) fun cs8 => StA 12 b2 0 cs8 w fun w => LdA 12 b2 0 (At w) fun cs9 => Ret [] (R (.tuple #[.agg cs9, .bool false]) w)) (LdV b1 0 (At w) fun v13 => OpI .i64 v13 fun
  n7 => Cb (decide (n7 > 7)) (LdA 12 b 0 (At w) fun cs10 => StA 12 b2 0 cs10 w fun w => LdA 12 b2 0 (At w) fun cs11 => Ret [] (R (.tuple #[.agg cs11, .bool false]) w)) (LdV
  b1 1 (At w) fun v14 => OpI .i64 v14 fun n8 => Cb (decide (n8 < 0)) (LdA 12 b 0 (At w) fun cs12 => StA 12 b2 0 cs12 w fun w => LdA 12 b2 0 (At w) fun cs13 => Ret [] (R
  (.tuple #[.agg cs13, .bool true]) w)) (LdV b1 1 (At w) fun v15 => OpI .i64 v15 fun n9 => LdV b 3 (At w) fun v16 => OpS v16 fun p l c => Cb (decide (n9 ≥ ((l : Nat) :
  Int))) (LdA 12 b 0 (At w) fun cs14 => StA 12 b2 0 cs14 w fun w => LdA 12 b2 0 (At w) fun cs15 => Ret [] (R (.tuple #[.agg cs15, .bool true]) w)) (HeldR w fun S w => LdV b
  3 S fun v17 => OpS v17 fun p1 l1 c1 => LdV b1 1 S fun v18 => OpI .i64 v18 fun n10 => IdxS p1 l1 n10 1 fun b5 o3 => LdV b5 o3 S fun v19 => OpN v19 fun b6 o4 => LdV b 7 S
  fun v20 => OpS v20 fun p2 l2 c2 => LdV b1 1 S fun v21 => OpI .i64 v21 fun n11 => IdxS p2 l2 n11 4 fun b7 o5 => LdA 4 b7 o5 S fun cs16 => Alc 66 (zc Try.prog 66) w fun b8 w
  => Hld (S w) (StA 4 b8 0 cs16 w fun w => Hld (S w) (LdV b1 0 (At w) fun v22 => OpI .i64 v22 fun n12 => Cb (n12 == 4) (CallV Try.prog 24 #[.pointer (some ⟨b6, o4, none⟩)] w
  fun v23 w => StV b8 3 (.bool true) w fun w => LdA 7 b 4 (At w) fun cs17 => LdV b1 1 (At w) fun v24 => OpI .i64 v24 fun n13 => LdA 4 b8 0 (At w) fun cs18 => CallV Try.prog
  69 #[.agg cs17, .int .i64 n13, .agg cs18] w fun v25 w => OpA 7 v25 fun cs19 => StA 7 b 4 cs19 w fun w => LdA 12 b 0 (At w) fun cs20 => StA 12 b2 0 cs20 w fun w => LdA 12
  b2 0 (At w) fun cs21 => Ret [] (R (.tuple #[.agg cs21, .bool true]) w)) (Cb (n12 == 5) (CallV Try.prog 40 #[.pointer (some ⟨b6, o4, none⟩)] w fun v26 w => LdV b8 0 (At w)
  fun v27 => OpS v27 fun p3 l3 c3 => CallV Try.prog 66 #[.int .i64 ((l3 : Nat) : Int)] w fun v28 w => OpA 4 v28 fun cs22 => StA 4 b8 0 cs22 w fun w => LdA 7 b 4 (At w) fun
  cs23 => LdV b1 1 (At w) fun v29 => OpI .i64 v29 fun n14 => LdA 4 b8 0 (At w) fun cs24 => CallV Try.prog 69 #[.agg cs23, .int .i64 n14, .agg cs24] w fun v30 w => OpA 7 v30
  fun cs25 => StA 7 b 4 cs25 w fun w => LdA 12 b 0 (At w) fun cs26 => StA 12 b2 0 cs26 w fun w => LdA 12 b2 0 (At w) fun cs27 => Ret [] (R (.tuple #[.agg cs27, .bool true])
  w)) (Cb (n12 == 6) (LdV b1 2 (At w) fun v31 => OpI .i64 v31 fun n15 => CallV Try.prog 26 #[.pointer (some ⟨b6, o4, none⟩), .int .i64 n15] w fun v32 w => OpI .i64 v32 fun
  n16 => LdA 4 b8 0 (At w) fun cs28 => LdV b1 2 (At w) fun v33 => OpI .i64 v33 fun n17 => CallV Try.prog 67 #[.agg cs28, .int .i64 n17] w fun v34 w => T2 v34 fun v35 v36 =>
  OpI .i64 v35 fun n18 => OpA 4 v36 fun cs29 => StA 4 b8 0 cs29 w fun w => LdA 7 b 4 (At w) fun cs30 => LdV b1 1 (At w) fun v37 => OpI .i64 v37 fun n19 => LdA 4 b8 0 (At w)
  fun cs31 => CallV Try.prog 69 #[.agg cs30, .int .i64 n19, .agg cs31] w fun v38 w => OpA 7 v38 fun cs32 => StA 7 b 4 cs32 w fun w => LdA 12 b 0 (At w) fun cs33 => StA 12 b2
  0 cs33 w fun w => LdA 12 b2 0 (At w) fun cs34 => Ret [] (R (.tuple #[.agg cs34, .bool true]) w)) (Cb (n12 == 7) (LdV b1 2 (At w) fun v39 => OpI .i64 v39 fun n20 => LdV b1
  3 (At w) fun v40 => OpI .i64 v40 fun n21 => CallV Try.prog 37 #[.pointer (some ⟨b6, o4, none⟩), .int .i64 n20, .int .i64 n21] w fun v41 w => OpI .i64 v41 fun n22 => LdA 4
  b8 0 (At w) fun cs35 => LdV b1 2 (At w) fun v42 => OpI .i64 v42 fun n23 => LdV b1 3 (At w) fun v43 => OpI .i64 v43 fun n24 => CallV Try.prog 68 #[.agg cs35, .int .i64 n23,
  .int .i64 n24] w fun v44 w => T2 v44 fun v45 v46 => OpI .i64 v45 fun n25 => OpA 4 v46 fun cs36 => StA 4 b8 0 cs36 w fun w => LdA 7 b 4 (At w) fun cs37 => LdV b1 1 (At w)
  fun v47 => OpI .i64 v47 fun n26 => LdA 4 b8 0 (At w) fun cs38 => CallV Try.prog 69 #[.agg cs37, .int .i64 n26, .agg cs38] w fun v48 w => OpA 7 v48 fun cs39 => StA 7 b 4
  cs39 w fun w => LdA 12 b 0 (At w) fun cs40 => StA 12 b2 0 cs40 w fun w => LdA 12 b2 0 (At w) fun cs41 => Ret [] (R (.tuple #[.agg cs41, .bool true]) w)) (LdA 7 b 4 (At w)
  fun cs42 => LdV b1 1 (At w) fun v49 => OpI .i64 v49 fun n27 => LdA 4 b8 0 (At w) fun cs43 => CallV Try.prog 69 #[.agg cs42, .int .i64 n27, .agg cs43] w fun v50 w => OpA 7
  v50 fun cs44 => StA 7 b 4 cs44 w fun w => LdA 12 b 0 (At w) fun cs45 => StA 12 b2 0 cs45 w fun w => LdA 12 b2 0 (At w) fun cs46 => Ret [] (R (.tuple #[.agg cs46, .bool
  true]) w)))))))))))))
theorem C_ravelinlaw09_hit {w_ : Array Value} {o : Array Value} {w : World} {R : Value → World → Prop} (h : F_ravelinlaw09_hit w_ o w R) : CallV Try.prog 34 #[.agg w_, .agg o] w R := by
  exact calls_of_F (args := [.agg w_, .agg o]) (mkAnn [] [] [] [] []) Try_mixed Try.func34 rfl rfl (by kernel_rfl) h
end Go.Proofs
