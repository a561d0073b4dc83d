/- PRINTED BY pr.py (own program): what the evaluator of <Name>Ev makes of the code of some functions. -/
import Derived.Test.YtacnieopbkeoiaaChecked
import Derived.Test.YtacnieopbkeoiaaEv
import Derived.Test.YtacnieopbkeoiaaMix
namespace Go.Proofs
open Go.Ev
set_option linter.unusedVariables false
set_option maxRecDepth 100000
def F_ravelinref11_Find (c : Array Value) (lba : Int) (w : World) (R : Value → World → Prop) : Prop :=
  Alc 57 c w fun b w => LoopC (σ := Int × Unit) (fun _ s1 w K1 => LdV b 1 (At w) fun v => OpS v fun p l c1 => Cb (decide (s1.1 < ((l : Nat) : Int))) (LdV b 1 (At w) fun v1
  => OpS v1 fun p1 l1 c2 => IdxS p1 l1 s1.1 19 fun b1 o => LdV b1 (o + 2) (At w) fun v2 => OpI .i64 v2 fun n => Cb (n == lba) (Ret [] (R (.int .i64 s1.1) w)) (K1
  (IntKind.wrap .i64 (s1.1 + 1), ()) w)) (Ret [] (R (.int .i64 (-1)) w))) (0, ()) w
theorem C_ravelinref11_Find {c : Array Value} {lba : Int} {w : World} {R : Value → World → Prop} (h : F_ravelinref11_Find c lba w R) : CallV Try.prog 44 #[.agg c, .int .i64 lba] w R := by
  exact calls_of_F (args := [.agg c, .int .i64 lba]) (mkAnn [(2, [(5, (.int .i64))])] [] [] [] []) Try_mixed Try.func44 rfl rfl (by kernel_rfl) h
def F_ravelinref11_without (c : Array Value) (i : Int) (w : World) (R : Value → World → Prop) : Prop :=
  Alc 57 c w fun b w => Alc 57 (zc Try.prog 57) w fun b1 w => DoV Try.prog (Instr.buildSlice 37 0 #[]) w fun v w => OpS v fun p l c1 => LdV b 1 (At w) fun v1 => OpS v1 fun
  p1 l1 c2 => Slc l1 c2 none (some i) none fun l2 h m => DoV Try.prog (Builtin.append_ #[37, 37] 37 #[.slice p l c1, .slice (slcP 19 l2 m p1) (h - l2) (m - l2)]) w fun v2 w
  => OpS v2 fun p2 l3 c3 => HeldR w fun S w => LdV b 0 S fun v3 => OpI .i64 v3 fun n => LdV b 1 S fun v4 => OpS v4 fun p3 l4 c4 => Slc l4 c4 (some (IntKind.wrap .i64 (i +
  1))) none none fun l5 h1 m1 => DoV Try.prog (Builtin.append_ #[37, 37] 37 #[.slice p2 l3 c3, .slice (slcP 19 l5 m1 p3) (h1 - l5) (m1 - l5)]) w fun v5 w => OpS v5 fun p4 l6
  c5 => Hld (S w) (DoQ Try.prog (Instr.build 57 #[(0, .int .i64 n), (1, .slice p4 l6 c5)]) (At w) fun v6 => OpA 2 v6 fun cs => StA 2 b1 0 cs w fun w => Hld (S w) (LdA 2 b1 0
  (At w) fun cs1 => Ret [] (R (.agg cs1) w)))
theorem C_ravelinref11_without {c : Array Value} {i : Int} {w : World} {R : Value → World → Prop} (h : F_ravelinref11_without c i w R) : CallV Try.prog 45 #[.agg c, .int .i64 i] w R := by
  exact calls_of_F (args := [.agg c, .int .i64 i]) (mkAnn [] [] [] [] []) Try_mixed Try.func45 rfl rfl (by kernel_rfl) h
def F_ravelinref11_Put (c : Array Value) (lba : Int) (data : Array Value) (version : Int) (w : World) (R : Value → World → Prop) : Prop :=
  Alc 57 c w fun b w => Alc 31 data w fun b1 w => Alc 57 (zc Try.prog 57) w fun b2 w => Req ((decide (lba < 0)) = (decide (lba < 0))) (Req ((decide (lba < 0)) = (decide (lba
  < 0))) (Cb (cond (decide (lba < 0)) true (decide (lba > 2147483647))) (Dr1 w fun w => LdA 2 b 0 (At w) fun cs => StA 2 b2 0 cs w fun w => LdA 2 b2 0 (At w) fun cs1 => Ret
  [] (R (.tuple #[.int .i64 2, .agg cs1]) w)) (LdA 2 b 0 (At w) fun cs2 => CallV Try.prog 44 #[.agg cs2, .int .i64 lba] w fun v w => OpI .i64 v fun n => Cb (decide (n ≥ 0))
  (LdV b 1 (At w) fun v1 => OpS v1 fun p l c1 => IdxS p l n 19 fun b3 o => LdV b3 (o + 1) (At w) fun v2 => OpI .u64 v2 fun n1 => Cb (decide (n1 ≥ version)) (Dr1 w fun w =>
  LdA 2 b 0 (At w) fun cs3 => StA 2 b2 0 cs3 w fun w => LdA 2 b2 0 (At w) fun cs4 => Ret [] (R (.tuple #[.int .i64 2, .agg cs4]) w)) (Cb (decide (n < 0)) (LdV b 1 (At w) fun
  v3 => OpS v3 fun p1 l1 c2 => LdV b 0 (At w) fun v4 => OpI .i64 v4 fun n2 => Cb (decide (((l1 : Nat) : Int) ≥ n2)) (Dr1 w fun w => LdA 2 b 0 (At w) fun cs5 => StA 2 b2 0
  cs5 w fun w => LdA 2 b2 0 (At w) fun cs6 => Ret [] (R (.tuple #[.int .i64 9, .agg cs6]) w)) (Cb (decide (n ≥ 0)) (LdA 2 b 0 (At w) fun cs7 => CallV Try.prog 45 #[.agg cs7,
  .int .i64 n] w fun v5 w => OpA 2 v5 fun cs8 => StA 2 b 0 cs8 w fun w => DoV Try.prog (Instr.buildSlice 37 0 #[]) w fun v6 w => OpS v6 fun p2 l2 c3 => LdV b 1 (At w) fun v7
  => OpS v7 fun p3 l3 c4 => DoV Try.prog (Builtin.append_ #[37, 37] 37 #[.slice p2 l2 c3, .slice p3 l3 c4]) w fun v8 w => OpS v8 fun p4 l4 c5 => LdA 16 b1 0 (At w) fun cs9
  => DoQ Try.prog (Instr.build 42 #[(0, .int .i64 1), (1, .int .u64 version), (2, .int .i64 lba), (3, .agg cs9)]) (At w) fun v9 => OpA 19 v9 fun cs10 => DoV Try.prog
  (Instr.buildSlice 37 1 #[(0, .agg cs10)]) w fun v10 w => OpS v10 fun p5 l5 c6 => DoV Try.prog (Builtin.append_ #[37, 37] 37 #[.slice p4 l4 c5, .slice p5 l5 c6]) w fun v11
  w => OpS v11 fun p6 l6 c7 => HeldR w fun S w => LdV b 0 S fun v12 => OpI .i64 v12 fun n3 => CallV Try.prog 43 #[.slice p6 l6 c7] w fun v13 w => OpS v13 fun p7 l7 c8 => Hld
  (S w) (DoQ Try.prog (Instr.build 57 #[(0, .int .i64 n3), (1, .slice p7 l7 c8)]) (At w) fun v14 => OpA 2 v14 fun cs11 => StA 2 b2 0 cs11 w fun w => Hld (S w) (LdA 2 b2 0
  (At w) fun cs12 => Ret [] (R (.tuple #[.int .i64 0, .agg cs12]) w)))) (DoV Try.prog (Instr.buildSlice 37 0 #[]) w fun v15 w => OpS v15 fun p8 l8 c9 => LdV b 1 (At w) fun
  v16 => OpS v16 fun p9 l9 c10 => DoV Try.prog (Builtin.append_ #[37, 37] 37 #[.slice p8 l8 c9, .slice p9 l9 c10]) w fun v17 w => OpS v17 fun p10 l10 c11 => LdA 16 b1 0 (At
  w) fun cs13 => DoQ Try.prog (Instr.build 42 #[(0, .int .i64 1), (1, .int .u64 version), (2, .int .i64 lba), (3, .agg cs13)]) (At w) fun v18 => OpA 19 v18 fun cs14 => DoV
  Try.prog (Instr.buildSlice 37 1 #[(0, .agg cs14)]) w fun v19 w => OpS v19 fun p11 l11 c12 => DoV Try.prog (Builtin.append_ #[37, 37] 37 #[.slice p10 l10 c11, .slice p11
  l11 c12]) w fun v20 w => OpS v20 fun p12 l12 c13 => HeldR w fun S w => LdV b 0 S fun v21 => OpI .i64 v21 fun n4 => CallV Try.prog 43 #[.slice p12 l12 c13] w fun v22 w =>
  OpS v22 fun p13 l13 c14 => Hld (S w) (DoQ Try.prog (Instr.build 57 #[(0, .int .i64 n4), (1, .slice p13 l13 c14)]) (At w) fun v23 => OpA 2 v23 fun cs15 => StA 2 b2 0 cs15 w
  fun w => Hld (S w) (LdA 2 b2 0 (At w) fun cs16 => Ret [] (R (.tuple #[.int .i64 0, .agg cs16]) w)))))) (Cb (decide (n ≥ 0)) (LdA 2 b 0 (At w) fun cs17 => CallV Try.prog 45
  #[.agg cs17, .int .i64 n] w fun v24 w => OpA 2 v24 fun cs18 => StA 2 b 0 cs18 w fun w => DoV Try.prog (Instr.buildSlice 37 0 #[]) w fun v25 w => OpS v25 fun p14 l14 c15 =>
  LdV b 1 (At w) fun v26 => OpS v26 fun p15 l15 c16 => DoV Try.prog (Builtin.append_ #[37, 37] 37 #[.slice p14 l14 c15, .slice p15 l15 c16]) w fun v27 w => OpS v27 fun p16
  l16 c17 => LdA 16 b1 0 (At w) fun cs19 => DoQ Try.prog (Instr.build 42 #[(0, .int .i64 1), (1, .int .u64 version), (2, .int .i64 lba), (3, .agg cs19)]) (At w) fun v28 =>
  OpA 19 v28 fun cs20 => DoV Try.prog (Instr.buildSlice 37 1 #[(0, .agg cs20)]) w fun v29 w => OpS v29 fun p17 l17 c18 => DoV Try.prog (Builtin.append_ #[37, 37] 37 #[.slice
  p16 l16 c17, .slice p17 l17 c18]) w fun v30 w => OpS v30 fun p18 l18 c19 => HeldR w fun S w => LdV b 0 S fun v31 => OpI .i64 v31 fun n5 => CallV Try.prog 43 #[.slice p18
  l18 c19] w fun v32 w => OpS v32 fun p19 l19 c20 => Hld (S w) (DoQ Try.prog (Instr.build 57 #[(0, .int .i64 n5), (1, .slice p19 l19 c20)]) (At w) fun v33 => OpA 2 v33 fun
  cs21 => StA 2 b2 0 cs21 w fun w => Hld (S w) (LdA 2 b2 0 (At w) fun cs22 => Ret [] (R (.tuple #[.int .i64 0, .agg cs22]) w)))) (DoV Try.prog (Instr.buildSlice 37 0 #[]) w
  fun v34 w => OpS v34 fun p20 l20 c21 => LdV b 1 (At w) fun v35 => OpS v35 fun p21 l21 c22 => DoV Try.prog (Builtin.append_ #[37, 37] 37 #[.slice p20 l20 c21, .slice p21
  l21 c22]) w fun v36 w => OpS v36 fun p22 l22 c23 => LdA 16 b1 0 (At w) fun cs23 => DoQ Try.prog (Instr.build 42 #[(0, .int .i64 1), (1, .int .u64 version), (2, .int .i64
  lba), (3, .agg cs23)]) (At w) fun v37 => OpA 19 v37 fun cs24 => DoV Try.prog (Instr.buildSlice 37 1 #[(0, .agg cs24)]) w fun v38 w => OpS v38 fun p23 l23 c24 => DoV
  Try.prog (Builtin.append_ #[37, 37] 37 #[.slice p22 l22 c23, .slice p23 l23 c24]) w fun v39 w => OpS v39 fun p24 l24 c25 => HeldR w fun S w => LdV b 0 S fun v40 => OpI
  .i64 v40 fun n6 => CallV Try.prog 43 #[.slice p24 l24 c25] w fun v41 w => OpS v41 fun p25 l25 c26 => Hld (S w) (DoQ Try.prog (Instr.build 57 #[(0, .int .i64 n6), (1,
  .slice p25 l25 c26)]) (At w) fun v42 => OpA 2 v42 fun cs25 => StA 2 b2 0 cs25 w fun w => Hld (S w) (LdA 2 b2 0 (At w) fun cs26 => Ret [] (R (.tuple #[.int .i64 0, .agg
  cs26]) w))))))) (Cb (decide (n < 0)) (LdV b 1 (At w) fun v43 => OpS v43 fun p26 l26 c27 => LdV b 0 (At w) fun v44 => OpI .i64 v44 fun n7 => Cb (decide (((l26 : Nat) : Int)
  ≥ n7)) (Dr1 w fun w => LdA 2 b 0 (At w) fun cs27 => StA 2 b2 0 cs27 w fun w => LdA 2 b2 0 (At w) fun cs28 => Ret [] (R (.tuple #[.int .i64 9, .agg cs28]) w)) (Cb (decide
  (n ≥ 0)) (LdA 2 b 0 (At w) fun cs29 => CallV Try.prog 45 #[.agg cs29, .int .i64 n] w fun v45 w => OpA 2 v45 fun cs30 => StA 2 b 0 cs30 w fun w => DoV Try.prog
  (Instr.buildSlice 37 0 #[]) w fun v46 w => OpS v46 fun p27 l27 c28 => LdV b 1 (At w) fun v47 => OpS v47 fun p28 l28 c29 => DoV Try.prog (Builtin.append_ #[37, 37] 37
  #[.slice p27 l27 c28, .slice p28 l28 c29]) w fun v48 w => OpS v48 fun p29 l29 c30 => LdA 16 b1 0 (At w) fun cs31 => DoQ Try.prog (Instr.build 42 #[(0, .int .i64 1), (1,
  .int .u64 version), (2, .int .i64 lba), (3, .agg cs31)]) (At w) fun v49 => OpA 19 v49 fun cs32 => DoV Try.prog (Instr.buildSlice 37 1 #[(0, .agg cs32)]) w fun v50 w => OpS
  v50 fun p30 l30 c31 => DoV Try.prog (Builtin.append_ #[37, 37] 37 #[.slice p29 l29 c30, .slice p30 l30 c31]) w fun v51 w => OpS v51 fun p31 l31 c32 => HeldR w fun S w =>
  LdV b 0 S fun v52 => OpI .i64 v52 fun n8 => CallV Try.prog 43 #[.slice p31 l31 c32] w fun v53 w => OpS v53 fun p32 l32 c33 => Hld (S w) (DoQ Try.prog (Instr.build 57 #[(0,
  .int .i64 n8), (1, .slice p32 l32 c33)]) (At w) fun v54 => OpA 2 v54 fun cs33 => StA 2 b2 0 cs33 w fun w => Hld (S w) (LdA 2 b2 0 (At w) fun cs34 => Ret [] (R (.tuple
  #[.int .i64 0, .agg cs34]) w)))) (DoV Try.prog (Instr.buildSlice 37 0 #[]) w fun v55 w => OpS v55 fun p33 l33 c34 => LdV b 1 (At w) fun v56 => OpS v56 fun p34 l34 c35 =>
  DoV Try.prog (Builtin.append_ #[37, 37] 37 #[.slice p33 l33 c34, .slice p34 l34 c35]) w fun v57 w => OpS v57 fun p35 l35 c36 => LdA 16 b1 0 (At w) fun cs35 => DoQ Try.prog
  (Instr.build 42 #[(0, .int .i64 1), (1, .int .u64 version), (2, .int .i64 lba), (3, .agg cs35)]) (At w) fun v58 => OpA 19 v58 fun cs36 => DoV Try.prog (Instr.buildSlice 37
  1 #[(0, .agg cs36)]) w fun v59 w => OpS v59 fun p36 l36 c37 => DoV Try.prog (Builtin.append_ #[37, 37] 37 #[.slice p35 l35 c36, .slice p36 l36 c37]) w fun v60 w => OpS v60
  fun p37 l37 c38 => HeldR w fun S w => LdV b 0 S fun v61 => OpI .i64 v61 fun n9 => CallV Try.prog 43 #[.slice p37 l37 c38] w fun v62 w => OpS v62 fun p38 l38 c39 => Hld (S
  w) (DoQ Try.prog (Instr.build 57 #[(0, .int .i64 n9), (1, .slice p38 l38 c39)]) (At w) fun v63 => OpA 2 v63 fun cs37 => StA 2 b2 0 cs37 w fun w => Hld (S w) (LdA 2 b2 0
  (At w) fun cs38 => Ret [] (R (.tuple #[.int .i64 0, .agg cs38]) w)))))) (Cb (decide (n ≥ 0)) (LdA 2 b 0 (At w) fun cs39 => CallV Try.prog 45 #[.agg cs39, .int .i64 n] w
  fun v64 w => OpA 2 v64 fun cs40 => StA 2 b 0 cs40 w fun w => DoV Try.prog (Instr.buildSlice 37 0 #[]) w fun v65 w => OpS v65 fun p39 l39 c40 => LdV b 1 (At w) fun v66 =>
  OpS v66 fun p40 l40 c41 => DoV Try.prog (Builtin.append_ #[37, 37] 37 #[.slice p39 l39 c40, .slice p40 l40 c41]) w fun v67 w => OpS v67 fun p41 l41 c42 => LdA 16 b1 0 (At
  w) fun cs41 => DoQ Try.prog (Instr.build 42 #[(0, .int .i64 1), (1, .int .u64 version), (2, .int .i64 lba), (3, .agg cs41)]) (At w) fun v68 => OpA 19 v68 fun cs42 => DoV
  Try.prog (Instr.buildSlice 37 1 #[(0, .agg cs42)]) w fun v69 w => OpS v69 fun p42 l42 c43 => DoV Try.prog (Builtin.append_ #[37, 37] 37 #[.slice p41 l41 c42, .slice p42
  l42 c43]) w fun v70 w => OpS v70 fun p43 l43 c44 => HeldR w fun S w => LdV b 0 S fun v71 => OpI .i64 v71 fun n10 => CallV Try.prog 43 #[.slice p43 l43 c44] w fun v72 w =>
  OpS v72 fun p44 l44 c45 => Hld (S w) (DoQ Try.prog (Instr.build 57 #[(0, .int .i64 n10), (1, .slice p44 l44 c45)]) (At w) fun v73 => OpA 2 v73 fun cs43 => StA 2 b2 0 cs43
  w fun w => Hld (S w) (LdA 2 b2 0 (At w) fun cs44 => Ret [] (R (.tuple #[.int .i64 0, .agg cs44]) w)))) (DoV Try.prog (Instr.buildSlice 37 0 #[]) w fun v74 w => OpS v74 fun
  p45 l45 c46 => LdV b 1 (At w) fun v75 => OpS v75 fun p46 l46 c47 => DoV Try.prog (Builtin.append_ #[37, 37] 37 #[.slice p45 l45 c46, .slice p46 l46 c47]) w fun v76 w =>
  OpS v76 fun p47 l47 c48 => LdA 16 b1 0 (At w) fun cs45 => DoQ Try.prog (Instr.build 42 #[(0, .int .i64 1), (1, .int .u64 version), (2, .int .i64 lba), (3, .agg cs45)]) (At
  w) fun v77 => OpA 19 v77 fun cs46 => DoV Try.prog (Instr.buildSlice 37 1 #[(0, .agg cs46)]) w fun v78 w => OpS v78 fun p48 l48 c49 => DoV Try.prog (Builtin.append_ #[37,
  37] 37 #[.slice p47 l47 c48, .slice p48 l48 c49]) w fun v79 w => OpS v79 fun p49 l49 c50 => HeldR w fun S w => LdV b 0 S fun v80 => OpI .i64 v80 fun n11 => CallV Try.prog
  43 #[.slice p49 l49 c50] w fun v81 w => OpS v81 fun p50 l50 c51 => Hld (S w) (DoQ Try.prog (Instr.build 57 #[(0, .int .i64 n11), (1, .slice p50 l50 c51)]) (At w) fun v82
  => OpA 2 v82 fun cs47 => StA 2 b2 0 cs47 w fun w => Hld (S w) (LdA 2 b2 0 (At w) fun cs48 => Ret [] (R (.tuple #[.int .i64 0, .agg cs48]) w)))))))))
theorem C_ravelinref11_Put {c : Array Value} {lba : Int} {data : Array Value} {version : Int} {w : World} {R : Value → World → Prop} (h : F_ravelinref11_Put c lba data version w R) : CallV Try.prog 27 #[.agg c, .int .i64 lba, .agg data, .int .u64 version] w R := by
  exact calls_of_F (args := [.agg c, .int .i64 lba, .agg data, .int .u64 version]) (mkAnn [] [] [] [] [65]) Try_mixed Try.func27 rfl rfl (by kernel_rfl) h
def F_ravelinref11_Clean (c : Array Value) (lba : Int) (version : Int) (w : World) (R : Value → World → Prop) : Prop :=
  Alc 57 c w fun b w => Alc 57 (zc Try.prog 57) w fun b1 w => LdA 2 b 0 (At w) fun cs => CallV Try.prog 44 #[.agg cs, .int .i64 lba] w fun v w => OpI .i64 v fun n => Cb
  (decide (n < 0)) (Dr1 w fun w => LdA 2 b 0 (At w) fun cs1 => StA 2 b1 0 cs1 w fun w => LdA 2 b1 0 (At w) fun cs2 => Ret [] (R (.tuple #[.int .i64 10, .agg cs2]) w)) (LdV b
  1 (At w) fun v1 => OpS v1 fun p l c1 => IdxS p l n 19 fun b2 o => LdV b2 (o + 1) (At w) fun v2 => OpI .u64 v2 fun n1 => Cb (decide (n1 > version)) (Dr1 w fun w => LdA 2 b
  0 (At w) fun cs3 => StA 2 b1 0 cs3 w fun w => LdA 2 b1 0 (At w) fun cs4 => Ret [] (R (.tuple #[.int .i64 12, .agg cs4]) w)) (LdA 2 b 0 (At w) fun cs5 => CallV Try.prog 45
  #[.agg cs5, .int .i64 n] w fun v3 w => OpA 2 v3 fun cs6 => StA 2 b1 0 cs6 w fun w => LdA 2 b1 0 (At w) fun cs7 => Ret [] (R (.tuple #[.int .i64 0, .agg cs7]) w)))
theorem C_ravelinref11_Clean {c : Array Value} {lba : Int} {version : Int} {w : World} {R : Value → World → Prop} (h : F_ravelinref11_Clean c lba version w R) : CallV Try.prog 29 #[.agg c, .int .i64 lba, .int .u64 version] w R := by
  exact calls_of_F (args := [.agg c, .int .i64 lba, .int .u64 version]) (mkAnn [] [] [] [] []) Try_mixed Try.func29 rfl rfl (by kernel_rfl) h
def F_ravelinref11_Get (c : Array Value) (lba : Int) (w : World) (R : Value → World → Prop) : Prop :=
  Alc 57 c w fun b w => Alc 31 (zc Try.prog 31) w fun b1 w => LdA 2 b 0 (At w) fun cs => CallV Try.prog 44 #[.agg cs, .int .i64 lba] w fun v w => OpI .i64 v fun n => Cb
  (decide (n < 0)) (DoQ Try.prog (Instr.build 31 #[]) (At w) fun v1 => OpA 16 v1 fun cs1 => StA 16 b1 0 cs1 w fun w => LdA 16 b1 0 (At w) fun cs2 => Ret [] (R (.tuple #[.agg
  cs2, .int .u64 0, .int .i64 10]) w)) (HeldR w fun S w => LdV b 1 (At w) fun v2 => OpS v2 fun p l c1 => IdxS p l n 19 fun b2 o => LdA 16 b2 (o + 3) (At w) fun cs3 => LdV b
  1 S fun v3 => OpS v3 fun p1 l1 c2 => IdxS p1 l1 n 19 fun b3 o1 => LdV b3 (o1 + 1) S fun v4 => OpI .u64 v4 fun n1 => StA 16 b1 0 cs3 w fun w => Hld (S w) (LdA 16 b1 0 (At
  w) fun cs4 => Ret [] (R (.tuple #[.agg cs4, .int .u64 n1, .int .i64 0]) w)))
theorem C_ravelinref11_Get {c : Array Value} {lba : Int} {w : World} {R : Value → World → Prop} (h : F_ravelinref11_Get c lba w R) : CallV Try.prog 30 #[.agg c, .int .i64 lba] w R := by
  exact calls_of_F (args := [.agg c, .int .i64 lba]) (mkAnn [] [] [] [] []) Try_mixed Try.func30 rfl rfl (by kernel_rfl) h
end Go.Proofs
