/- PRINTED BY pr.py (own program): what the evaluator of <Name>Ev makes of the code of some functions. -/
import Derived.Test.YtdjlmpkjdgmkkaaChecked
import Derived.Test.YtdjlmpkjdgmkkaaEv
import Derived.Test.YtdjlmpkjdgmkkaaMix
namespace Go.Proofs
open Go.Ev
set_option linter.unusedVariables false
set_option maxRecDepth 100000
def F_ravelinlaw21_HistoryAny (start : Array Value) (valuesp : Option Addr) (valuesl : Nat) (valuesc : Nat) (w : World) (R : Value → World → Prop) : Prop :=
  Alc 23 start w fun b w => CallV Try.prog 14 #[] w fun v w => OpB v fun g => Cb (!g) (Ret [] (R (.bool false) w)) (Cb (decide (((valuesl : Nat) : Int) > 8)) (Slc valuesl
  valuesc none (some 8) none fun l h m => DoV Try.prog (Instr.buildSlice 24 0 #[]) w fun v1 w => OpS v1 fun p l1 c => DoV Try.prog (Instr.buildSlice 24 0 #[]) w fun v2 w =>
  OpS v2 fun p1 l2 c1 => DoV Try.prog (Instr.makeSlice 67 (.int .i64 256) (.int .i64 256)) w fun v3 w => OpS v3 fun p2 l3 c2 => LoopC (σ := (Option Addr × Nat × Nat) ×
  (Option Addr × Nat × Nat) × Int × Int × Unit) (fun _ s1 w K1 => Cb (decide (s1.2.2.2.1 < ((h - l : Nat) : Int))) (IdxS (slcP 1 l m valuesp) (h - l) s1.2.2.2.1 1 fun b1 o
  => LdV b1 o (At w) fun v4 => OpI .u8 v4 fun n => DoQ Try.prog (Instr.build 23 #[(0, .int .u8 n), (1, .int .u8 77)]) (At w) fun v5 => OpA 16 v5 fun cs => Alc 23 (zc
  Try.prog 23) w fun b2 w => StA 16 b2 0 cs w fun w => LdA 16 b2 0 (At w) fun cs1 => DoQ Try.prog (Instr.build 31 #[(0, .bool true), (1, .agg cs1), (2, .int .i64
  s1.2.2.2.1), (3, .int .i64 100)]) (At w) fun v6 => OpA 19 v6 fun cs2 => DoV Try.prog (Instr.buildSlice 24 1 #[(0, .agg cs2)]) w fun v7 w => OpS v7 fun p3 l4 c3 => DoV
  Try.prog (Builtin.append_ #[24, 24] 24 #[.slice s1.1.1 s1.1.2.1 s1.1.2.2, .slice p3 l4 c3]) w fun v8 w => OpS v8 fun p4 l5 c4 => LdA 16 b2 0 (At w) fun cs3 => DoQ Try.prog
  (Instr.build 31 #[(0, .bool true), (1, .agg cs3), (2, .int .i64 (IntKind.wrap .i64 (2 * s1.2.2.2.1))), (3, .int .i64 (IntKind.wrap .i64 ((IntKind.wrap .i64 (2 *
  s1.2.2.2.1)) + 1)))]) (At w) fun v9 => OpA 19 v9 fun cs4 => DoV Try.prog (Instr.buildSlice 24 1 #[(0, .agg cs4)]) w fun v10 w => OpS v10 fun p5 l6 c5 => DoV Try.prog
  (Builtin.append_ #[24, 24] 24 #[.slice s1.2.1.1 s1.2.1.2.1 s1.2.1.2.2, .slice p5 l6 c5]) w fun v11 w => OpS v11 fun p6 l7 c6 => IdxS (slcP 1 l m valuesp) (h - l)
  s1.2.2.2.1 1 fun b3 o1 => LdV b3 o1 (At w) fun v12 => OpI .u8 v12 fun n1 => IdxS p2 l3 n1 1 fun b4 o2 => LdV b4 o2 (At w) fun v13 => OpB v13 fun g1 => Cb (!g1) (IdxS (slcP
  1 l m valuesp) (h - l) s1.2.2.2.1 1 fun b5 o3 => LdV b5 o3 (At w) fun v14 => OpI .u8 v14 fun n2 => IdxS p2 l3 n2 1 fun b6 o4 => StV b6 o4 (.bool true) w fun w => K1 ((p4,
  l5, c4), ((p6, l7, c6), (IntKind.wrap .i64 (s1.2.2.1 + 1), (IntKind.wrap .i64 (s1.2.2.2.1 + 1), ())))) w) (K1 ((p4, l5, c4), ((p6, l7, c6), (s1.2.2.1, (IntKind.wrap .i64
  (s1.2.2.2.1 + 1), ())))) w)) (LdA 16 b 0 (At w) fun cs5 => CallV Try.prog 43 #[.agg cs5, .slice s1.1.1 s1.1.2.1 s1.1.2.2] w fun v15 w => T2 v15 fun v16 v17 => OpS v16 fun
  p7 l8 c7 => OpI .i64 v17 fun n3 => LdA 16 b 0 (At w) fun cs6 => CallV Try.prog 43 #[.agg cs6, .slice s1.2.1.1 s1.2.1.2.1 s1.2.1.2.2] w fun v18 w => T2 v18 fun v19 v20 =>
  OpS v19 fun p8 l9 c8 => OpI .i64 v20 fun n4 => Req ((n3 != 0) = (n3 != 0)) (Req ((n3 != 0) = (n3 != 0)) (Cb (cond (n3 != 0) true (n4 != 0)) (Ret [] (R (.bool false) w))
  (Cb (((l9 : Nat) : Int) != 1) (Ret [] (R (.bool false) w)) (Cb (((h - l : Nat) : Int) == 0) (Cb (((l8 : Nat) : Int) == 1) (IdxS p7 l8 0 16 fun b7 o5 => LdA 16 b7 o5 (At w)
  fun cs7 => LdA 16 b 0 (At w) fun cs8 => EqB Try.prog .eql 23 (.tmp 101) (.tmp 102) (.agg cs7 : Value) (.agg cs8 : Value) (At w) fun g2 => Cb g2 (IdxS p8 l9 0 16 fun b8 o6
  => LdA 16 b8 o6 (At w) fun cs9 => LdA 16 b 0 (At w) fun cs10 => EqB Try.prog .eql 23 (.tmp 108) (.tmp 109) (.agg cs9 : Value) (.agg cs10 : Value) (At w) fun g3 => Drw w
  fun w => Ret [] (R (.bool g3) w)) (Drw w fun w => Ret [] (R (.bool false) w))) (Drw w fun w => Ret [] (R (.bool false) w))) (LoopC (σ := Int × Unit) (fun _ s2 w K2 => Cb
  (decide (s2.1 < ((l8 : Nat) : Int))) (IdxS p7 l8 s2.1 16 fun b9 o7 => Req (0 ≤ (0 : Int) ∧ (0 : Int) < 16) (LdV b9 (o7 + Int.toNat 0 * 1) (At w) fun v21 => OpI .u8 v21 fun
  n5 => IdxS p2 l3 n5 1 fun b10 o8 => LdV b10 o8 (At w) fun v22 => OpB v22 fun g4 => Cb (!g4) (Drw w fun w => Ret [] (R (.bool false) w)) (IdxS p7 l8 s2.1 16 fun b11 o9 =>
  Req (0 ≤ (1 : Int) ∧ (1 : Int) < 16) (LdV b11 (o9 + Int.toNat 1 * 1) (At w) fun v23 => OpI .u8 v23 fun n6 => Cb (n6 != 77) (Drw w fun w => Ret [] (R (.bool false) w)) (Cb
  (decide (s2.1 > 0)) (IdxS p7 l8 (IntKind.wrap .i64 (s2.1 - 1)) 16 fun b12 o10 => Req (0 ≤ (0 : Int) ∧ (0 : Int) < 16) (LdV b12 (o10 + Int.toNat 0 * 1) (At w) fun v24 =>
  OpI .u8 v24 fun n7 => IdxS p7 l8 s2.1 16 fun b13 o11 => Req (0 ≤ (0 : Int) ∧ (0 : Int) < 16) (LdV b13 (o11 + Int.toNat 0 * 1) (At w) fun v25 => OpI .u8 v25 fun n8 => Drw w
  fun w => Cb (decide (n7 ≥ n8)) (Ret [] (R (.bool false) w)) (K2 (IntKind.wrap .i64 (s2.1 + 1), ()) w)))) (Drw w fun w => K2 (IntKind.wrap .i64 (s2.1 + 1), ()) w)))))) (Cb
  (((l8 : Nat) : Int) == s1.2.2.1) (IdxS p8 l9 0 16 fun b14 o12 => LdA 16 b14 o12 (At w) fun cs11 => IdxS (slcP 1 l m valuesp) (h - l) (IntKind.wrap .i64 (((h - l : Nat) :
  Int) - 1)) 1 fun b15 o13 => LdV b15 o13 (At w) fun v26 => OpI .u8 v26 fun n9 => DoQ Try.prog (Instr.build 23 #[(0, .int .u8 n9), (1, .int .u8 77)]) (At w) fun v27 => OpA
  16 v27 fun cs12 => EqB Try.prog .eql 23 (.tmp 160) (.tmp 167) (.agg cs11 : Value) (.agg cs12 : Value) (At w) fun g5 => Drw w fun w => Ret [] (R (.bool g5) w)) (Drw w fun w
  => Ret [] (R (.bool false) w)))) (0, ()) w))))))) ((p, l1, c), ((p1, l2, c1), (0, (0, ())))) w) (DoV Try.prog (Instr.buildSlice 24 0 #[]) w fun v28 w => OpS v28 fun p9 l10
  c9 => DoV Try.prog (Instr.buildSlice 24 0 #[]) w fun v29 w => OpS v29 fun p10 l11 c10 => DoV Try.prog (Instr.makeSlice 67 (.int .i64 256) (.int .i64 256)) w fun v30 w =>
  OpS v30 fun p11 l12 c11 => LoopC (σ := (Option Addr × Nat × Nat) × (Option Addr × Nat × Nat) × Int × Int × Unit) (fun _ s3 w K3 => Cb (decide (s3.2.2.2.1 < ((valuesl :
  Nat) : Int))) (IdxS valuesp valuesl s3.2.2.2.1 1 fun b16 o14 => LdV b16 o14 (At w) fun v31 => OpI .u8 v31 fun n10 => DoQ Try.prog (Instr.build 23 #[(0, .int .u8 n10), (1,
  .int .u8 77)]) (At w) fun v32 => OpA 16 v32 fun cs13 => Alc 23 (zc Try.prog 23) w fun b17 w => StA 16 b17 0 cs13 w fun w => LdA 16 b17 0 (At w) fun cs14 => DoQ Try.prog
  (Instr.build 31 #[(0, .bool true), (1, .agg cs14), (2, .int .i64 s3.2.2.2.1), (3, .int .i64 100)]) (At w) fun v33 => OpA 19 v33 fun cs15 => DoV Try.prog (Instr.buildSlice
  24 1 #[(0, .agg cs15)]) w fun v34 w => OpS v34 fun p12 l13 c12 => DoV Try.prog (Builtin.append_ #[24, 24] 24 #[.slice s3.1.1 s3.1.2.1 s3.1.2.2, .slice p12 l13 c12]) w fun
  v35 w => OpS v35 fun p13 l14 c13 => LdA 16 b17 0 (At w) fun cs16 => DoQ Try.prog (Instr.build 31 #[(0, .bool true), (1, .agg cs16), (2, .int .i64 (IntKind.wrap .i64 (2 *
  s3.2.2.2.1))), (3, .int .i64 (IntKind.wrap .i64 ((IntKind.wrap .i64 (2 * s3.2.2.2.1)) + 1)))]) (At w) fun v36 => OpA 19 v36 fun cs17 => DoV Try.prog (Instr.buildSlice 24 1
  #[(0, .agg cs17)]) w fun v37 w => OpS v37 fun p14 l15 c14 => DoV Try.prog (Builtin.append_ #[24, 24] 24 #[.slice s3.2.1.1 s3.2.1.2.1 s3.2.1.2.2, .slice p14 l15 c14]) w fun
  v38 w => OpS v38 fun p15 l16 c15 => IdxS valuesp valuesl s3.2.2.2.1 1 fun b18 o15 => LdV b18 o15 (At w) fun v39 => OpI .u8 v39 fun n11 => IdxS p11 l12 n11 1 fun b19 o16 =>
  LdV b19 o16 (At w) fun v40 => OpB v40 fun g6 => Cb (!g6) (IdxS valuesp valuesl s3.2.2.2.1 1 fun b20 o17 => LdV b20 o17 (At w) fun v41 => OpI .u8 v41 fun n12 => IdxS p11
  l12 n12 1 fun b21 o18 => StV b21 o18 (.bool true) w fun w => K3 ((p13, l14, c13), ((p15, l16, c15), (IntKind.wrap .i64 (s3.2.2.1 + 1), (IntKind.wrap .i64 (s3.2.2.2.1 + 1),
  ())))) w) (K3 ((p13, l14, c13), ((p15, l16, c15), (s3.2.2.1, (IntKind.wrap .i64 (s3.2.2.2.1 + 1), ())))) w)) (LdA 16 b 0 (At w) fun cs18 => CallV Try.prog 43 #[.agg cs18,
  .slice s3.1.1 s3.1.2.1 s3.1.2.2] w fun v42 w => T2 v42 fun v43 v44 => OpS v43 fun p16 l17 c16 => OpI .i64 v44 fun n13 => LdA 16 b 0 (At w) fun cs19 => CallV Try.prog 43
  #[.agg cs19, .slice s3.2.1.1 s3.2.1.2.1 s3.2.1.2.2] w fun v45 w => T2 v45 fun v46 v47 => OpS v46 fun p17 l18 c17 => OpI .i64 v47 fun n14 => Req ((n13 != 0) = (n13 != 0))
  (Req ((n13 != 0) = (n13 != 0)) (Cb (cond (n13 != 0) true (n14 != 0)) (Ret [] (R (.bool false) w)) (Cb (((l18 : Nat) : Int) != 1) (Ret [] (R (.bool false) w)) (Cb
  (((valuesl : Nat) : Int) == 0) (Cb (((l17 : Nat) : Int) == 1) (IdxS p16 l17 0 16 fun b22 o19 => LdA 16 b22 o19 (At w) fun cs20 => LdA 16 b 0 (At w) fun cs21 => EqB
  Try.prog .eql 23 (.tmp 101) (.tmp 102) (.agg cs20 : Value) (.agg cs21 : Value) (At w) fun g7 => Cb g7 (IdxS p17 l18 0 16 fun b23 o20 => LdA 16 b23 o20 (At w) fun cs22 =>
  LdA 16 b 0 (At w) fun cs23 => EqB Try.prog .eql 23 (.tmp 108) (.tmp 109) (.agg cs22 : Value) (.agg cs23 : Value) (At w) fun g8 => Drw w fun w => Ret [] (R (.bool g8) w))
  (Drw w fun w => Ret [] (R (.bool false) w))) (Drw w fun w => Ret [] (R (.bool false) w))) (LoopC (σ := Int × Unit) (fun _ s4 w K4 => Cb (decide (s4.1 < ((l17 : Nat) :
  Int))) (IdxS p16 l17 s4.1 16 fun b24 o21 => Req (0 ≤ (0 : Int) ∧ (0 : Int) < 16) (LdV b24 (o21 + Int.toNat 0 * 1) (At w) fun v48 => OpI .u8 v48 fun n15 => IdxS p11 l12 n15
  1 fun b25 o22 => LdV b25 o22 (At w) fun v49 => OpB v49 fun g9 => Cb (!g9) (Drw w fun w => Ret [] (R (.bool false) w)) (IdxS p16 l17 s4.1 16 fun b26 o23 => Req (0 ≤ (1 :
  Int) ∧ (1 : Int) < 16) (LdV b26 (o23 + Int.toNat 1 * 1) (At w) fun v50 => OpI .u8 v50 fun n16 => Cb (n16 != 77) (Drw w fun w => Ret [] (R (.bool false) w)) (Cb (decide
  (s4.1 > 0)) (IdxS p16 l17 (IntKind.wrap .i64 (s4.1 - 1)) 16 fun b27 o24 => Req (0 ≤ (0 : Int) ∧ (0 : Int) < 16) (LdV b27 (o24 + Int.toNat 0 * 1) (At w) fun v51 => OpI .u8
  v51 fun n17 => IdxS p16 l17 s4.1 16 fun b28 o25 => Req (0 ≤ (0 : Int) ∧ (0 : Int) < 16) (LdV b28 (o25 + Int.toNat 0 * 1) (At w) fun v52 => OpI .u8 v52 fun n18 => Drw w fun
  w => Cb (decide (n17 ≥ n18)) (Ret [] (R (.bool false) w)) (K4 (IntKind.wrap .i64 (s4.1 + 1), ()) w)))) (Drw w fun w => K4 (IntKind.wrap .i64 (s4.1 + 1), ()) w)))))) (Cb
  (((l17 : Nat) : Int) == s3.2.2.1) (IdxS p17 l18 0 16 fun b29 o26 => LdA 16 b29 o26 (At w) fun cs24 => IdxS valuesp valuesl (IntKind.wrap .i64 (((valuesl : Nat) : Int) -
  1)) 1 fun b30 o27 => LdV b30 o27 (At w) fun v53 => OpI .u8 v53 fun n19 => DoQ Try.prog (Instr.build 23 #[(0, .int .u8 n19), (1, .int .u8 77)]) (At w) fun v54 => OpA 16 v54
  fun cs25 => EqB Try.prog .eql 23 (.tmp 160) (.tmp 167) (.agg cs24 : Value) (.agg cs25 : Value) (At w) fun g10 => Drw w fun w => Ret [] (R (.bool g10) w)) (Drw w fun w =>
  Ret [] (R (.bool false) w)))) (0, ()) w))))))) ((p9, l10, c9), ((p10, l11, c10), (0, (0, ())))) w))
theorem C_ravelinlaw21_HistoryAny {start : Array Value} {valuesp : Option Addr} {valuesl : Nat} {valuesc : Nat} {w : World} {R : Value → World → Prop} (h : F_ravelinlaw21_HistoryAny start valuesp valuesl valuesc w R) : CallV Try.prog 11 #[.agg start, .slice valuesp valuesl valuesc] w R := by
  exact calls_of_F (args := [.agg start, .slice valuesp valuesl valuesc]) (mkAnn [(9, [(5, .slice), (6, .slice), (8, (.int .i64)), (9, (.int .i64))]), (24, [(15, (.int .i64))])] [] [] [] []) Try_mixed Try.func11 rfl rfl (by kernel_rfl) h
end Go.Proofs
