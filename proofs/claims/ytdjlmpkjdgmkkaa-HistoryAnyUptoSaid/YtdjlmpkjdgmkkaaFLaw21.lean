/- PRINTED BY pr.py (own program): what the evaluator of <Name>Ev makes of the code of some functions. -/
import Derived.Test.YtdjlmpkjdgmkkaaChecked
import Derived.Test.YtdjlmpkjdgmkkaaEv
import Derived.Test.YtdjlmpkjdgmkkaaMix
namespace Go.Proofs
open Go.Ev
set_option linter.unusedVariables false
set_option maxRecDepth 100000
def F_ravelinlaw21_awake  (w : World) (R : Value → World → Prop) : Prop :=
  DoQ Try.prog (Instr.build 23 #[(0, .int .u8 1)]) (At w) fun v => OpA 16 v fun cs => DoQ Try.prog (Instr.build 31 #[(0, .bool true), (1, .agg cs), (3, .int .i64 2)]) (At w)
  fun v1 => OpA 19 v1 fun cs1 => DoQ Try.prog (Instr.build 23 #[(0, .int .u8 1)]) (At w) fun v2 => OpA 16 v2 fun cs2 => DoQ Try.prog (Instr.build 31 #[(1, .agg cs2), (2,
  .int .i64 1), (3, .int .i64 1)]) (At w) fun v3 => OpA 19 v3 fun cs3 => DoQ Try.prog (Instr.build 31 #[(2, .int .i64 2), (3, .int .i64 3)]) (At w) fun v4 => OpA 19 v4 fun
  cs4 => DoV Try.prog (Instr.buildSlice 24 3 #[(0, .agg cs1), (1, .agg cs3), (2, .agg cs4)]) w fun v5 w => OpS v5 fun p l c => DoQ Try.prog (Instr.build 23 #[]) (At w) fun
  v6 => OpA 16 v6 fun cs5 => CallV Try.prog 12 #[.agg cs5, .slice p l c] w fun v7 w => T2 v7 fun v8 v9 => OpB v8 fun g => OpI .i64 v9 fun n => IdxS p l 2 19 fun b o => StV b
  (o + 17) (.int .i64 1) w fun w => DoQ Try.prog (Instr.build 23 #[]) (At w) fun v10 => OpA 16 v10 fun cs6 => CallV Try.prog 12 #[.agg cs6, .slice p l c] w fun v11 w => T2
  v11 fun v12 v13 => OpB v12 fun g1 => OpI .i64 v13 fun n1 => Req ((n == 0) = (n == 0)) (Req ((n == 0) = (n == 0)) (Req ((cond (n == 0) (n1 == 0) false) = (cond (n == 0) (n1
  == 0) false)) (Req ((cond (n == 0) (n1 == 0) false) = (cond (n == 0) (n1 == 0) false)) (Req ((cond (cond (n == 0) (n1 == 0) false) (!g) false) = (cond (cond (n == 0) (n1
  == 0) false) (!g) false)) (Ret [] (R (.bool (cond (cond (cond (n == 0) (n1 == 0) false) (!g) false) g1 false)) w))))))
theorem C_ravelinlaw21_awake  {w : World} {R : Value → World → Prop} (h : F_ravelinlaw21_awake  w R) : CallV Try.prog 14 #[] w R := by
  exact calls_of_F (args := []) (mkAnn [] [] [] [] []) Try_mixed Try.func14 rfl rfl (by kernel_rfl) h
def F_ravelinlaw21_HistoryChecks (start : Array Value) (eventsp : Option Addr) (eventsl : Nat) (eventsc : Nat) (w : World) (R : Value → World → Prop) : Prop :=
  Alc 23 start w fun b w => DoV Try.prog (Instr.buildSlice 24 0 #[]) w fun v w => OpS v fun p l c => DoV Try.prog (Builtin.append_ #[24, 24] 24 #[.slice p l c, .slice
  eventsp eventsl eventsc]) w fun v1 w => OpS v1 fun p1 l1 c1 => LdA 16 b 0 (At w) fun cs => CallV Try.prog 12 #[.agg cs, .slice p1 l1 c1] w fun v2 w => T2 v2 fun v3 v4 =>
  OpB v3 fun g => OpI .i64 v4 fun n => LdA 16 b 0 (At w) fun cs1 => CallV Try.prog 13 #[.agg cs1, .slice eventsp eventsl eventsc] w fun v5 w => T2 v5 fun v6 v7 => OpB v6 fun
  g1 => OpI .i64 v7 fun n1 => CallV Try.prog 14 #[] w fun v8 w => OpB v8 fun g2 => Cb (!g2) (Req (true = true) (Req (true = true) (Req (true = true) (Req (true = true) (Req
  (true = true) (Req (true = true) (Ret [] (R (.bool false) w)))))))) (CallV Try.prog 15 #[.slice p1 l1 c1] w fun v9 w => OpI .i64 v9 fun n2 => CallV Try.prog 16 #[.slice
  eventsp eventsl eventsc] w fun v10 w => OpI .i64 v10 fun n3 => Req ((n2 != n3) = (n2 != n3)) (Req ((n2 != n3) = (n2 != n3)) (Req ((n2 != n3) = (n2 != n3)) (Req ((cond (n2
  != n3) true (!(g == g1))) = (cond (n2 != n3) true (!(g == g1)))) (Req ((cond (n2 != n3) true (!(g == g1))) = (cond (n2 != n3) true (!(g == g1)))) (Req ((cond (n2 != n3)
  true (!(g == g1))) = (cond (n2 != n3) true (!(g == g1)))) (Cb (cond (cond (n2 != n3) true (!(g == g1))) true (n != n1)) (Ret [] (R (.bool false) w)) (LoopC (σ := Int ×
  Unit) (fun _ s1 w K1 => Cb (decide (s1.1 < ((eventsl : Nat) : Int))) (IdxS p1 l1 s1.1 19 fun b1 o => LdA 19 b1 o (At w) fun cs2 => IdxS eventsp eventsl s1.1 19 fun b2 o1
  => LdA 19 b2 o1 (At w) fun cs3 => EqB Try.prog .neq 31 (.tmp 54) (.tmp 58) (.agg cs2 : Value) (.agg cs3 : Value) (At w) fun g3 => Drw w fun w => Cb g3 (Ret [] (R (.bool
  false) w)) (K1 (IntKind.wrap .i64 (s1.1 + 1), ()) w)) (Ret [] (R (.bool true) w))) (0, ()) w))))))))
theorem C_ravelinlaw21_HistoryChecks {start : Array Value} {eventsp : Option Addr} {eventsl : Nat} {eventsc : Nat} {w : World} {R : Value → World → Prop} (h : F_ravelinlaw21_HistoryChecks start eventsp eventsl eventsc w R) : CallV Try.prog 3 #[.agg start, .slice eventsp eventsl eventsc] w R := by
  exact calls_of_F (args := [.agg start, .slice eventsp eventsl eventsc]) (mkAnn [(7, [(10, (.int .i64))])] [] [] [] []) Try_mixed Try.func3 rfl rfl (by kernel_rfl) h
def F_ravelinlaw21_HistoryWider (start : Array Value) (eventsp : Option Addr) (eventsl : Nat) (eventsc : Nat) (laterp : Option Addr) (laterl : Nat) (laterc : Nat) (more : Array Value) (from_ : Int) (w : World) (R : Value → World → Prop) : Prop :=
  Alc 23 start w fun b w => Alc 23 more w fun b1 w => CallV Try.prog 14 #[] w fun v w => OpB v fun g => Cb (!g) (Ret [] (R (.bool false) w)) (LdA 16 b 0 (At w) fun cs =>
  CallV Try.prog 12 #[.agg cs, .slice eventsp eventsl eventsc] w fun v1 w => T2 v1 fun v2 v3 => OpB v2 fun g1 => OpI .i64 v3 fun n => Cb (n != 0) (Ret [] (R (.bool (!g1))
  w)) (DoV Try.prog (Instr.buildSlice 24 0 #[]) w fun v4 w => OpS v4 fun p l c => LoopC (σ := (Option Addr × Nat × Nat) × Int × Unit) (fun _ s1 w K1 => Cb (decide (s1.2.1 <
  ((eventsl : Nat) : Int))) (IdxS eventsp eventsl s1.2.1 19 fun b2 o => LdA 19 b2 o (At w) fun cs1 => Alc 31 (zc Try.prog 31) w fun b3 w => StA 19 b3 0 cs1 w fun w => LdV b3
  18 (At w) fun v5 => OpI .i64 v5 fun n1 => Cb (decide (n1 ≥ 0)) (LdV b3 18 (At w) fun v6 => OpI .i64 v6 fun n2 => Cb (decide (n2 < 1000000)) (Cb (decide (s1.2.1 < ((laterl
  : Nat) : Int))) (Dr1 w fun w => LdV b3 18 (At w) fun v7 => OpI .i64 v7 fun n3 => IdxS laterp laterl s1.2.1 1 fun b4 o1 => LdV b4 o1 (At w) fun v8 => OpI .u8 v8 fun n4 =>
  Req ((5 : Int) ≠ 0) (StV b3 18 (.int .i64 (IntKind.wrap .i64 (n3 + (IntKind.wrap .i64 (Int.tmod n4 5))))) w fun w => LdV b3 0 (At w) fun v9 => OpB v9 fun g2 => Cb g2 (Cb
  (decide (s1.2.1 < ((laterl : Nat) : Int))) (IdxS laterp laterl s1.2.1 1 fun b5 o2 => LdV b5 o2 (At w) fun v10 => OpI .u8 v10 fun n5 => Req ((7 : Int) ≠ 0) (Cb (Int.tmod n5
  7 == 0) (StV b3 18 (.int .i64 (-1)) w fun w => LdA 19 b3 0 (At w) fun cs2 => DoV Try.prog (Instr.buildSlice 24 1 #[(0, .agg cs2)]) w fun v11 w => OpS v11 fun p1 l1 c1 =>
  DoV Try.prog (Builtin.append_ #[24, 24] 24 #[.slice s1.1.1 s1.1.2.1 s1.1.2.2, .slice p1 l1 c1]) w fun v12 w => OpS v12 fun p2 l2 c2 => K1 ((p2, l2, c2), (IntKind.wrap .i64
  (s1.2.1 + 1), ())) w) (LdA 19 b3 0 (At w) fun cs3 => DoV Try.prog (Instr.buildSlice 24 1 #[(0, .agg cs3)]) w fun v13 w => OpS v13 fun p3 l3 c3 => DoV Try.prog
  (Builtin.append_ #[24, 24] 24 #[.slice s1.1.1 s1.1.2.1 s1.1.2.2, .slice p3 l3 c3]) w fun v14 w => OpS v14 fun p4 l4 c4 => K1 ((p4, l4, c4), (IntKind.wrap .i64 (s1.2.1 +
  1), ())) w))) (LdA 19 b3 0 (At w) fun cs4 => DoV Try.prog (Instr.buildSlice 24 1 #[(0, .agg cs4)]) w fun v15 w => OpS v15 fun p5 l5 c5 => DoV Try.prog (Builtin.append_
  #[24, 24] 24 #[.slice s1.1.1 s1.1.2.1 s1.1.2.2, .slice p5 l5 c5]) w fun v16 w => OpS v16 fun p6 l6 c6 => K1 ((p6, l6, c6), (IntKind.wrap .i64 (s1.2.1 + 1), ())) w)) (LdA
  19 b3 0 (At w) fun cs5 => DoV Try.prog (Instr.buildSlice 24 1 #[(0, .agg cs5)]) w fun v17 w => OpS v17 fun p7 l7 c7 => DoV Try.prog (Builtin.append_ #[24, 24] 24 #[.slice
  s1.1.1 s1.1.2.1 s1.1.2.2, .slice p7 l7 c7]) w fun v18 w => OpS v18 fun p8 l8 c8 => K1 ((p8, l8, c8), (IntKind.wrap .i64 (s1.2.1 + 1), ())) w))) (LdV b3 0 (At w) fun v19 =>
  OpB v19 fun g3 => Cb g3 (Cb (decide (s1.2.1 < ((laterl : Nat) : Int))) (IdxS laterp laterl s1.2.1 1 fun b6 o3 => LdV b6 o3 (At w) fun v20 => OpI .u8 v20 fun n6 => Req ((7
  : Int) ≠ 0) (Cb (Int.tmod n6 7 == 0) (StV b3 18 (.int .i64 (-1)) w fun w => LdA 19 b3 0 (At w) fun cs6 => DoV Try.prog (Instr.buildSlice 24 1 #[(0, .agg cs6)]) w fun v21 w
  => OpS v21 fun p9 l9 c9 => DoV Try.prog (Builtin.append_ #[24, 24] 24 #[.slice s1.1.1 s1.1.2.1 s1.1.2.2, .slice p9 l9 c9]) w fun v22 w => OpS v22 fun p10 l10 c10 => K1
  ((p10, l10, c10), (IntKind.wrap .i64 (s1.2.1 + 1), ())) w) (LdA 19 b3 0 (At w) fun cs7 => DoV Try.prog (Instr.buildSlice 24 1 #[(0, .agg cs7)]) w fun v23 w => OpS v23 fun
  p11 l11 c11 => DoV Try.prog (Builtin.append_ #[24, 24] 24 #[.slice s1.1.1 s1.1.2.1 s1.1.2.2, .slice p11 l11 c11]) w fun v24 w => OpS v24 fun p12 l12 c12 => K1 ((p12, l12,
  c12), (IntKind.wrap .i64 (s1.2.1 + 1), ())) w))) (LdA 19 b3 0 (At w) fun cs8 => DoV Try.prog (Instr.buildSlice 24 1 #[(0, .agg cs8)]) w fun v25 w => OpS v25 fun p13 l13
  c13 => DoV Try.prog (Builtin.append_ #[24, 24] 24 #[.slice s1.1.1 s1.1.2.1 s1.1.2.2, .slice p13 l13 c13]) w fun v26 w => OpS v26 fun p14 l14 c14 => K1 ((p14, l14, c14),
  (IntKind.wrap .i64 (s1.2.1 + 1), ())) w)) (LdA 19 b3 0 (At w) fun cs9 => DoV Try.prog (Instr.buildSlice 24 1 #[(0, .agg cs9)]) w fun v27 w => OpS v27 fun p15 l15 c15 =>
  DoV Try.prog (Builtin.append_ #[24, 24] 24 #[.slice s1.1.1 s1.1.2.1 s1.1.2.2, .slice p15 l15 c15]) w fun v28 w => OpS v28 fun p16 l16 c16 => K1 ((p16, l16, c16),
  (IntKind.wrap .i64 (s1.2.1 + 1), ())) w))) (LdV b3 0 (At w) fun v29 => OpB v29 fun g4 => Cb g4 (Cb (decide (s1.2.1 < ((laterl : Nat) : Int))) (IdxS laterp laterl s1.2.1 1
  fun b7 o4 => LdV b7 o4 (At w) fun v30 => OpI .u8 v30 fun n7 => Req ((7 : Int) ≠ 0) (Cb (Int.tmod n7 7 == 0) (StV b3 18 (.int .i64 (-1)) w fun w => LdA 19 b3 0 (At w) fun
  cs10 => DoV Try.prog (Instr.buildSlice 24 1 #[(0, .agg cs10)]) w fun v31 w => OpS v31 fun p17 l17 c17 => DoV Try.prog (Builtin.append_ #[24, 24] 24 #[.slice s1.1.1
  s1.1.2.1 s1.1.2.2, .slice p17 l17 c17]) w fun v32 w => OpS v32 fun p18 l18 c18 => K1 ((p18, l18, c18), (IntKind.wrap .i64 (s1.2.1 + 1), ())) w) (LdA 19 b3 0 (At w) fun
  cs11 => DoV Try.prog (Instr.buildSlice 24 1 #[(0, .agg cs11)]) w fun v33 w => OpS v33 fun p19 l19 c19 => DoV Try.prog (Builtin.append_ #[24, 24] 24 #[.slice s1.1.1
  s1.1.2.1 s1.1.2.2, .slice p19 l19 c19]) w fun v34 w => OpS v34 fun p20 l20 c20 => K1 ((p20, l20, c20), (IntKind.wrap .i64 (s1.2.1 + 1), ())) w))) (LdA 19 b3 0 (At w) fun
  cs12 => DoV Try.prog (Instr.buildSlice 24 1 #[(0, .agg cs12)]) w fun v35 w => OpS v35 fun p21 l21 c21 => DoV Try.prog (Builtin.append_ #[24, 24] 24 #[.slice s1.1.1
  s1.1.2.1 s1.1.2.2, .slice p21 l21 c21]) w fun v36 w => OpS v36 fun p22 l22 c22 => K1 ((p22, l22, c22), (IntKind.wrap .i64 (s1.2.1 + 1), ())) w)) (LdA 19 b3 0 (At w) fun
  cs13 => DoV Try.prog (Instr.buildSlice 24 1 #[(0, .agg cs13)]) w fun v37 w => OpS v37 fun p23 l23 c23 => DoV Try.prog (Builtin.append_ #[24, 24] 24 #[.slice s1.1.1
  s1.1.2.1 s1.1.2.2, .slice p23 l23 c23]) w fun v38 w => OpS v38 fun p24 l24 c24 => K1 ((p24, l24, c24), (IntKind.wrap .i64 (s1.2.1 + 1), ())) w))) (LdV b3 0 (At w) fun v39
  => OpB v39 fun g5 => Cb g5 (Cb (decide (s1.2.1 < ((laterl : Nat) : Int))) (IdxS laterp laterl s1.2.1 1 fun b8 o5 => LdV b8 o5 (At w) fun v40 => OpI .u8 v40 fun n8 => Req
  ((7 : Int) ≠ 0) (Cb (Int.tmod n8 7 == 0) (StV b3 18 (.int .i64 (-1)) w fun w => LdA 19 b3 0 (At w) fun cs14 => DoV Try.prog (Instr.buildSlice 24 1 #[(0, .agg cs14)]) w fun
  v41 w => OpS v41 fun p25 l25 c25 => DoV Try.prog (Builtin.append_ #[24, 24] 24 #[.slice s1.1.1 s1.1.2.1 s1.1.2.2, .slice p25 l25 c25]) w fun v42 w => OpS v42 fun p26 l26
  c26 => K1 ((p26, l26, c26), (IntKind.wrap .i64 (s1.2.1 + 1), ())) w) (LdA 19 b3 0 (At w) fun cs15 => DoV Try.prog (Instr.buildSlice 24 1 #[(0, .agg cs15)]) w fun v43 w =>
  OpS v43 fun p27 l27 c27 => DoV Try.prog (Builtin.append_ #[24, 24] 24 #[.slice s1.1.1 s1.1.2.1 s1.1.2.2, .slice p27 l27 c27]) w fun v44 w => OpS v44 fun p28 l28 c28 => K1
  ((p28, l28, c28), (IntKind.wrap .i64 (s1.2.1 + 1), ())) w))) (LdA 19 b3 0 (At w) fun cs16 => DoV Try.prog (Instr.buildSlice 24 1 #[(0, .agg cs16)]) w fun v45 w => OpS v45
  fun p29 l29 c29 => DoV Try.prog (Builtin.append_ #[24, 24] 24 #[.slice s1.1.1 s1.1.2.1 s1.1.2.2, .slice p29 l29 c29]) w fun v46 w => OpS v46 fun p30 l30 c30 => K1 ((p30,
  l30, c30), (IntKind.wrap .i64 (s1.2.1 + 1), ())) w)) (LdA 19 b3 0 (At w) fun cs17 => DoV Try.prog (Instr.buildSlice 24 1 #[(0, .agg cs17)]) w fun v47 w => OpS v47 fun p31
  l31 c31 => DoV Try.prog (Builtin.append_ #[24, 24] 24 #[.slice s1.1.1 s1.1.2.1 s1.1.2.2, .slice p31 l31 c31]) w fun v48 w => OpS v48 fun p32 l32 c32 => K1 ((p32, l32,
  c32), (IntKind.wrap .i64 (s1.2.1 + 1), ())) w))) (LdA 16 b 0 (At w) fun cs18 => CallV Try.prog 12 #[.agg cs18, .slice s1.1.1 s1.1.2.1 s1.1.2.2] w fun v49 w => T2 v49 fun
  v50 v51 => OpB v50 fun g6 => OpI .i64 v51 fun n9 => Cb (n9 != 0) (Ret [] (R (.bool false) w)) (Cb g1 (Cb (!g6) (Ret [] (R (.bool false) w)) (Cb (decide (((s1.1.2.1 : Nat)
  : Int) ≥ 10)) (Ret [] (R (.bool true) w)) (HeldR w fun S w => LdA 16 b 0 S fun cs19 => LdA 16 b1 0 S fun cs20 => DoQ Try.prog (Instr.build 31 #[(0, .bool true), (1, .agg
  cs20), (2, .int .i64 (IntKind.wrap .i64 from_)), (3, .int .i64 (-1))]) S fun v52 => OpA 19 v52 fun cs21 => DoV Try.prog (Instr.buildSlice 24 1 #[(0, .agg cs21)]) w fun v53
  w => OpS v53 fun p33 l33 c33 => Hld (S w) (DoV Try.prog (Builtin.append_ #[24, 24] 24 #[.slice s1.1.1 s1.1.2.1 s1.1.2.2, .slice p33 l33 c33]) w fun v54 w => OpS v54 fun
  p34 l34 c34 => Hld (S w) (CallV Try.prog 12 #[.agg cs19, .slice p34 l34 c34] w fun v55 w => T2 v55 fun v56 v57 => OpB v56 fun g7 => OpI .i64 v57 fun n10 => Hld (S w) (Cb
  (n10 == 0) (Cb g7 (Ret [] (R (.bool true) w)) (Ret [] (R (.bool (!g6)) w))) (Ret [] (R (.bool false) w)))))))) (Cb (decide (((s1.1.2.1 : Nat) : Int) ≥ 10)) (Ret [] (R
  (.bool true) w)) (HeldR w fun S w => LdA 16 b 0 S fun cs22 => LdA 16 b1 0 S fun cs23 => DoQ Try.prog (Instr.build 31 #[(0, .bool true), (1, .agg cs23), (2, .int .i64
  (IntKind.wrap .i64 from_)), (3, .int .i64 (-1))]) S fun v58 => OpA 19 v58 fun cs24 => DoV Try.prog (Instr.buildSlice 24 1 #[(0, .agg cs24)]) w fun v59 w => OpS v59 fun p35
  l35 c35 => Hld (S w) (DoV Try.prog (Builtin.append_ #[24, 24] 24 #[.slice s1.1.1 s1.1.2.1 s1.1.2.2, .slice p35 l35 c35]) w fun v60 w => OpS v60 fun p36 l36 c36 => Hld (S
  w) (CallV Try.prog 12 #[.agg cs22, .slice p36 l36 c36] w fun v61 w => T2 v61 fun v62 v63 => OpB v62 fun g8 => OpI .i64 v63 fun n11 => Hld (S w) (Cb (n11 == 0) (Cb g8 (Ret
  [] (R (.bool true) w)) (Ret [] (R (.bool (!g6)) w))) (Ret [] (R (.bool false) w)))))))))) ((p, l, c), (0, ())) w))
theorem C_ravelinlaw21_HistoryWider {start : Array Value} {eventsp : Option Addr} {eventsl : Nat} {eventsc : Nat} {laterp : Option Addr} {laterl : Nat} {laterc : Nat} {more : Array Value} {from_ : Int} {w : World} {R : Value → World → Prop} (h : F_ravelinlaw21_HistoryWider start eventsp eventsl eventsc laterp laterl laterc more from_ w R) : CallV Try.prog 4 #[.agg start, .slice eventsp eventsl eventsc, .slice laterp laterl laterc, .agg more, .int .u8 from_] w R := by
  exact calls_of_F (args := [.agg start, .slice eventsp eventsl eventsc, .slice laterp laterl laterc, .agg more, .int .u8 from_]) (mkAnn [(8, [(13, .slice), (14, (.int .i64))])] [] [] [] [113]) Try_mixed Try.func4 rfl rfl (by kernel_rfl) h
end Go.Proofs
