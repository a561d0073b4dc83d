/- PRINTED BY pr.py (own program): what the evaluator of <Name>Ev makes of the code of some functions. -/
import Derived.Test.YtdjlmpkjdgmkkaaChecked
import Derived.Test.YtdjlmpkjdgmkkaaEv
import Derived.Test.YtdjlmpkjdgmkkaaMix
namespace Go.Proofs
open Go.Ev
set_option linter.unusedVariables false
set_option maxRecDepth 100000
def F_ravelinlaw21_HistoryOpens (start : Array Value) (v : Array Value) (w : World) (R : Value → World → Prop) : Prop :=
  Alc 23 start w fun b w => Alc 23 v w fun b1 w => CallV Try.prog 14 #[] w fun v1 w => OpB v1 fun g => Cb (!g) (Ret [] (R (.bool false) w)) (LdA 16 b1 0 (At w) fun cs => DoQ
  Try.prog (Instr.build 31 #[(0, .bool true), (1, .agg cs), (2, .int .i64 0), (3, .int .i64 (-1))]) (At w) fun v2 => OpA 19 v2 fun cs1 => Alc 31 (zc Try.prog 31) w fun b2 w
  => StA 19 b2 0 cs1 w fun w => LdA 16 b1 0 (At w) fun cs2 => DoQ Try.prog (Instr.build 31 #[(1, .agg cs2), (2, .int .i64 1), (3, .int .i64 2)]) (At w) fun v3 => OpA 19 v3
  fun cs3 => Alc 31 (zc Try.prog 31) w fun b3 w => StA 19 b3 0 cs3 w fun w => LdA 16 b 0 (At w) fun cs4 => DoQ Try.prog (Instr.build 31 #[(1, .agg cs4), (2, .int .i64 3),
  (3, .int .i64 4)]) (At w) fun v4 => OpA 19 v4 fun cs5 => Alc 31 (zc Try.prog 31) w fun b4 w => StA 19 b4 0 cs5 w fun w => LdA 16 b 0 (At w) fun cs6 => LdA 19 b2 0 (At w)
  fun cs7 => DoV Try.prog (Instr.buildSlice 24 1 #[(0, .agg cs7)]) w fun v5 w => OpS v5 fun p l c => CallV Try.prog 43 #[.agg cs6, .slice p l c] w fun v6 w => T2 v6 fun v7
  v8 => OpS v7 fun p1 l1 c1 => OpI .i64 v8 fun n => LdA 16 b 0 (At w) fun cs8 => LdA 19 b2 0 (At w) fun cs9 => LdA 19 b3 0 (At w) fun cs10 => DoV Try.prog (Instr.buildSlice
  24 2 #[(0, .agg cs9), (1, .agg cs10)]) w fun v9 w => OpS v9 fun p2 l2 c2 => CallV Try.prog 12 #[.agg cs8, .slice p2 l2 c2] w fun v10 w => T2 v10 fun v11 v12 => OpB v11 fun
  g1 => OpI .i64 v12 fun n1 => LdA 16 b 0 (At w) fun cs11 => LdA 19 b2 0 (At w) fun cs12 => LdA 19 b3 0 (At w) fun cs13 => LdA 19 b4 0 (At w) fun cs14 => DoV Try.prog
  (Instr.buildSlice 24 3 #[(0, .agg cs12), (1, .agg cs13), (2, .agg cs14)]) w fun v13 w => OpS v13 fun p3 l3 c3 => CallV Try.prog 12 #[.agg cs11, .slice p3 l3 c3] w fun v14
  w => T2 v14 fun v15 v16 => OpB v15 fun g2 => OpI .i64 v16 fun n2 => LdA 16 b 0 (At w) fun cs15 => DoQ Try.prog (Instr.build 31 #[(1, .agg cs15), (2, .int .i64 1), (3, .int
  .i64 2)]) (At w) fun v17 => OpA 19 v17 fun cs16 => Alc 31 (zc Try.prog 31) w fun b5 w => StA 19 b5 0 cs16 w fun w => LdA 16 b1 0 (At w) fun cs17 => DoQ Try.prog
  (Instr.build 31 #[(1, .agg cs17), (2, .int .i64 3), (3, .int .i64 4)]) (At w) fun v18 => OpA 19 v18 fun cs18 => Alc 31 (zc Try.prog 31) w fun b6 w => StA 19 b6 0 cs18 w
  fun w => LdA 16 b 0 (At w) fun cs19 => LdA 19 b2 0 (At w) fun cs20 => LdA 19 b5 0 (At w) fun cs21 => LdA 19 b6 0 (At w) fun cs22 => DoV Try.prog (Instr.buildSlice 24 3
  #[(0, .agg cs20), (1, .agg cs21), (2, .agg cs22)]) w fun v19 w => OpS v19 fun p4 l4 c4 => CallV Try.prog 12 #[.agg cs19, .slice p4 l4 c4] w fun v20 w => T2 v20 fun v21 v22
  => OpB v21 fun g3 => OpI .i64 v22 fun n3 => Req ((n != 0) = (n != 0)) (Req ((n != 0) = (n != 0)) (Req ((cond (n != 0) true (n1 != 0)) = (cond (n != 0) true (n1 != 0)))
  (Req ((cond (n != 0) true (n1 != 0)) = (cond (n != 0) true (n1 != 0))) (Req ((cond (cond (n != 0) true (n1 != 0)) true (n2 != 0)) = (cond (cond (n != 0) true (n1 != 0))
  true (n2 != 0))) (Req ((cond (cond (n != 0) true (n1 != 0)) true (n2 != 0)) = (cond (cond (n != 0) true (n1 != 0)) true (n2 != 0))) (Req ((cond (cond (cond (n != 0) true
  (n1 != 0)) true (n2 != 0)) true (n3 != 0)) = (cond (cond (cond (n != 0) true (n1 != 0)) true (n2 != 0)) true (n3 != 0))) (Req ((cond (cond (cond (n != 0) true (n1 != 0))
  true (n2 != 0)) true (n3 != 0)) = (cond (cond (cond (n != 0) true (n1 != 0)) true (n2 != 0)) true (n3 != 0))) (Req ((cond (cond (cond (cond (n != 0) true (n1 != 0)) true
  (n2 != 0)) true (n3 != 0)) true (!g1)) = (cond (cond (cond (cond (n != 0) true (n1 != 0)) true (n2 != 0)) true (n3 != 0)) true (!g1))) (Req ((cond (cond (cond (cond (n !=
  0) true (n1 != 0)) true (n2 != 0)) true (n3 != 0)) true (!g1)) = (cond (cond (cond (cond (n != 0) true (n1 != 0)) true (n2 != 0)) true (n3 != 0)) true (!g1))) (Cb (cond
  (cond (cond (cond (cond (n != 0) true (n1 != 0)) true (n2 != 0)) true (n3 != 0)) true (!g1)) true (!g3)) (Ret [] (R (.bool false) w)) (LdA 16 b1 0 (At w) fun cs23 => LdA
  16 b 0 (At w) fun cs24 => EqB Try.prog .eql 23 (.tmp 85) (.tmp 86) (.agg cs23 : Value) (.agg cs24 : Value) (At w) fun g4 => Cb g4 (Cb (((l1 : Nat) : Int) == 1) (IdxS p1 l1
  0 16 fun b7 o => LdA 16 b7 o (At w) fun cs25 => LdA 16 b1 0 (At w) fun cs26 => EqB Try.prog .eql 23 (.tmp 94) (.tmp 95) (.agg cs25 : Value) (.agg cs26 : Value) (At w) fun
  g5 => Req (g5 = g5) (Drw w fun w => Ret [] (R (.bool (cond g5 g2 false)) w))) (Req (false = false) (Drw w fun w => Ret [] (R (.bool false) w)))) (Cb (((l1 : Nat) : Int) ==
  2) (IdxS p1 l1 0 16 fun b8 o1 => LdA 16 b8 o1 (At w) fun cs27 => LdA 16 b1 0 (At w) fun cs28 => EqB Try.prog .eql 23 (.tmp 107) (.tmp 108) (.agg cs27 : Value) (.agg cs28 :
  Value) (At w) fun g6 => Cb g6 (IdxS p1 l1 0 16 fun b9 o2 => LdA 16 b9 o2 (At w) fun cs29 => LdA 16 b 0 (At w) fun cs30 => EqB Try.prog .eql 23 (.tmp 121) (.tmp 122) (.agg
  cs29 : Value) (.agg cs30 : Value) (At w) fun g7 => Cb g7 (Req (true = true) (Req (true = true) (Drw w fun w => Ret [] (R (.bool (!g2)) w)))) (IdxS p1 l1 1 16 fun b10 o3 =>
  LdA 16 b10 o3 (At w) fun cs31 => LdA 16 b 0 (At w) fun cs32 => EqB Try.prog .eql 23 (.tmp 127) (.tmp 128) (.agg cs31 : Value) (.agg cs32 : Value) (At w) fun g8 => Req (g8
  = g8) (Req (g8 = g8) (Drw w fun w => Ret [] (R (.bool (cond g8 (!g2) false)) w))))) (IdxS p1 l1 1 16 fun b11 o4 => LdA 16 b11 o4 (At w) fun cs33 => LdA 16 b1 0 (At w) fun
  cs34 => EqB Try.prog .eql 23 (.tmp 113) (.tmp 114) (.agg cs33 : Value) (.agg cs34 : Value) (At w) fun g9 => Cb g9 (IdxS p1 l1 0 16 fun b12 o5 => LdA 16 b12 o5 (At w) fun
  cs35 => LdA 16 b 0 (At w) fun cs36 => EqB Try.prog .eql 23 (.tmp 121) (.tmp 122) (.agg cs35 : Value) (.agg cs36 : Value) (At w) fun g10 => Cb g10 (Req (true = true) (Req
  (true = true) (Drw w fun w => Ret [] (R (.bool (!g2)) w)))) (IdxS p1 l1 1 16 fun b13 o6 => LdA 16 b13 o6 (At w) fun cs37 => LdA 16 b 0 (At w) fun cs38 => EqB Try.prog .eql
  23 (.tmp 127) (.tmp 128) (.agg cs37 : Value) (.agg cs38 : Value) (At w) fun g11 => Req (g11 = g11) (Req (g11 = g11) (Drw w fun w => Ret [] (R (.bool (cond g11 (!g2)
  false)) w))))) (Req (false = false) (Req (false = false) (Drw w fun w => Ret [] (R (.bool false) w)))))) (Req (false = false) (Req (false = false) (Drw w fun w => Ret []
  (R (.bool false) w)))))))))))))))))
theorem C_ravelinlaw21_HistoryOpens {start : Array Value} {v : Array Value} {w : World} {R : Value → World → Prop} (h : F_ravelinlaw21_HistoryOpens start v w R) : CallV Try.prog 10 #[.agg start, .agg v] w R := by
  exact calls_of_F (args := [.agg start, .agg v]) (mkAnn [] [] [] [] []) Try_mixed Try.func10 rfl rfl (by kernel_rfl) h
end Go.Proofs
