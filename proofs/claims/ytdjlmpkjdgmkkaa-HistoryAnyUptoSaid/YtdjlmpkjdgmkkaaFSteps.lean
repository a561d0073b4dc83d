/- PRINTED BY pr.py (own program): what the evaluator of <Name>Ev makes of the code of some functions. -/
import Derived.Test.YtdjlmpkjdgmkkaaChecked
import Derived.Test.YtdjlmpkjdgmkkaaEv
import Derived.Test.YtdjlmpkjdgmkkaaMix
namespace Go.Proofs
open Go.Ev
set_option linter.unusedVariables false
set_option maxRecDepth 100000
def F_ravelinlaw21_HistorySteps (start : Array Value) (writesp : Option Addr) (writesl : Nat) (writesc : Nat) (valuesp : Option Addr) (valuesl : Nat) (valuesc : Nat) (lie : Int) (lies : Bool) (w : World) (R : Value → World → Prop) : Prop :=
  Alc 23 start w fun b w => CallV Try.prog 14 #[] w fun v w => OpB v fun g => Cb (!g) (Ret [] (R (.bool false) w)) (LdA 16 b 0 (At w) fun cs => Alc 23 (zc Try.prog 23) w fun
  b1 w => StA 16 b1 0 cs w fun w => DoV Try.prog (Instr.buildSlice 24 0 #[]) w fun v1 w => OpS v1 fun p l c => LoopC (σ := (Option Addr × Nat × Nat) × Bool × Int × Unit)
  (fun _ s1 w K1 => Req ((decide (s1.2.2.1 < ((writesl : Nat) : Int))) = (decide (s1.2.2.1 < ((writesl : Nat) : Int)))) (Req ((decide (s1.2.2.1 < ((writesl : Nat) : Int))) =
  (decide (s1.2.2.1 < ((writesl : Nat) : Int)))) (Cb (cond (decide (s1.2.2.1 < ((writesl : Nat) : Int))) (decide (s1.2.2.1 < 10)) false) (DoQ Try.prog (Instr.build 23 #[])
  (At w) fun v2 => OpA 16 v2 fun cs1 => Alc 23 (zc Try.prog 23) w fun b2 w => StA 16 b2 0 cs1 w fun w => Cb (decide (s1.2.2.1 < ((valuesl : Nat) : Int))) (IdxS valuesp
  valuesl s1.2.2.1 1 fun b3 o => LdV b3 o (At w) fun v3 => OpI .u8 v3 fun n => Req ((3 : Int) ≠ 0) (DoQ Try.prog (Instr.build 23 #[(0, .int .u8 (Int.tmod n 3)), (1, .int .u8
  5)]) (At w) fun v4 => OpA 16 v4 fun cs2 => StA 16 b2 0 cs2 w fun w => HeldR w fun S w => IdxS writesp writesl s1.2.2.1 1 fun b4 o1 => LdV b4 o1 S fun v5 => OpB v5 fun g1
  => LdA 16 b2 0 S fun cs3 => DoQ Try.prog (Instr.build 31 #[(0, .bool g1), (1, .agg cs3), (2, .int .i64 (IntKind.wrap .i64 (2 * s1.2.2.1))), (3, .int .i64 (IntKind.wrap
  .i64 ((IntKind.wrap .i64 (2 * s1.2.2.1)) + 1)))]) S fun v6 => OpA 19 v6 fun cs4 => Alc 31 (zc Try.prog 31) w fun b5 w => Hld (S w) (StA 19 b5 0 cs4 w fun w => Hld (S w)
  (IdxS writesp writesl s1.2.2.1 1 fun b6 o2 => LdV b6 o2 (At w) fun v7 => OpB v7 fun g2 => Cb g2 (LdA 16 b2 0 (At w) fun cs5 => StA 16 b1 0 cs5 w fun w => LdA 19 b5 0 (At
  w) fun cs6 => DoV Try.prog (Instr.buildSlice 24 1 #[(0, .agg cs6)]) w fun v8 w => OpS v8 fun p1 l1 c1 => DoV Try.prog (Builtin.append_ #[24, 24] 24 #[.slice s1.1.1
  s1.1.2.1 s1.1.2.2, .slice p1 l1 c1]) w fun v9 w => OpS v9 fun p2 l2 c2 => K1 ((p2, l2, c2), (s1.2.1, (IntKind.wrap .i64 (s1.2.2.1 + 1), ()))) w) (LdA 16 b1 0 (At w) fun
  cs7 => StA 16 b5 1 cs7 w fun w => Cb lies (Req ((10 : Int) ≠ 0) (Cb (Int.tmod (IntKind.wrap .i64 lie) 10 == s1.2.2.1) (Req (0 ≤ (15 : Int) ∧ (15 : Int) < 16) (LdV b5 (1 +
  Int.toNat 15 * 1) (At w) fun v10 => OpI .u8 v10 fun n1 => Req (0 ≤ (15 : Int) ∧ (15 : Int) < 16) (StV b5 (1 + Int.toNat 15 * 1) (.int .u8 (ibits .xor .u8 n1 1)) w fun w =>
  LdA 19 b5 0 (At w) fun cs8 => DoV Try.prog (Instr.buildSlice 24 1 #[(0, .agg cs8)]) w fun v11 w => OpS v11 fun p3 l3 c3 => DoV Try.prog (Builtin.append_ #[24, 24] 24
  #[.slice s1.1.1 s1.1.2.1 s1.1.2.2, .slice p3 l3 c3]) w fun v12 w => OpS v12 fun p4 l4 c4 => K1 ((p4, l4, c4), (true, (IntKind.wrap .i64 (s1.2.2.1 + 1), ()))) w))) (LdA 19
  b5 0 (At w) fun cs9 => DoV Try.prog (Instr.buildSlice 24 1 #[(0, .agg cs9)]) w fun v13 w => OpS v13 fun p5 l5 c5 => DoV Try.prog (Builtin.append_ #[24, 24] 24 #[.slice
  s1.1.1 s1.1.2.1 s1.1.2.2, .slice p5 l5 c5]) w fun v14 w => OpS v14 fun p6 l6 c6 => K1 ((p6, l6, c6), (s1.2.1, (IntKind.wrap .i64 (s1.2.2.1 + 1), ()))) w))) (LdA 19 b5 0
  (At w) fun cs10 => DoV Try.prog (Instr.buildSlice 24 1 #[(0, .agg cs10)]) w fun v15 w => OpS v15 fun p7 l7 c7 => DoV Try.prog (Builtin.append_ #[24, 24] 24 #[.slice s1.1.1
  s1.1.2.1 s1.1.2.2, .slice p7 l7 c7]) w fun v16 w => OpS v16 fun p8 l8 c8 => K1 ((p8, l8, c8), (s1.2.1, (IntKind.wrap .i64 (s1.2.2.1 + 1), ()))) w)))))) (HeldR w fun S w =>
  IdxS writesp writesl s1.2.2.1 1 fun b7 o3 => LdV b7 o3 S fun v17 => OpB v17 fun g3 => LdA 16 b2 0 S fun cs11 => DoQ Try.prog (Instr.build 31 #[(0, .bool g3), (1, .agg
  cs11), (2, .int .i64 (IntKind.wrap .i64 (2 * s1.2.2.1))), (3, .int .i64 (IntKind.wrap .i64 ((IntKind.wrap .i64 (2 * s1.2.2.1)) + 1)))]) S fun v18 => OpA 19 v18 fun cs12 =>
  Alc 31 (zc Try.prog 31) w fun b8 w => Hld (S w) (StA 19 b8 0 cs12 w fun w => Hld (S w) (IdxS writesp writesl s1.2.2.1 1 fun b9 o4 => LdV b9 o4 (At w) fun v19 => OpB v19
  fun g4 => Cb g4 (LdA 16 b2 0 (At w) fun cs13 => StA 16 b1 0 cs13 w fun w => LdA 19 b8 0 (At w) fun cs14 => DoV Try.prog (Instr.buildSlice 24 1 #[(0, .agg cs14)]) w fun v20
  w => OpS v20 fun p9 l9 c9 => DoV Try.prog (Builtin.append_ #[24, 24] 24 #[.slice s1.1.1 s1.1.2.1 s1.1.2.2, .slice p9 l9 c9]) w fun v21 w => OpS v21 fun p10 l10 c10 => K1
  ((p10, l10, c10), (s1.2.1, (IntKind.wrap .i64 (s1.2.2.1 + 1), ()))) w) (LdA 16 b1 0 (At w) fun cs15 => StA 16 b8 1 cs15 w fun w => Cb lies (Req ((10 : Int) ≠ 0) (Cb
  (Int.tmod (IntKind.wrap .i64 lie) 10 == s1.2.2.1) (Req (0 ≤ (15 : Int) ∧ (15 : Int) < 16) (LdV b8 (1 + Int.toNat 15 * 1) (At w) fun v22 => OpI .u8 v22 fun n2 => Req (0 ≤
  (15 : Int) ∧ (15 : Int) < 16) (StV b8 (1 + Int.toNat 15 * 1) (.int .u8 (ibits .xor .u8 n2 1)) w fun w => LdA 19 b8 0 (At w) fun cs16 => DoV Try.prog (Instr.buildSlice 24 1
  #[(0, .agg cs16)]) w fun v23 w => OpS v23 fun p11 l11 c11 => DoV Try.prog (Builtin.append_ #[24, 24] 24 #[.slice s1.1.1 s1.1.2.1 s1.1.2.2, .slice p11 l11 c11]) w fun v24 w
  => OpS v24 fun p12 l12 c12 => K1 ((p12, l12, c12), (true, (IntKind.wrap .i64 (s1.2.2.1 + 1), ()))) w))) (LdA 19 b8 0 (At w) fun cs17 => DoV Try.prog (Instr.buildSlice 24 1
  #[(0, .agg cs17)]) w fun v25 w => OpS v25 fun p13 l13 c13 => DoV Try.prog (Builtin.append_ #[24, 24] 24 #[.slice s1.1.1 s1.1.2.1 s1.1.2.2, .slice p13 l13 c13]) w fun v26 w
  => OpS v26 fun p14 l14 c14 => K1 ((p14, l14, c14), (s1.2.1, (IntKind.wrap .i64 (s1.2.2.1 + 1), ()))) w))) (LdA 19 b8 0 (At w) fun cs18 => DoV Try.prog (Instr.buildSlice 24
  1 #[(0, .agg cs18)]) w fun v27 w => OpS v27 fun p15 l15 c15 => DoV Try.prog (Builtin.append_ #[24, 24] 24 #[.slice s1.1.1 s1.1.2.1 s1.1.2.2, .slice p15 l15 c15]) w fun v28
  w => OpS v28 fun p16 l16 c16 => K1 ((p16, l16, c16), (s1.2.1, (IntKind.wrap .i64 (s1.2.2.1 + 1), ()))) w)))))) (LdA 16 b 0 (At w) fun cs19 => CallV Try.prog 12 #[.agg
  cs19, .slice s1.1.1 s1.1.2.1 s1.1.2.2] w fun v29 w => T2 v29 fun v30 v31 => OpB v30 fun g5 => OpI .i64 v31 fun n3 => LdA 16 b 0 (At w) fun cs20 => CallV Try.prog 43 #[.agg
  cs20, .slice s1.1.1 s1.1.2.1 s1.1.2.2] w fun v32 w => T2 v32 fun v33 v34 => OpS v33 fun p17 l17 c17 => OpI .i64 v34 fun n4 => Req ((n3 != 0) = (n3 != 0)) (Req ((n3 != 0) =
  (n3 != 0)) (Req ((cond (n3 != 0) true (n4 != 0)) = (cond (n3 != 0) true (n4 != 0))) (Req ((cond (n3 != 0) true (n4 != 0)) = (cond (n3 != 0) true (n4 != 0))) (Req ((cond
  (n3 != 0) true (n4 != 0)) = (cond (n3 != 0) true (n4 != 0))) (Cb (cond (cond (n3 != 0) true (n4 != 0)) true (g5 == s1.2.1)) (Ret [] (R (.bool false) w)) (Cb s1.2.1 (Cb
  (((l17 : Nat) : Int) == 0) (Drw w fun w => Ret [] (R (.bool true) w)) (Cb (!s1.2.1) (Cb (((l17 : Nat) : Int) == 1) (IdxS p17 l17 0 16 fun b10 o5 => LdA 16 b10 o5 (At w)
  fun cs21 => LdA 16 b1 0 (At w) fun cs22 => EqB Try.prog .eql 23 (.tmp 122) (.tmp 123) (.agg cs21 : Value) (.agg cs22 : Value) (At w) fun g6 => Drw w fun w => Ret [] (R
  (.bool g6) w)) (Drw w fun w => Ret [] (R (.bool false) w))) (Drw w fun w => Ret [] (R (.bool false) w)))) (Cb (!s1.2.1) (Cb (((l17 : Nat) : Int) == 1) (IdxS p17 l17 0 16
  fun b11 o6 => LdA 16 b11 o6 (At w) fun cs23 => LdA 16 b1 0 (At w) fun cs24 => EqB Try.prog .eql 23 (.tmp 122) (.tmp 123) (.agg cs23 : Value) (.agg cs24 : Value) (At w) fun
  g7 => Drw w fun w => Ret [] (R (.bool g7) w)) (Drw w fun w => Ret [] (R (.bool false) w))) (Drw w fun w => Ret [] (R (.bool false) w))))))))))))) ((p, l, c), (false, (0,
  ()))) w)
theorem C_ravelinlaw21_HistorySteps {start : Array Value} {writesp : Option Addr} {writesl : Nat} {writesc : Nat} {valuesp : Option Addr} {valuesl : Nat} {valuesc : Nat} {lie : Int} {lies : Bool} {w : World} {R : Value → World → Prop} (h : F_ravelinlaw21_HistorySteps start writesp writesl writesc valuesp valuesl valuesc lie lies w R) : CallV Try.prog 9 #[.agg start, .slice writesp writesl writesc, .slice valuesp valuesl valuesc, .int .u8 lie, .bool lies] w R := by
  exact calls_of_F (args := [.agg start, .slice writesp writesl writesc, .slice valuesp valuesl valuesc, .int .u8 lie, .bool lies]) (mkAnn [(7, [(12, .slice), (13, .bool), (14, (.int .i64))])] [] [] [] []) Try_mixed Try.func9 rfl rfl (by kernel_rfl) h
end Go.Proofs
