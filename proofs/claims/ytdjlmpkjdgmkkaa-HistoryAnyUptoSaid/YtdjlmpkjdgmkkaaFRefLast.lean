/- PRINTED BY pr.py (own program): what the evaluator of <Name>Ev makes of the code of some functions. -/
import Derived.Test.YtdjlmpkjdgmkkaaChecked
import Derived.Test.YtdjlmpkjdgmkkaaEv
import Derived.Test.YtdjlmpkjdgmkkaaMix
namespace Go.Proofs
open Go.Ev
set_option linter.unusedVariables false
set_option maxRecDepth 100000
def F_ravelinref21_less (a : Array Value) (b : Array Value) (w : World) (R : Value → World → Prop) : Prop :=
  Alc 23 a w fun b1 w => Alc 23 b w fun b2 w => LoopC (σ := Int × Unit) (fun _ s1 w K1 => Cb (decide (s1.1 < 16)) (Req (0 ≤ s1.1 ∧ s1.1 < 16) (LdV b1 (0 + Int.toNat s1.1 *
  1) (At w) fun v => OpI .u8 v fun n => Req (0 ≤ s1.1 ∧ s1.1 < 16) (LdV b2 (0 + Int.toNat s1.1 * 1) (At w) fun v1 => OpI .u8 v1 fun n1 => Drw w fun w => Cb (n != n1) (Req (0
  ≤ s1.1 ∧ s1.1 < 16) (LdV b1 (0 + Int.toNat s1.1 * 1) (At w) fun v2 => OpI .u8 v2 fun n2 => Req (0 ≤ s1.1 ∧ s1.1 < 16) (LdV b2 (0 + Int.toNat s1.1 * 1) (At w) fun v3 => OpI
  .u8 v3 fun n3 => Drw w fun w => Ret [] (R (.bool (decide (n2 < n3))) w)))) (K1 (IntKind.wrap .i64 (s1.1 + 1), ()) w)))) (Ret [] (R (.bool false) w))) (0, ()) w
theorem C_ravelinref21_less {a : Array Value} {b : Array Value} {w : World} {R : Value → World → Prop} (h : F_ravelinref21_less a b w R) : CallV Try.prog 61 #[.agg a, .agg b] w R := by
  exact calls_of_F (args := [.agg a, .agg b]) (mkAnn [(2, [(5, (.int .i64))])] [] [] [] []) Try_mixed Try.func61 rfl rfl (by kernel_rfl) h
def F_ravelinref21_Last (start : Array Value) (eventsp : Option Addr) (eventsl : Nat) (eventsc : Nat) (w : World) (R : Value → World → Prop) : Prop :=
  Alc 23 start w fun b w => CallV Try.prog 16 #[.slice eventsp eventsl eventsc] w fun v w => OpI .i64 v fun n => Cb (n != 0) (Ret [] (R (.tuple #[.slice none 0 0, .int .i64
  1]) w)) (LdA 16 b 0 (At w) fun cs => CallV Try.prog 47 #[.agg cs, .slice eventsp eventsl eventsc] w fun v1 w => OpS v1 fun p l c => DoV Try.prog (Instr.buildSlice 63 0
  #[]) w fun v2 w => OpS v2 fun p1 l1 c1 => LoopC (σ := (Option Addr × Nat × Nat) × Int × Unit) (fun _ s1 w K1 => Cb (decide (s1.2.1 < ((l : Nat) : Int))) (LdA 16 b 0 (At w)
  fun cs1 => Alc 23 (zc Try.prog 23) w fun b1 w => StA 16 b1 0 cs1 w fun w => Cb (decide (s1.2.1 < ((eventsl : Nat) : Int))) (IdxS eventsp eventsl s1.2.1 19 fun b2 o => LdA
  16 b2 (o + 1) (At w) fun cs2 => StA 16 b1 0 cs2 w fun w => IdxS p l s1.2.1 1 fun b3 o1 => LdV b3 o1 (At w) fun v3 => OpB v3 fun g => LoopC (σ := Bool × Int × Unit) (fun _
  s2 w K2 => Cb (decide (s2.2.1 < ((s1.1.2.1 : Nat) : Int))) (Cb s2.1 (Drw w fun w => K2 (true, (IntKind.wrap .i64 (s2.2.1 + 1), ())) w) (IdxS s1.1.1 s1.1.2.1 s2.2.1 16 fun
  b4 o2 => LdA 16 b4 o2 (At w) fun cs3 => LdA 16 b1 0 (At w) fun cs4 => EqB Try.prog .eql 23 (.tmp 52) (.tmp 53) (.agg cs3 : Value) (.agg cs4 : Value) (At w) fun g1 => Drw w
  fun w => K2 (g1, (IntKind.wrap .i64 (s2.2.1 + 1), ())) w)) (Cb s2.1 (K1 ((s1.1.1, s1.1.2.1, s1.1.2.2), (IntKind.wrap .i64 (s1.2.1 + 1), ())) w) (LdA 16 b1 0 (At w) fun cs5
  => DoV Try.prog (Instr.buildSlice 63 1 #[(0, .agg cs5)]) w fun v4 w => OpS v4 fun p2 l2 c2 => DoV Try.prog (Builtin.append_ #[63, 63] 63 #[.slice s1.1.1 s1.1.2.1 s1.1.2.2,
  .slice p2 l2 c2]) w fun v5 w => OpS v5 fun p3 l3 c3 => LoopC (σ := Int × Unit) (fun _ s3 w K3 => HeldR w fun S w => Cb (decide (s3.1 > 0)) (IdxS p3 l3 s3.1 16 fun b5 o3 =>
  LdA 16 b5 o3 (At w) fun cs6 => IdxS p3 l3 (IntKind.wrap .i64 (s3.1 - 1)) 16 fun b6 o4 => LdA 16 b6 o4 (At w) fun cs7 => CallV Try.prog 61 #[.agg cs6, .agg cs7] w fun v6 w
  => OpB v6 fun g2 => Hld (S w) (Cb g2 (HeldR w fun S w => IdxS p3 l3 (IntKind.wrap .i64 (s3.1 - 1)) 16 fun b7 o5 => LdA 16 b7 o5 (At w) fun cs8 => IdxS p3 l3 s3.1 16 fun b8
  o6 => LdA 16 b8 o6 (At w) fun cs9 => IdxS p3 l3 s3.1 16 fun b9 o7 => StA 16 b9 o7 cs8 w fun w => Hld (S w) (IdxS p3 l3 (IntKind.wrap .i64 (s3.1 - 1)) 16 fun b10 o8 => StA
  16 b10 o8 cs9 w fun w => Hld (S w) (K3 (IntKind.wrap .i64 (s3.1 - 1), ()) w))) (K1 ((p3, l3, c3), (IntKind.wrap .i64 (s1.2.1 + 1), ())) w))) (Hld (S w) (K1 ((p3, l3, c3),
  (IntKind.wrap .i64 (s1.2.1 + 1), ())) w))) (IntKind.wrap .i64 (((l3 : Nat) : Int) - 1), ()) w))) (!g, (0, ())) w) (IdxS p l s1.2.1 1 fun b11 o9 => LdV b11 o9 (At w) fun v7
  => OpB v7 fun g3 => LoopC (σ := Bool × Int × Unit) (fun _ s4 w K4 => Cb (decide (s4.2.1 < ((s1.1.2.1 : Nat) : Int))) (Cb s4.1 (Drw w fun w => K4 (true, (IntKind.wrap .i64
  (s4.2.1 + 1), ())) w) (IdxS s1.1.1 s1.1.2.1 s4.2.1 16 fun b12 o10 => LdA 16 b12 o10 (At w) fun cs10 => LdA 16 b1 0 (At w) fun cs11 => EqB Try.prog .eql 23 (.tmp 52) (.tmp
  53) (.agg cs10 : Value) (.agg cs11 : Value) (At w) fun g4 => Drw w fun w => K4 (g4, (IntKind.wrap .i64 (s4.2.1 + 1), ())) w)) (Cb s4.1 (K1 ((s1.1.1, s1.1.2.1, s1.1.2.2),
  (IntKind.wrap .i64 (s1.2.1 + 1), ())) w) (LdA 16 b1 0 (At w) fun cs12 => DoV Try.prog (Instr.buildSlice 63 1 #[(0, .agg cs12)]) w fun v8 w => OpS v8 fun p4 l4 c4 => DoV
  Try.prog (Builtin.append_ #[63, 63] 63 #[.slice s1.1.1 s1.1.2.1 s1.1.2.2, .slice p4 l4 c4]) w fun v9 w => OpS v9 fun p5 l5 c5 => LoopC (σ := Int × Unit) (fun _ s5 w K5 =>
  HeldR w fun S w => Cb (decide (s5.1 > 0)) (IdxS p5 l5 s5.1 16 fun b13 o11 => LdA 16 b13 o11 (At w) fun cs13 => IdxS p5 l5 (IntKind.wrap .i64 (s5.1 - 1)) 16 fun b14 o12 =>
  LdA 16 b14 o12 (At w) fun cs14 => CallV Try.prog 61 #[.agg cs13, .agg cs14] w fun v10 w => OpB v10 fun g5 => Hld (S w) (Cb g5 (HeldR w fun S w => IdxS p5 l5 (IntKind.wrap
  .i64 (s5.1 - 1)) 16 fun b15 o13 => LdA 16 b15 o13 (At w) fun cs15 => IdxS p5 l5 s5.1 16 fun b16 o14 => LdA 16 b16 o14 (At w) fun cs16 => IdxS p5 l5 s5.1 16 fun b17 o15 =>
  StA 16 b17 o15 cs15 w fun w => Hld (S w) (IdxS p5 l5 (IntKind.wrap .i64 (s5.1 - 1)) 16 fun b18 o16 => StA 16 b18 o16 cs16 w fun w => Hld (S w) (K5 (IntKind.wrap .i64 (s5.1
  - 1), ()) w))) (K1 ((p5, l5, c5), (IntKind.wrap .i64 (s1.2.1 + 1), ())) w))) (Hld (S w) (K1 ((p5, l5, c5), (IntKind.wrap .i64 (s1.2.1 + 1), ())) w))) (IntKind.wrap .i64
  (((l5 : Nat) : Int) - 1), ()) w))) (!g3, (0, ())) w)) (Ret [] (R (.tuple #[.slice s1.1.1 s1.1.2.1 s1.1.2.2, .int .i64 0]) w))) ((p1, l1, c1), (0, ())) w)
theorem C_ravelinref21_Last {start : Array Value} {eventsp : Option Addr} {eventsl : Nat} {eventsc : Nat} {w : World} {R : Value → World → Prop} (h : F_ravelinref21_Last start eventsp eventsl eventsc w R) : CallV Try.prog 44 #[.agg start, .slice eventsp eventsl eventsc] w R := by
  exact calls_of_F (args := [.agg start, .slice eventsp eventsl eventsc]) (mkAnn [(6, [(7, .slice), (8, (.int .i64))]), (13, [(10, .bool), (11, (.int .i64))]), (19, [(12, (.int .i64))])] [] [] [] [76]) Try_mixed Try.func44 rfl rfl (by kernel_rfl) h
end Go.Proofs
