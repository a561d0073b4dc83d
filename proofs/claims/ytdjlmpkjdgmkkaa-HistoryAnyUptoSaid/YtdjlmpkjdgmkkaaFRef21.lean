/- PRINTED BY pr.py (own program): what the evaluator of <Name>Ev makes of the code of some functions. -/
import Derived.Test.YtdjlmpkjdgmkkaaChecked
import Derived.Test.YtdjlmpkjdgmkkaaEv
import Derived.Test.YtdjlmpkjdgmkkaaMix
namespace Go.Proofs
open Go.Ev
set_option linter.unusedVariables false
set_option maxRecDepth 100000
def F_ravelinref21_Check (eventsp : Option Addr) (eventsl : Nat) (eventsc : Nat) (w : World) (R : Value → World → Prop) : Prop :=
  Cb (decide (((eventsl : Nat) : Int) > 10)) (Ret [] (R (.int .i64 1) w)) (LoopC (σ := Int × Unit) (fun _ s1 w K1 => Cb (decide (s1.1 < ((eventsl : Nat) : Int))) (IdxS
  eventsp eventsl s1.1 19 fun b o => LdV b (o + 17) (At w) fun v => OpI .i64 v fun n => Cb (decide (n < 0)) (Drw w fun w => Ret [] (R (.int .i64 1) w)) (IdxS eventsp eventsl
  s1.1 19 fun b1 o1 => LdV b1 (o1 + 18) (At w) fun v1 => OpI .i64 v1 fun n1 => Cb (decide (n1 ≥ 0)) (IdxS eventsp eventsl s1.1 19 fun b2 o2 => LdV b2 (o2 + 18) (At w) fun v2
  => OpI .i64 v2 fun n2 => IdxS eventsp eventsl s1.1 19 fun b3 o3 => LdV b3 (o3 + 17) (At w) fun v3 => OpI .i64 v3 fun n3 => Drw w fun w => Cb (decide (n2 < n3)) (Ret [] (R
  (.int .i64 1) w)) (K1 (IntKind.wrap .i64 (s1.1 + 1), ()) w)) (Drw w fun w => K1 (IntKind.wrap .i64 (s1.1 + 1), ()) w))) (Ret [] (R (.int .i64 0) w))) (0, ()) w)
theorem C_ravelinref21_Check {eventsp : Option Addr} {eventsl : Nat} {eventsc : Nat} {w : World} {R : Value → World → Prop} (h : F_ravelinref21_Check eventsp eventsl eventsc w R) : CallV Try.prog 16 #[.slice eventsp eventsl eventsc] w R := by
  exact calls_of_F (args := [.slice eventsp eventsl eventsc]) (mkAnn [(4, [(3, (.int .i64))])] [] [] [] []) Try_mixed Try.func16 rfl rfl (by kernel_rfl) h
def F_ravelinref21_in (set : Int) (i : Int) (w : World) (R : Value → World → Prop) : Prop :=
  Req (0 ≤ i) (Ret [] (R (.bool (ibits .and .i64 (ishr .i64 set i) 1 == 1)) w))
theorem C_ravelinref21_in {set : Int} {i : Int} {w : World} {R : Value → World → Prop} (h : F_ravelinref21_in set i w R) : CallV Try.prog 64 #[.int .i64 set, .int .i64 i] w R := by
  exact calls_of_F (args := [.int .i64 set, .int .i64 i]) (mkAnn [] [] [] [] []) Try_mixed Try.func64 rfl rfl (by kernel_rfl) h
def F_ravelinref21_may (eventsp : Option Addr) (eventsl : Nat) (eventsc : Nat) (set : Int) (i : Int) (value : Array Value) (w : World) (R : Value → World → Prop) : Prop :=
  Alc 23 value w fun b w => IdxS eventsp eventsl i 19 fun b1 o => LdA 19 b1 o (At w) fun cs => Alc 31 (zc Try.prog 31) w fun b2 w => StA 19 b2 0 cs w fun w => CallV Try.prog
  64 #[.int .i64 set, .int .i64 i] w fun v w => OpB v fun g => Cb g (Ret [] (R (.bool false) w)) (LdV b2 0 (At w) fun v1 => OpB v1 fun g1 => Cb (!g1) (LdV b2 18 (At w) fun
  v2 => OpI .i64 v2 fun n => Cb (decide (n < 0)) (Ret [] (R (.bool false) w)) (LdA 16 b2 1 (At w) fun cs1 => LdA 16 b 0 (At w) fun cs2 => EqB Try.prog .neq 23 (.tmp 28)
  (.tmp 29) (.agg cs1 : Value) (.agg cs2 : Value) (At w) fun g2 => Cb g2 (Ret [] (R (.bool false) w)) (LoopC (σ := Int × Unit) (fun _ s1 w K1 => Cb (decide (s1.1 < ((eventsl
  : Nat) : Int))) (CallQ Try.prog 64 #[.int .i64 set, .int .i64 s1.1] (At w) fun v3 => OpB v3 fun g3 => Cb (!g3) (IdxS eventsp eventsl s1.1 19 fun b3 o1 => LdV b3 (o1 + 18)
  (At w) fun v4 => OpI .i64 v4 fun n1 => Cb (decide (n1 ≥ 0)) (IdxS eventsp eventsl s1.1 19 fun b4 o2 => LdV b4 (o2 + 18) (At w) fun v5 => OpI .i64 v5 fun n2 => LdV b2 17
  (At w) fun v6 => OpI .i64 v6 fun n3 => Drw w fun w => Cb (decide (n2 < n3)) (Ret [] (R (.bool false) w)) (K1 (IntKind.wrap .i64 (s1.1 + 1), ()) w)) (Drw w fun w => K1
  (IntKind.wrap .i64 (s1.1 + 1), ()) w)) (Drw w fun w => K1 (IntKind.wrap .i64 (s1.1 + 1), ()) w)) (Ret [] (R (.bool true) w))) (0, ()) w))) (LoopC (σ := Int × Unit) (fun _
  s2 w K2 => Cb (decide (s2.1 < ((eventsl : Nat) : Int))) (CallQ Try.prog 64 #[.int .i64 set, .int .i64 s2.1] (At w) fun v7 => OpB v7 fun g4 => Cb (!g4) (IdxS eventsp
  eventsl s2.1 19 fun b5 o3 => LdV b5 (o3 + 18) (At w) fun v8 => OpI .i64 v8 fun n4 => Cb (decide (n4 ≥ 0)) (IdxS eventsp eventsl s2.1 19 fun b6 o4 => LdV b6 (o4 + 18) (At
  w) fun v9 => OpI .i64 v9 fun n5 => LdV b2 17 (At w) fun v10 => OpI .i64 v10 fun n6 => Drw w fun w => Cb (decide (n5 < n6)) (Ret [] (R (.bool false) w)) (K2 (IntKind.wrap
  .i64 (s2.1 + 1), ()) w)) (Drw w fun w => K2 (IntKind.wrap .i64 (s2.1 + 1), ()) w)) (Drw w fun w => K2 (IntKind.wrap .i64 (s2.1 + 1), ()) w)) (Ret [] (R (.bool true) w)))
  (0, ()) w))
theorem C_ravelinref21_may {eventsp : Option Addr} {eventsl : Nat} {eventsc : Nat} {set : Int} {i : Int} {value : Array Value} {w : World} {R : Value → World → Prop} (h : F_ravelinref21_may eventsp eventsl eventsc set i value w R) : CallV Try.prog 65 #[.slice eventsp eventsl eventsc, .int .i64 set, .int .i64 i, .agg value] w R := by
  exact calls_of_F (args := [.slice eventsp eventsl eventsc, .int .i64 set, .int .i64 i, .agg value]) (mkAnn [(5, [(10, (.int .i64))])] [] [] [] []) Try_mixed Try.func65 rfl rfl (by kernel_rfl) h
def F_ravelinref21_Ends (start : Array Value) (eventsp : Option Addr) (eventsl : Nat) (eventsc : Nat) (w : World) (R : Value → World → Prop) : Prop :=
  Alc 23 start w fun b w => Req (0 ≤ ((eventsl : Nat) : Int)) (DoV Try.prog (Instr.makeSlice 67 (.int .i64 (IntKind.wrap .i64 ((ishl .i64 1 ((eventsl : Nat) : Int)) *
  (IntKind.wrap .i64 (((eventsl : Nat) : Int) + 1))))) (.int .i64 (IntKind.wrap .i64 ((ishl .i64 1 ((eventsl : Nat) : Int)) * (IntKind.wrap .i64 (((eventsl : Nat) : Int) +
  1)))))) w fun v w => OpS v fun p l c => IdxS p l ((eventsl : Nat) : Int) 1 fun b1 o => StV b1 o (.bool true) w fun w => DoV Try.prog (Instr.makeSlice 67 (.int .i64
  (IntKind.wrap .i64 (((eventsl : Nat) : Int) + 1))) (.int .i64 (IntKind.wrap .i64 (((eventsl : Nat) : Int) + 1)))) w fun v1 w => OpS v1 fun p1 l1 c1 => LoopC (σ := Int ×
  Unit) (fun _ s1 w K1 => Req (0 ≤ ((eventsl : Nat) : Int)) (Cb (decide (s1.1 < ishl .i64 1 ((eventsl : Nat) : Int))) (LoopC (σ := Int × Unit) (fun _ s2 w K2 => Cb (decide
  (s2.1 < IntKind.wrap .i64 (((eventsl : Nat) : Int) + 1))) (IdxS p l (IntKind.wrap .i64 ((IntKind.wrap .i64 (s1.1 * (IntKind.wrap .i64 (((eventsl : Nat) : Int) + 1)))) +
  s2.1)) 1 fun b2 o1 => LdV b2 o1 (At w) fun v2 => OpB v2 fun g => Cb (!g) (K2 (IntKind.wrap .i64 (s2.1 + 1), ()) w) (LdA 16 b 0 (At w) fun cs => Alc 23 (zc Try.prog 23) w
  fun b3 w => StA 16 b3 0 cs w fun w => Cb (decide (s2.1 < ((eventsl : Nat) : Int))) (IdxS eventsp eventsl s2.1 19 fun b4 o2 => LdA 16 b4 (o2 + 1) (At w) fun cs1 => StA 16
  b3 0 cs1 w fun w => LoopC (σ := Bool × Int × Unit) (fun _ s3 w K3 => Cb (decide (s3.2.1 < ((eventsl : Nat) : Int))) (Cb s3.1 (CallV Try.prog 64 #[.int .i64 s1.1, .int .i64
  s3.2.1] w fun v3 w => OpB v3 fun g1 => Cb g1 (LdA 16 b3 0 (At w) fun cs2 => CallV Try.prog 65 #[.slice eventsp eventsl eventsc, .int .i64 s1.1, .int .i64 s3.2.1, .agg cs2]
  w fun v4 w => OpB v4 fun g2 => Cb (!g2) (K3 (true, (IntKind.wrap .i64 (s3.2.1 + 1), ())) w) (IdxS eventsp eventsl s3.2.1 19 fun b5 o3 => LdV b5 o3 (At w) fun v5 => OpB v5
  fun g3 => Cb g3 (Req (0 ≤ s3.2.1) (IdxS p l (IntKind.wrap .i64 ((IntKind.wrap .i64 ((ibits .or .i64 s1.1 (ishl .i64 1 s3.2.1)) * (IntKind.wrap .i64 (((eventsl : Nat) :
  Int) + 1)))) + s3.2.1)) 1 fun b6 o4 => StV b6 o4 (.bool true) w fun w => K3 (true, (IntKind.wrap .i64 (s3.2.1 + 1), ())) w)) (Req (0 ≤ s3.2.1) (IdxS p l (IntKind.wrap .i64
  ((IntKind.wrap .i64 ((ibits .or .i64 s1.1 (ishl .i64 1 s3.2.1)) * (IntKind.wrap .i64 (((eventsl : Nat) : Int) + 1)))) + s2.1)) 1 fun b7 o5 => StV b7 o5 (.bool true) w fun
  w => K3 (true, (IntKind.wrap .i64 (s3.2.1 + 1), ())) w)))) (IdxS eventsp eventsl s3.2.1 19 fun b8 o6 => LdV b8 (o6 + 18) (At w) fun v6 => OpI .i64 v6 fun n => LdA 16 b3 0
  (At w) fun cs3 => CallV Try.prog 65 #[.slice eventsp eventsl eventsc, .int .i64 s1.1, .int .i64 s3.2.1, .agg cs3] w fun v7 w => OpB v7 fun g4 => Cb (!g4) (K3 (decide (n <
  0), (IntKind.wrap .i64 (s3.2.1 + 1), ())) w) (IdxS eventsp eventsl s3.2.1 19 fun b9 o7 => LdV b9 o7 (At w) fun v8 => OpB v8 fun g5 => Cb g5 (Req (0 ≤ s3.2.1) (IdxS p l
  (IntKind.wrap .i64 ((IntKind.wrap .i64 ((ibits .or .i64 s1.1 (ishl .i64 1 s3.2.1)) * (IntKind.wrap .i64 (((eventsl : Nat) : Int) + 1)))) + s3.2.1)) 1 fun b10 o8 => StV b10
  o8 (.bool true) w fun w => K3 (decide (n < 0), (IntKind.wrap .i64 (s3.2.1 + 1), ())) w)) (Req (0 ≤ s3.2.1) (IdxS p l (IntKind.wrap .i64 ((IntKind.wrap .i64 ((ibits .or
  .i64 s1.1 (ishl .i64 1 s3.2.1)) * (IntKind.wrap .i64 (((eventsl : Nat) : Int) + 1)))) + s2.1)) 1 fun b11 o9 => StV b11 o9 (.bool true) w fun w => K3 (decide (n < 0),
  (IntKind.wrap .i64 (s3.2.1 + 1), ())) w))))) (LdA 16 b3 0 (At w) fun cs4 => CallV Try.prog 65 #[.slice eventsp eventsl eventsc, .int .i64 s1.1, .int .i64 s3.2.1, .agg cs4]
  w fun v9 w => OpB v9 fun g6 => Cb (!g6) (K3 (false, (IntKind.wrap .i64 (s3.2.1 + 1), ())) w) (IdxS eventsp eventsl s3.2.1 19 fun b12 o10 => LdV b12 o10 (At w) fun v10 =>
  OpB v10 fun g7 => Cb g7 (Req (0 ≤ s3.2.1) (IdxS p l (IntKind.wrap .i64 ((IntKind.wrap .i64 ((ibits .or .i64 s1.1 (ishl .i64 1 s3.2.1)) * (IntKind.wrap .i64 (((eventsl :
  Nat) : Int) + 1)))) + s3.2.1)) 1 fun b13 o11 => StV b13 o11 (.bool true) w fun w => K3 (false, (IntKind.wrap .i64 (s3.2.1 + 1), ())) w)) (Req (0 ≤ s3.2.1) (IdxS p l
  (IntKind.wrap .i64 ((IntKind.wrap .i64 ((ibits .or .i64 s1.1 (ishl .i64 1 s3.2.1)) * (IntKind.wrap .i64 (((eventsl : Nat) : Int) + 1)))) + s2.1)) 1 fun b14 o12 => StV b14
  o12 (.bool true) w fun w => K3 (false, (IntKind.wrap .i64 (s3.2.1 + 1), ())) w))))) (IdxS p1 l1 s2.1 1 fun b15 o13 => LdV b15 o13 (At w) fun v11 => OpB v11 fun g8 => Req
  (g8 = g8) (IdxS p1 l1 s2.1 1 fun b16 o14 => StV b16 o14 (.bool (cond g8 true s3.1)) w fun w => K2 (IntKind.wrap .i64 (s2.1 + 1), ()) w))) (true, (0, ())) w) (LoopC (σ :=
  Bool × Int × Unit) (fun _ s4 w K4 => Cb (decide (s4.2.1 < ((eventsl : Nat) : Int))) (Cb s4.1 (CallV Try.prog 64 #[.int .i64 s1.1, .int .i64 s4.2.1] w fun v12 w => OpB v12
  fun g9 => Cb g9 (LdA 16 b3 0 (At w) fun cs5 => CallV Try.prog 65 #[.slice eventsp eventsl eventsc, .int .i64 s1.1, .int .i64 s4.2.1, .agg cs5] w fun v13 w => OpB v13 fun
  g10 => Cb (!g10) (K4 (true, (IntKind.wrap .i64 (s4.2.1 + 1), ())) w) (IdxS eventsp eventsl s4.2.1 19 fun b17 o15 => LdV b17 o15 (At w) fun v14 => OpB v14 fun g11 => Cb g11
  (Req (0 ≤ s4.2.1) (IdxS p l (IntKind.wrap .i64 ((IntKind.wrap .i64 ((ibits .or .i64 s1.1 (ishl .i64 1 s4.2.1)) * (IntKind.wrap .i64 (((eventsl : Nat) : Int) + 1)))) +
  s4.2.1)) 1 fun b18 o16 => StV b18 o16 (.bool true) w fun w => K4 (true, (IntKind.wrap .i64 (s4.2.1 + 1), ())) w)) (Req (0 ≤ s4.2.1) (IdxS p l (IntKind.wrap .i64
  ((IntKind.wrap .i64 ((ibits .or .i64 s1.1 (ishl .i64 1 s4.2.1)) * (IntKind.wrap .i64 (((eventsl : Nat) : Int) + 1)))) + s2.1)) 1 fun b19 o17 => StV b19 o17 (.bool true) w
  fun w => K4 (true, (IntKind.wrap .i64 (s4.2.1 + 1), ())) w)))) (IdxS eventsp eventsl s4.2.1 19 fun b20 o18 => LdV b20 (o18 + 18) (At w) fun v15 => OpI .i64 v15 fun n1 =>
  LdA 16 b3 0 (At w) fun cs6 => CallV Try.prog 65 #[.slice eventsp eventsl eventsc, .int .i64 s1.1, .int .i64 s4.2.1, .agg cs6] w fun v16 w => OpB v16 fun g12 => Cb (!g12)
  (K4 (decide (n1 < 0), (IntKind.wrap .i64 (s4.2.1 + 1), ())) w) (IdxS eventsp eventsl s4.2.1 19 fun b21 o19 => LdV b21 o19 (At w) fun v17 => OpB v17 fun g13 => Cb g13 (Req
  (0 ≤ s4.2.1) (IdxS p l (IntKind.wrap .i64 ((IntKind.wrap .i64 ((ibits .or .i64 s1.1 (ishl .i64 1 s4.2.1)) * (IntKind.wrap .i64 (((eventsl : Nat) : Int) + 1)))) + s4.2.1))
  1 fun b22 o20 => StV b22 o20 (.bool true) w fun w => K4 (decide (n1 < 0), (IntKind.wrap .i64 (s4.2.1 + 1), ())) w)) (Req (0 ≤ s4.2.1) (IdxS p l (IntKind.wrap .i64
  ((IntKind.wrap .i64 ((ibits .or .i64 s1.1 (ishl .i64 1 s4.2.1)) * (IntKind.wrap .i64 (((eventsl : Nat) : Int) + 1)))) + s2.1)) 1 fun b23 o21 => StV b23 o21 (.bool true) w
  fun w => K4 (decide (n1 < 0), (IntKind.wrap .i64 (s4.2.1 + 1), ())) w))))) (LdA 16 b3 0 (At w) fun cs7 => CallV Try.prog 65 #[.slice eventsp eventsl eventsc, .int .i64
  s1.1, .int .i64 s4.2.1, .agg cs7] w fun v18 w => OpB v18 fun g14 => Cb (!g14) (K4 (false, (IntKind.wrap .i64 (s4.2.1 + 1), ())) w) (IdxS eventsp eventsl s4.2.1 19 fun b24
  o22 => LdV b24 o22 (At w) fun v19 => OpB v19 fun g15 => Cb g15 (Req (0 ≤ s4.2.1) (IdxS p l (IntKind.wrap .i64 ((IntKind.wrap .i64 ((ibits .or .i64 s1.1 (ishl .i64 1
  s4.2.1)) * (IntKind.wrap .i64 (((eventsl : Nat) : Int) + 1)))) + s4.2.1)) 1 fun b25 o23 => StV b25 o23 (.bool true) w fun w => K4 (false, (IntKind.wrap .i64 (s4.2.1 + 1),
  ())) w)) (Req (0 ≤ s4.2.1) (IdxS p l (IntKind.wrap .i64 ((IntKind.wrap .i64 ((ibits .or .i64 s1.1 (ishl .i64 1 s4.2.1)) * (IntKind.wrap .i64 (((eventsl : Nat) : Int) +
  1)))) + s2.1)) 1 fun b26 o24 => StV b26 o24 (.bool true) w fun w => K4 (false, (IntKind.wrap .i64 (s4.2.1 + 1), ())) w))))) (IdxS p1 l1 s2.1 1 fun b27 o25 => LdV b27 o25
  (At w) fun v20 => OpB v20 fun g16 => Req (g16 = g16) (IdxS p1 l1 s2.1 1 fun b28 o26 => StV b28 o26 (.bool (cond g16 true s4.1)) w fun w => K2 (IntKind.wrap .i64 (s2.1 +
  1), ()) w))) (true, (0, ())) w))) (K1 (IntKind.wrap .i64 (s1.1 + 1), ()) w)) (0, ()) w) (Ret [] (R (.slice p1 l1 c1) w)))) (0, ()) w)
theorem C_ravelinref21_Ends {start : Array Value} {eventsp : Option Addr} {eventsl : Nat} {eventsc : Nat} {w : World} {R : Value → World → Prop} (h : F_ravelinref21_Ends start eventsp eventsl eventsc w R) : CallV Try.prog 47 #[.agg start, .slice eventsp eventsl eventsc] w R := by
  exact calls_of_F (args := [.agg start, .slice eventsp eventsl eventsc]) (mkAnn [(7, [(9, (.int .i64))]), (10, [(10, (.int .i64))]), (18, [(12, .bool), (13, (.int .i64))])] [] [] [] []) Try_mixed Try.func47 rfl rfl (by kernel_rfl) h
def F_ravelinref21_Orderly (start : Array Value) (eventsp : Option Addr) (eventsl : Nat) (eventsc : Nat) (w : World) (R : Value → World → Prop) : Prop :=
  Alc 23 start w fun b w => CallV Try.prog 16 #[.slice eventsp eventsl eventsc] w fun v w => OpI .i64 v fun n => Cb (n != 0) (Ret [] (R (.tuple #[.bool false, .int .i64 1])
  w)) (LdA 16 b 0 (At w) fun cs => CallV Try.prog 47 #[.agg cs, .slice eventsp eventsl eventsc] w fun v1 w => OpS v1 fun p l c => LoopC (σ := Bool × Int × Unit) (fun _ s1 w
  K1 => Cb (decide (s1.2.1 < ((l : Nat) : Int))) (Cb s1.1 (K1 (true, (IntKind.wrap .i64 (s1.2.1 + 1), ())) w) (IdxS p l s1.2.1 1 fun b1 o => LdV b1 o (At w) fun v2 => OpB v2
  fun g => K1 (g, (IntKind.wrap .i64 (s1.2.1 + 1), ())) w)) (Ret [] (R (.tuple #[.bool s1.1, .int .i64 0]) w))) (false, (0, ())) w)
theorem C_ravelinref21_Orderly {start : Array Value} {eventsp : Option Addr} {eventsl : Nat} {eventsc : Nat} {w : World} {R : Value → World → Prop} (h : F_ravelinref21_Orderly start eventsp eventsl eventsc w R) : CallV Try.prog 13 #[.agg start, .slice eventsp eventsl eventsc] w R := by
  exact calls_of_F (args := [.agg start, .slice eventsp eventsl eventsc]) (mkAnn [(6, [(7, .bool), (8, (.int .i64))])] [] [] [] []) Try_mixed Try.func13 rfl rfl (by kernel_rfl) h
end Go.Proofs
