/- PRINTED BY pr.py (own program): what the evaluator of <Name>Ev makes of the code of some functions. -/
import Derived.Test.YtdjlmpkjdgmkkaaChecked
import Derived.Test.YtdjlmpkjdgmkkaaEv
import Derived.Test.YtdjlmpkjdgmkkaaMix
namespace Go.Proofs
open Go.Ev
set_option linter.unusedVariables false
set_option maxRecDepth 100000
def F_Walk (s : Array Value) (q1 : Nat) (q2 : Nat) (q3 : Nat) (q4 : Nat) (q5 : Nat) (q6 : Nat) (w : World) (R : Value → World → Prop) : Prop :=
  Alc 93 s w fun b w => LdV q1 0 (At w) fun v => OpM v fun m => LdA 2 b 0 (At w) fun cs => DoQ Try.prog (Instr.lookup 98 (.map m) (.agg cs) true) (At w) fun v1 => T2 v1 fun
  v2 v3 => OpA 0 v2 fun cs1 => OpB v3 fun g => Alc 100 (zc Try.prog 100) w fun b1 w => StA 0 b1 0 cs1 w fun w => Cb g (Ret [] (R (.tuple #[]) w)) (LdV q1 0 (At w) fun v4 =>
  OpM v4 fun m1 => LdA 2 b 0 (At w) fun cs2 => DoQ Try.prog (Instr.build 100 #[]) (At w) fun v5 => OpA 0 v5 fun cs3 => DoU Try.prog (Instr.mapUpdate 98 (.map m1) (.agg cs2)
  (.agg cs3)) w fun w => LdV q2 0 (At w) fun v6 => OpI .i64 v6 fun n => LdV b 0 (At w) fun v7 => OpI .i64 v7 fun n1 => JoinC (σ := Unit) (fun J1 => Cb (ibits .andNot .i64 n
  n1 == 0) (LdV q3 0 (At w) fun v8 => OpS v8 fun p l c => LdA 2 b 0 (At w) fun cs4 => DoV Try.prog (Instr.buildSlice 71 1 #[(0, .agg cs4)]) w fun v9 w => OpS v9 fun p1 l1 c1
  => DoV Try.prog (Builtin.append_ #[71, 71] 71 #[.slice p l c, .slice p1 l1 c1]) w fun v10 w => OpS v10 fun p2 l2 c2 => StV q3 0 (.slice p2 l2 c2) w fun w => J1 () w) (J1
  () w)) (fun _ s1 w => LdA 16 q4 0 (At w) fun cs5 => Alc 23 (zc Try.prog 23) w fun b2 w => StA 16 b2 0 cs5 w fun w => LdV b 1 (At w) fun v11 => OpI .i64 v11 fun n2 => JoinC
  (σ := Unit) (fun J2 => Cb (decide (n2 ≥ 0)) (LdV q5 0 (At w) fun v12 => OpS v12 fun p3 l3 c3 => LdV b 1 (At w) fun v13 => OpI .i64 v13 fun n3 => IdxS p3 l3 n3 19 fun b3 o
  => LdA 16 b3 (o + 1) (At w) fun cs6 => StA 16 b2 0 cs6 w fun w => J2 () w) (J2 () w)) (fun _ s2 w => LdV q5 0 (At w) fun v14 => OpS v14 fun p4 l4 c4 => LoopC (σ := Int ×
  Unit) (fun _ s3 w K3 => Cb (decide (s3.1 < ((l4 : Nat) : Int))) (IdxS p4 l4 s3.1 19 fun b4 o1 => LdA 19 b4 o1 (At w) fun cs7 => Alc 31 (zc Try.prog 31) w fun b5 w => StA
  19 b5 0 cs7 w fun w => LdV b 0 (At w) fun v15 => OpI .i64 v15 fun n4 => Req (0 ≤ s3.1) (Cb (ibits .and .i64 (ishr .i64 n4 s3.1) 1 == 1) (K3 (IntKind.wrap .i64 (s3.1 + 1),
  ()) w) (LdV b5 0 (At w) fun v16 => OpB v16 fun g1 => Cb (!g1) (LdV b5 18 (At w) fun v17 => OpI .i64 v17 fun n5 => Cb (decide (n5 < 0)) (K3 (IntKind.wrap .i64 (s3.1 + 1),
  ()) w) (LdA 16 b5 1 (At w) fun cs8 => LdA 16 b2 0 (At w) fun cs9 => EqB Try.prog .neq 23 (.tmp 66) (.tmp 67) (.agg cs8 : Value) (.agg cs9 : Value) (At w) fun g2 => Cb g2
  (K3 (IntKind.wrap .i64 (s3.1 + 1), ()) w) (LdV q5 0 (At w) fun v18 => OpS v18 fun p5 l5 c5 => LdV b 0 (At w) fun v19 => OpI .i64 v19 fun n6 => CallV Try.prog 63 #[.slice
  p5 l5 c5, .int .i64 n6, .int .i64 s3.1] w fun v20 w => OpB v20 fun g3 => Cb g3 (K3 (IntKind.wrap .i64 (s3.1 + 1), ()) w) (HeldR w fun S w => LdV b 0 S fun v21 => OpI .i64
  v21 fun n7 => Req (0 ≤ s3.1) (LdV b 1 S fun v22 => OpI .i64 v22 fun n8 => DoQ Try.prog (Instr.build 93 #[(0, .int .i64 (ibits .or .i64 n7 (ishl .i64 1 s3.1))), (1, .int
  .i64 n8)]) S fun v23 => OpA 2 v23 fun cs10 => Alc 93 (zc Try.prog 93) w fun b6 w => Hld (S w) (StA 2 b6 0 cs10 w fun w => Hld (S w) (LdV b5 0 (At w) fun v24 => OpB v24 fun
  g4 => JoinC (σ := Unit) (fun J4 => Cb g4 (StV b6 1 (.int .i64 s3.1) w fun w => J4 () w) (J4 () w)) (fun _ s4 w => LdV q6 0 (At w) fun v25 => OpG 62 v25 fun ca => LdA 2 b6
  0 (At w) fun cs11 => CallV Try.prog 62 ((.agg cs11) :: ca.toList).toArray w fun v26 w => K3 (IntKind.wrap .i64 (s3.1 + 1), ()) w)))))))) (LdV q5 0 (At w) fun v27 => OpS
  v27 fun p6 l6 c6 => LdV b 0 (At w) fun v28 => OpI .i64 v28 fun n9 => CallV Try.prog 63 #[.slice p6 l6 c6, .int .i64 n9, .int .i64 s3.1] w fun v29 w => OpB v29 fun g5 => Cb
  g5 (K3 (IntKind.wrap .i64 (s3.1 + 1), ()) w) (HeldR w fun S w => LdV b 0 S fun v30 => OpI .i64 v30 fun n10 => Req (0 ≤ s3.1) (LdV b 1 S fun v31 => OpI .i64 v31 fun n11 =>
  DoQ Try.prog (Instr.build 93 #[(0, .int .i64 (ibits .or .i64 n10 (ishl .i64 1 s3.1))), (1, .int .i64 n11)]) S fun v32 => OpA 2 v32 fun cs12 => Alc 93 (zc Try.prog 93) w
  fun b7 w => Hld (S w) (StA 2 b7 0 cs12 w fun w => Hld (S w) (LdV b5 0 (At w) fun v33 => OpB v33 fun g6 => JoinC (σ := Unit) (fun J5 => Cb g6 (StV b7 1 (.int .i64 s3.1) w
  fun w => J5 () w) (J5 () w)) (fun _ s5 w => LdV q6 0 (At w) fun v34 => OpG 62 v34 fun ca1 => LdA 2 b7 0 (At w) fun cs13 => CallV Try.prog 62 ((.agg cs13) ::
  ca1.toList).toArray w fun v35 w => K3 (IntKind.wrap .i64 (s3.1 + 1), ()) w))))))))) (Ret [] (R (.tuple #[]) w))) (0, ()) w)))
theorem C_Walk {s : Array Value} {q1 : Nat} {q2 : Nat} {q3 : Nat} {q4 : Nat} {q5 : Nat} {q6 : Nat} {w : World} {R : Value → World → Prop} (h : F_Walk s q1 q2 q3 q4 q5 q6 w R) : CallV Try.prog 62 #[.agg s, .pointer (some ⟨q1, 0, none⟩), .pointer (some ⟨q2, 0, none⟩), .pointer (some ⟨q3, 0, none⟩), .pointer (some ⟨q4, 0, none⟩), .pointer (some ⟨q5, 0, none⟩), .pointer (some ⟨q6, 0, none⟩)] w R := by
  exact calls_of_F (args := [.agg s, .pointer (some ⟨q1, 0, none⟩), .pointer (some ⟨q2, 0, none⟩), .pointer (some ⟨q3, 0, none⟩), .pointer (some ⟨q4, 0, none⟩), .pointer (some ⟨q5, 0, none⟩), .pointer (some ⟨q6, 0, none⟩)]) (mkAnnF [(10, [(45, (.int .i64))])] [] [(5, []), (8, []), (15, [])] [] [] [(91, 62)]) Try_mixed Try.func62 rfl rfl (by kernel_rfl) h
def F_history_search (start : Array Value) (eventsp : Option Addr) (eventsl : Nat) (eventsc : Nat) (w : World) (R : Value → World → Prop) : Prop :=
  Alc 23 start w fun b w => Alc 24 #[.slice eventsp eventsl eventsc] w fun b1 w => DoV Try.prog (Instr.makeMap 98 none) w fun v w => OpM v fun m => Alc 98 (zc Try.prog 98) w
  fun b2 w => StV b2 0 (.map m) w fun w => Alc 71 (zc Try.prog 71) w fun b3 w => Alc 3 (zc Try.prog 3) w fun b4 w => StV b4 0 (.int .i64 0) w fun w => LdV b1 0 (At w) fun v1
  => OpS v1 fun p l c => LoopC (σ := Int × Unit) (fun _ s1 w K1 => Cb (decide (s1.1 < ((l : Nat) : Int))) (IdxS p l s1.1 19 fun b5 o => LdA 19 b5 o (At w) fun cs => Alc 31
  (zc Try.prog 31) w fun b6 w => StA 19 b6 0 cs w fun w => LdV b6 18 (At w) fun v2 => OpI .i64 v2 fun n => Cb (decide (n ≥ 0)) (Dr1 w fun w => LdV b4 0 (At w) fun v3 => OpI
  .i64 v3 fun n1 => Req (0 ≤ s1.1) (StV b4 0 (.int .i64 (ibits .or .i64 n1 (ishl .i64 1 s1.1))) w fun w => K1 (IntKind.wrap .i64 (s1.1 + 1), ()) w)) (K1 (IntKind.wrap .i64
  (s1.1 + 1), ()) w)) (Alc 99 (zc Try.prog 99) w fun b7 w => StV b7 0 (.func (.func 62) #[] #[.pointer (some ⟨b2, 0, none⟩), .pointer (some ⟨b4, 0, none⟩), .pointer (some
  ⟨b3, 0, none⟩), .pointer (some ⟨b, 0, none⟩), .pointer (some ⟨b1, 0, none⟩), .pointer (some ⟨b7, 0, none⟩)]) w fun w => LdV b7 0 (At w) fun v4 => OpG 62 v4 fun ca => DoQ
  Try.prog (Instr.build 93 #[(0, .int .i64 0), (1, .int .i64 (-1))]) (At w) fun v5 => OpA 2 v5 fun cs1 => CallV Try.prog 62 ((.agg cs1) :: ca.toList).toArray w fun v6 w =>
  LdV b3 0 (At w) fun v7 => OpS v7 fun p1 l1 c1 => Ret [] (R (.slice p1 l1 c1) w))) (0, ()) w
theorem C_history_search {start : Array Value} {eventsp : Option Addr} {eventsl : Nat} {eventsc : Nat} {w : World} {R : Value → World → Prop} (h : F_history_search start eventsp eventsl eventsc w R) : CallV Try.prog 46 #[.agg start, .slice eventsp eventsl eventsc] w R := by
  exact calls_of_F (args := [.agg start, .slice eventsp eventsl eventsc]) (mkAnnF [(5, [(14, (.int .i64))])] [] [] [] [] [(28, 62)]) Try_mixed Try.func46 rfl rfl (by kernel_rfl) h
def F_history_blocked (eventsp : Option Addr) (eventsl : Nat) (eventsc : Nat) (done : Int) (i : Int) (w : World) (R : Value → World → Prop) : Prop :=
  LoopC (σ := Int × Unit) (fun _ s1 w K1 => Cb (decide (s1.1 < ((eventsl : Nat) : Int))) (IdxS eventsp eventsl s1.1 19 fun b o => LdA 19 b o (At w) fun cs => Alc 31 (zc
  Try.prog 31) w fun b1 w => StA 19 b1 0 cs w fun w => Req (0 ≤ s1.1) (Cb (ibits .and .i64 (ishr .i64 done s1.1) 1 == 0) (LdV b1 18 (At w) fun v => OpI .i64 v fun n => Cb
  (decide (n ≥ 0)) (LdV b1 18 (At w) fun v1 => OpI .i64 v1 fun n1 => IdxS eventsp eventsl i 19 fun b2 o1 => LdV b2 (o1 + 17) (At w) fun v2 => OpI .i64 v2 fun n2 => Drw w fun
  w => Cb (decide (n1 < n2)) (Ret [] (R (.bool true) w)) (K1 (IntKind.wrap .i64 (s1.1 + 1), ()) w)) (Drw w fun w => K1 (IntKind.wrap .i64 (s1.1 + 1), ()) w)) (Drw w fun w =>
  K1 (IntKind.wrap .i64 (s1.1 + 1), ()) w))) (Ret [] (R (.bool false) w))) (0, ()) w
theorem C_history_blocked {eventsp : Option Addr} {eventsl : Nat} {eventsc : Nat} {done : Int} {i : Int} {w : World} {R : Value → World → Prop} (h : F_history_blocked eventsp eventsl eventsc done i w R) : CallV Try.prog 63 #[.slice eventsp eventsl eventsc, .int .i64 done, .int .i64 i] w R := by
  exact calls_of_F (args := [.slice eventsp eventsl eventsc, .int .i64 done, .int .i64 i]) (mkAnn [(2, [(11, (.int .i64))])] [] [] [] []) Try_mixed Try.func63 rfl rfl (by kernel_rfl) h
def F_history_Check (eventsp : Option Addr) (eventsl : Nat) (eventsc : Nat) (w : World) (R : Value → World → Prop) : Prop :=
  Cb (decide (((eventsl : Nat) : Int) > 10)) (Ret [] (R (.int .i64 1) w)) (LoopC (σ := Int × Unit) (fun _ s1 w K1 => Cb (decide (s1.1 < ((eventsl : Nat) : Int))) (IdxS
  eventsp eventsl s1.1 19 fun b o => LdA 19 b o (At w) fun cs => Alc 31 (zc Try.prog 31) w fun b1 w => StA 19 b1 0 cs w fun w => LdV b1 17 (At w) fun v => OpI .i64 v fun n
  => Cb (decide (n < 0)) (Ret [] (R (.int .i64 1) w)) (LdV b1 18 (At w) fun v1 => OpI .i64 v1 fun n1 => Cb (decide (n1 ≥ 0)) (LdV b1 18 (At w) fun v2 => OpI .i64 v2 fun n2
  => LdV b1 17 (At w) fun v3 => OpI .i64 v3 fun n3 => Cb (decide (n2 < n3)) (Ret [] (R (.int .i64 1) w)) (K1 (IntKind.wrap .i64 (s1.1 + 1), ()) w)) (K1 (IntKind.wrap .i64
  (s1.1 + 1), ()) w))) (Ret [] (R (.int .i64 0) w))) (0, ()) w)
theorem C_history_Check {eventsp : Option Addr} {eventsl : Nat} {eventsc : Nat} {w : World} {R : Value → World → Prop} (h : F_history_Check eventsp eventsl eventsc w R) : CallV Try.prog 15 #[.slice eventsp eventsl eventsc] w R := by
  exact calls_of_F (args := [.slice eventsp eventsl eventsc]) (mkAnn [(4, [(10, (.int .i64))])] [] [] [] []) Try_mixed Try.func15 rfl rfl (by kernel_rfl) h
def F_history_Orderly (start : Array Value) (eventsp : Option Addr) (eventsl : Nat) (eventsc : Nat) (w : World) (R : Value → World → Prop) : Prop :=
  Alc 23 start w fun b w => CallV Try.prog 15 #[.slice eventsp eventsl eventsc] w fun v w => OpI .i64 v fun n => Cb (n != 0) (Ret [] (R (.tuple #[.bool false, .int .i64 n])
  w)) (LdA 16 b 0 (At w) fun cs => CallV Try.prog 46 #[.agg cs, .slice eventsp eventsl eventsc] w fun v1 w => OpS v1 fun p l c => Ret [] (R (.tuple #[.bool (decide (((l :
  Nat) : Int) > 0)), .int .i64 0]) w))
theorem C_history_Orderly {start : Array Value} {eventsp : Option Addr} {eventsl : Nat} {eventsc : Nat} {w : World} {R : Value → World → Prop} (h : F_history_Orderly start eventsp eventsl eventsc w R) : CallV Try.prog 12 #[.agg start, .slice eventsp eventsl eventsc] w R := by
  exact calls_of_F (args := [.agg start, .slice eventsp eventsl eventsc]) (mkAnn [] [] [] [] []) Try_mixed Try.func12 rfl rfl (by kernel_rfl) h
end Go.Proofs
