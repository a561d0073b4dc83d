/- PRINTED BY pr.py (own program): what the evaluator of <Name>Ev makes of the code of some functions. -/
import Derived.Test.YtdjlmpkjdgmkkaaChecked
import Derived.Test.YtdjlmpkjdgmkkaaEv
import Derived.Test.YtdjlmpkjdgmkkaaMix
namespace Go.Proofs
open Go.Ev
set_option linter.unusedVariables false
set_option maxRecDepth 100000
def F_ravelinref15_New (disks : Int) (w : World) (R : Value → World → Prop) : Prop :=
  Alc 50 (zc Try.prog 50) w fun b w => DoQ Try.prog (Instr.build 46 #[(0, .bool true)]) (At w) fun v => OpA 3 v fun cs => DoQ Try.prog (Instr.build 46 #[(0, .bool true)])
  (At w) fun v1 => OpA 3 v1 fun cs1 => DoQ Try.prog (Instr.build 47 #[(0, .agg cs), (1, .agg cs1)]) (At w) fun v2 => OpA 6 v2 fun cs2 => DoQ Try.prog (Instr.build 50 #[(0,
  .agg cs2)]) (At w) fun v3 => OpA 7 v3 fun cs3 => Alc 50 (zc Try.prog 50) w fun b1 w => StA 7 b1 0 cs3 w fun w => LoopC (σ := Int × Unit) (fun _ s1 w K1 => Cb (decide (s1.1
  < disks)) (LdV b1 6 (At w) fun v4 => OpS v4 fun p l c => DoQ Try.prog (Instr.build 87 #[(0, .bool true)]) (At w) fun v5 => OpA 2 v5 fun cs4 => DoV Try.prog
  (Instr.buildSlice 48 1 #[(0, .agg cs4)]) w fun v6 w => OpS v6 fun p1 l1 c1 => DoV Try.prog (Builtin.append_ #[48, 48] 48 #[.slice p l c, .slice p1 l1 c1]) w fun v7 w =>
  OpS v7 fun p2 l2 c2 => StV b1 6 (.slice p2 l2 c2) w fun w => K1 (IntKind.wrap .i64 (s1.1 + 1), ()) w) (LdA 7 b1 0 (At w) fun cs5 => StA 7 b 0 cs5 w fun w => LdA 7 b 0 (At
  w) fun cs6 => Ret [] (R (.agg cs6) w))) (0, ()) w
theorem C_ravelinref15_New {disks : Int} {w : World} {R : Value → World → Prop} (h : F_ravelinref15_New disks w R) : CallV Try.prog 27 #[.int .i64 disks] w R := by
  exact calls_of_F (args := [.int .i64 disks]) (mkAnn [(3, [(4, (.int .i64))])] [] [] [] []) Try_mixed Try.func27 rfl rfl (by kernel_rfl) h
def F_ravelinref15_side (n : Int) (w : World) (R : Value → World → Prop) : Prop :=
  Req ((n == 0) = (n == 0)) (Req ((n == 0) = (n == 0)) (Ret [] (R (.bool (cond (n == 0) true (n == 1))) w)))
theorem C_ravelinref15_side {n : Int} {w : World} {R : Value → World → Prop} (h : F_ravelinref15_side n w R) : CallV Try.prog 51 #[.int .i64 n] w R := by
  exact calls_of_F (args := [.int .i64 n]) (mkAnn [] [] [] [] []) Try_mixed Try.func51 rfl rfl (by kernel_rfl) h
def F_ravelinref15_Key (c : Array Value) (w : World) (R : Value → World → Prop) : Prop :=
  Alc 50 c w fun b w => LoopC (σ := Int × Int × Unit) (fun _ s1 w K1 => LdV b 6 (At w) fun v => OpS v fun p l c1 => Cb (decide (s1.2.1 < ((l : Nat) : Int))) (LdV b 6 (At w)
  fun v1 => OpS v1 fun p1 l1 c2 => IdxS p1 l1 s1.2.1 2 fun b1 o => LdV b1 o (At w) fun v2 => OpB v2 fun g => Cb g (LdV b 6 (At w) fun v3 => OpS v3 fun p2 l2 c3 => IdxS p2 l2
  s1.2.1 2 fun b2 o1 => LdV b2 (o1 + 1) (At w) fun v4 => OpI .u32 v4 fun n => Cb (decide (n > s1.1)) (LdV b 6 (At w) fun v5 => OpS v5 fun p3 l3 c4 => IdxS p3 l3 s1.2.1 2 fun
  b3 o2 => LdV b3 (o2 + 1) (At w) fun v6 => OpI .u32 v6 fun n1 => K1 (n1, (IntKind.wrap .i64 (s1.2.1 + 1), ())) w) (K1 (s1.1, (IntKind.wrap .i64 (s1.2.1 + 1), ())) w)) (K1
  (s1.1, (IntKind.wrap .i64 (s1.2.1 + 1), ())) w)) (Ret [] (R (.int .u32 s1.1) w))) (0, (0, ())) w
theorem C_ravelinref15_Key {c : Array Value} {w : World} {R : Value → World → Prop} (h : F_ravelinref15_Key c w R) : CallV Try.prog 52 #[.agg c] w R := by
  exact calls_of_F (args := [.agg c]) (mkAnn [(3, [(3, (.int .u32)), (4, (.int .i64))])] [] [] [] []) Try_mixed Try.func52 rfl rfl (by kernel_rfl) h
def F_ravelinref15_Suspects (c : Array Value) (n : Int) (w : World) (R : Value → World → Prop) : Prop :=
  Alc 50 c w fun b w => CallV Try.prog 51 #[.int .i64 n] w fun v w => OpB v fun g => Cb g (Req (0 ≤ n ∧ n < 2) (LdV b (0 + Int.toNat n * 3) (At w) fun v1 => OpB v1 fun g1 =>
  Cb g1 (Req (0 ≤ n ∧ n < 2) (LdV b (0 + Int.toNat n * 3 + 2) (At w) fun v2 => OpI .i64 v2 fun n1 => Ret [] (R (.bool (decide (n1 ≥ 3))) w))) (Ret [] (R (.bool false) w))))
  (Ret [] (R (.bool false) w))
theorem C_ravelinref15_Suspects {c : Array Value} {n : Int} {w : World} {R : Value → World → Prop} (h : F_ravelinref15_Suspects c n w R) : CallV Try.prog 42 #[.agg c, .int .i64 n] w R := by
  exact calls_of_F (args := [.agg c, .int .i64 n]) (mkAnn [] [] [] [] []) Try_mixed Try.func42 rfl rfl (by kernel_rfl) h
def F_ravelinref15_Ready (c : Array Value) (n : Int) (w : World) (R : Value → World → Prop) : Prop :=
  Alc 50 c w fun b w => HeldR w fun S w => CallV Try.prog 51 #[.int .i64 n] w fun v w => OpB v fun g => Hld (S w) (Cb g (Req (0 ≤ n ∧ n < 2) (LdV b (0 + Int.toNat n * 3) S
  fun v1 => OpB v1 fun g1 => Cb g1 (Req (0 ≤ n ∧ n < 2) (LdV b (0 + Int.toNat n * 3 + 1) S fun v2 => OpI .u32 v2 fun n1 => LdA 7 b 0 (At w) fun cs => CallV Try.prog 52
  #[.agg cs] w fun v3 w => OpI .u32 v3 fun n2 => Hld (S w) (Ret [] (R (.bool (decide (n1 ≥ n2))) w)))) (Hld (S w) (Ret [] (R (.bool false) w))))) (Hld (S w) (Ret [] (R
  (.bool false) w))))
theorem C_ravelinref15_Ready {c : Array Value} {n : Int} {w : World} {R : Value → World → Prop} (h : F_ravelinref15_Ready c n w R) : CallV Try.prog 41 #[.agg c, .int .i64 n] w R := by
  exact calls_of_F (args := [.agg c, .int .i64 n]) (mkAnn [] [] [] [] [21]) Try_mixed Try.func41 rfl rfl (by kernel_rfl) h
def F_ravelinref15_Tick (c : Array Value) (n : Int) (w : World) (R : Value → World → Prop) : Prop :=
  Alc 50 c w fun b w => Alc 50 (zc Try.prog 50) w fun b1 w => CallV Try.prog 51 #[.int .i64 n] w fun v w => OpB v fun g => Cb (!g) (Dr1 w fun w => LdA 7 b 0 (At w) fun cs =>
  StA 7 b1 0 cs w fun w => LdA 7 b1 0 (At w) fun cs1 => Ret [] (R (.tuple #[.int .i64 2, .agg cs1]) w)) (Req (0 ≤ n ∧ n < 2) (LdV b (0 + Int.toNat n * 3) (At w) fun v1 =>
  OpB v1 fun g1 => Cb (!g1) (Dr1 w fun w => LdA 7 b 0 (At w) fun cs2 => StA 7 b1 0 cs2 w fun w => LdA 7 b1 0 (At w) fun cs3 => Ret [] (R (.tuple #[.int .i64 13, .agg cs3])
  w)) (Req (0 ≤ n ∧ n < 2) (LdV b (0 + Int.toNat n * 3 + 2) (At w) fun v2 => OpI .i64 v2 fun n1 => Req (0 ≤ n ∧ n < 2) (StV b (0 + Int.toNat n * 3 + 2) (.int .i64
  (IntKind.wrap .i64 (n1 + 1))) w fun w => Dr1 w fun w => LdA 7 b 0 (At w) fun cs4 => StA 7 b1 0 cs4 w fun w => LdA 7 b1 0 (At w) fun cs5 => Ret [] (R (.tuple #[.int .i64 0,
  .agg cs5]) w))))))
theorem C_ravelinref15_Tick {c : Array Value} {n : Int} {w : World} {R : Value → World → Prop} (h : F_ravelinref15_Tick c n w R) : CallV Try.prog 28 #[.agg c, .int .i64 n] w R := by
  exact calls_of_F (args := [.agg c, .int .i64 n]) (mkAnn [] [] [] [] []) Try_mixed Try.func28 rfl rfl (by kernel_rfl) h
def F_ravelinref15_Beat (c : Array Value) (n : Int) (w : World) (R : Value → World → Prop) : Prop :=
  Alc 50 c w fun b w => Alc 50 (zc Try.prog 50) w fun b1 w => CallV Try.prog 51 #[.int .i64 n] w fun v w => OpB v fun g => Cb (!g) (Dr1 w fun w => LdA 7 b 0 (At w) fun cs =>
  StA 7 b1 0 cs w fun w => LdA 7 b1 0 (At w) fun cs1 => Ret [] (R (.tuple #[.int .i64 2, .agg cs1]) w)) (Req (0 ≤ (0 : Int) ∧ (0 : Int) < 2) (LdV b (0 + Int.toNat 0 * 3) (At
  w) fun v1 => OpB v1 fun g1 => Cb (!g1) (Dr1 w fun w => LdA 7 b 0 (At w) fun cs2 => StA 7 b1 0 cs2 w fun w => LdA 7 b1 0 (At w) fun cs3 => Ret [] (R (.tuple #[.int .i64 13,
  .agg cs3]) w)) (Req (0 ≤ (1 : Int) ∧ (1 : Int) < 2) (LdV b (0 + Int.toNat 1 * 3) (At w) fun v2 => OpB v2 fun g2 => Cb (!g2) (Dr1 w fun w => LdA 7 b 0 (At w) fun cs4 => StA
  7 b1 0 cs4 w fun w => LdA 7 b1 0 (At w) fun cs5 => Ret [] (R (.tuple #[.int .i64 13, .agg cs5]) w)) (Req (0 ≤ IntKind.wrap .i64 (1 - n) ∧ IntKind.wrap .i64 (1 - n) < 2)
  (StV b (0 + Int.toNat (IntKind.wrap .i64 (1 - n)) * 3 + 2) (.int .i64 0) w fun w => Dr1 w fun w => LdA 7 b 0 (At w) fun cs6 => StA 7 b1 0 cs6 w fun w => LdA 7 b1 0 (At w)
  fun cs7 => Ret [] (R (.tuple #[.int .i64 0, .agg cs7]) w)))))))
theorem C_ravelinref15_Beat {c : Array Value} {n : Int} {w : World} {R : Value → World → Prop} (h : F_ravelinref15_Beat c n w R) : CallV Try.prog 29 #[.agg c, .int .i64 n] w R := by
  exact calls_of_F (args := [.agg c, .int .i64 n]) (mkAnn [] [] [] [] []) Try_mixed Try.func29 rfl rfl (by kernel_rfl) h
def F_ravelinref15_drives (c : Array Value) (key : Int) (w : World) (R : Value → World → Prop) : Prop :=
  Alc 50 c w fun b w => DoV Try.prog (Instr.buildSlice 48 0 #[]) w fun v w => OpS v fun p l c1 => LoopC (σ := (Option Addr × Nat × Nat) × Int × Unit) (fun _ s1 w K1 => LdV b
  6 (At w) fun v1 => OpS v1 fun p1 l1 c2 => Cb (decide (s1.2.1 < ((l1 : Nat) : Int))) (LdV b 6 (At w) fun v2 => OpS v2 fun p2 l2 c3 => IdxS p2 l2 s1.2.1 2 fun b1 o => LdA 2
  b1 o (At w) fun cs => Alc 87 (zc Try.prog 87) w fun b2 w => StA 2 b2 0 cs w fun w => LdV b2 0 (At w) fun v3 => OpB v3 fun g => Cb g (StV b2 1 (.int .u32 key) w fun w =>
  LdA 2 b2 0 (At w) fun cs1 => DoV Try.prog (Instr.buildSlice 48 1 #[(0, .agg cs1)]) w fun v4 w => OpS v4 fun p3 l3 c4 => DoV Try.prog (Builtin.append_ #[48, 48] 48 #[.slice
  s1.1.1 s1.1.2.1 s1.1.2.2, .slice p3 l3 c4]) w fun v5 w => OpS v5 fun p4 l4 c5 => K1 ((p4, l4, c5), (IntKind.wrap .i64 (s1.2.1 + 1), ())) w) (LdA 2 b2 0 (At w) fun cs2 =>
  DoV Try.prog (Instr.buildSlice 48 1 #[(0, .agg cs2)]) w fun v6 w => OpS v6 fun p5 l5 c6 => DoV Try.prog (Builtin.append_ #[48, 48] 48 #[.slice s1.1.1 s1.1.2.1 s1.1.2.2,
  .slice p5 l5 c6]) w fun v7 w => OpS v7 fun p6 l6 c7 => K1 ((p6, l6, c7), (IntKind.wrap .i64 (s1.2.1 + 1), ())) w)) (Ret [] (R (.slice s1.1.1 s1.1.2.1 s1.1.2.2) w))) ((p,
  l, c1), (0, ())) w
theorem C_ravelinref15_drives {c : Array Value} {key : Int} {w : World} {R : Value → World → Prop} (h : F_ravelinref15_drives c key w R) : CallV Try.prog 54 #[.agg c, .int .u32 key] w R := by
  exact calls_of_F (args := [.agg c, .int .u32 key]) (mkAnn [(3, [(5, .slice), (6, (.int .i64))])] [] [] [] []) Try_mixed Try.func54 rfl rfl (by kernel_rfl) h
def F_ravelinref15_Claim (c : Array Value) (n : Int) (w : World) (R : Value → World → Prop) : Prop :=
  Alc 50 c w fun b w => Alc 50 (zc Try.prog 50) w fun b1 w => CallV Try.prog 51 #[.int .i64 n] w fun v w => OpB v fun g => Cb (!g) (Dr1 w fun w => LdA 7 b 0 (At w) fun cs =>
  StA 7 b1 0 cs w fun w => LdA 7 b1 0 (At w) fun cs1 => Ret [] (R (.tuple #[.int .u32 0, .int .i64 2, .agg cs1]) w)) (LdA 7 b 0 (At w) fun cs2 => CallV Try.prog 41 #[.agg
  cs2, .int .i64 n] w fun v1 w => OpB v1 fun g1 => Cb (!g1) (Dr1 w fun w => LdA 7 b 0 (At w) fun cs3 => StA 7 b1 0 cs3 w fun w => LdA 7 b1 0 (At w) fun cs4 => Ret [] (R
  (.tuple #[.int .u32 0, .int .i64 13, .agg cs4]) w)) (LdA 7 b 0 (At w) fun cs5 => CallV Try.prog 42 #[.agg cs5, .int .i64 n] w fun v2 w => OpB v2 fun g2 => Cb (!g2) (Dr1 w
  fun w => LdA 7 b 0 (At w) fun cs6 => StA 7 b1 0 cs6 w fun w => LdA 7 b1 0 (At w) fun cs7 => Ret [] (R (.tuple #[.int .u32 0, .int .i64 12, .agg cs7]) w)) (LdA 7 b 0 (At w)
  fun cs8 => CallV Try.prog 52 #[.agg cs8] w fun v3 w => OpI .u32 v3 fun n1 => Req (0 ≤ n ∧ n < 2) (LdV b (0 + Int.toNat n * 3 + 1) (At w) fun v4 => OpI .u32 v4 fun n2 => Cb
  (decide (n2 > n1)) (Req (0 ≤ n ∧ n < 2) (LdV b (0 + Int.toNat n * 3 + 1) (At w) fun v5 => OpI .u32 v5 fun n3 => CallV Try.prog 53 #[.int .u32 n3, .int .i64 n] w fun v6 w
  => T2 v6 fun v7 v8 => OpI .u32 v7 fun n4 => OpI .i64 v8 fun n5 => Cb (n5 != 0) (Dr1 w fun w => LdA 7 b 0 (At w) fun cs9 => StA 7 b1 0 cs9 w fun w => LdA 7 b1 0 (At w) fun
  cs10 => Ret [] (R (.tuple #[.int .u32 0, .int .i64 n5, .agg cs10]) w)) (Req (0 ≤ n ∧ n < 2) (StV b (0 + Int.toNat n * 3 + 1) (.int .u32 n4) w fun w => Req (0 ≤ n ∧ n < 2)
  (StV b (0 + Int.toNat n * 3 + 2) (.int .i64 0) w fun w => LdA 7 b 0 (At w) fun cs11 => CallV Try.prog 54 #[.agg cs11, .int .u32 n4] w fun v9 w => OpS v9 fun p l c1 => StV
  b 6 (.slice p l c1) w fun w => Dr1 w fun w => LdA 7 b 0 (At w) fun cs12 => StA 7 b1 0 cs12 w fun w => LdA 7 b1 0 (At w) fun cs13 => Ret [] (R (.tuple #[.int .u32 n4, .int
  .i64 0, .agg cs13]) w)))))) (CallV Try.prog 53 #[.int .u32 n1, .int .i64 n] w fun v10 w => T2 v10 fun v11 v12 => OpI .u32 v11 fun n6 => OpI .i64 v12 fun n7 => Cb (n7 != 0)
  (Dr1 w fun w => LdA 7 b 0 (At w) fun cs14 => StA 7 b1 0 cs14 w fun w => LdA 7 b1 0 (At w) fun cs15 => Ret [] (R (.tuple #[.int .u32 0, .int .i64 n7, .agg cs15]) w)) (Req
  (0 ≤ n ∧ n < 2) (StV b (0 + Int.toNat n * 3 + 1) (.int .u32 n6) w fun w => Req (0 ≤ n ∧ n < 2) (StV b (0 + Int.toNat n * 3 + 2) (.int .i64 0) w fun w => LdA 7 b 0 (At w)
  fun cs16 => CallV Try.prog 54 #[.agg cs16, .int .u32 n6] w fun v13 w => OpS v13 fun p1 l1 c2 => StV b 6 (.slice p1 l1 c2) w fun w => Dr1 w fun w => LdA 7 b 0 (At w) fun
  cs17 => StA 7 b1 0 cs17 w fun w => LdA 7 b1 0 (At w) fun cs18 => Ret [] (R (.tuple #[.int .u32 n6, .int .i64 0, .agg cs18]) w)))))))))
theorem C_ravelinref15_Claim {c : Array Value} {n : Int} {w : World} {R : Value → World → Prop} (h : F_ravelinref15_Claim c n w R) : CallV Try.prog 30 #[.agg c, .int .i64 n] w R := by
  exact calls_of_F (args := [.agg c, .int .i64 n]) (mkAnn [] [] [] [] []) Try_mixed Try.func30 rfl rfl (by kernel_rfl) h
def F_ravelinref15_Join (c : Array Value) (n : Int) (w : World) (R : Value → World → Prop) : Prop :=
  Alc 50 c w fun b w => Alc 50 (zc Try.prog 50) w fun b1 w => CallV Try.prog 51 #[.int .i64 n] w fun v w => OpB v fun g => Cb (!g) (Dr1 w fun w => LdA 7 b 0 (At w) fun cs =>
  StA 7 b1 0 cs w fun w => LdA 7 b1 0 (At w) fun cs1 => Ret [] (R (.tuple #[.int .i64 2, .agg cs1]) w)) (Req (0 ≤ n ∧ n < 2) (LdV b (0 + Int.toNat n * 3) (At w) fun v1 =>
  OpB v1 fun g1 => Cb (!g1) (Dr1 w fun w => LdA 7 b 0 (At w) fun cs2 => StA 7 b1 0 cs2 w fun w => LdA 7 b1 0 (At w) fun cs3 => Ret [] (R (.tuple #[.int .i64 13, .agg cs3])
  w)) (LdA 7 b 0 (At w) fun cs4 => CallV Try.prog 41 #[.agg cs4, .int .i64 (IntKind.wrap .i64 (1 - n))] w fun v2 w => OpB v2 fun g2 => Cb (!g2) (Dr1 w fun w => LdA 7 b 0 (At
  w) fun cs5 => StA 7 b1 0 cs5 w fun w => LdA 7 b1 0 (At w) fun cs6 => Ret [] (R (.tuple #[.int .i64 13, .agg cs6]) w)) (LdA 7 b 0 (At w) fun cs7 => CallV Try.prog 41 #[.agg
  cs7, .int .i64 n] w fun v3 w => OpB v3 fun g3 => Cb g3 (Req (0 ≤ n ∧ n < 2) (LdV b (0 + Int.toNat n * 3 + 1) (At w) fun v4 => OpI .u32 v4 fun n1 => Req (0 ≤ IntKind.wrap
  .i64 (1 - n) ∧ IntKind.wrap .i64 (1 - n) < 2) (LdV b (0 + Int.toNat (IntKind.wrap .i64 (1 - n)) * 3 + 1) (At w) fun v5 => OpI .u32 v5 fun n2 => Drw w fun w => Cb (n1 ==
  n2) (Dr1 w fun w => LdA 7 b 0 (At w) fun cs8 => StA 7 b1 0 cs8 w fun w => LdA 7 b1 0 (At w) fun cs9 => Ret [] (R (.tuple #[.int .i64 11, .agg cs9]) w)) (Dr1 w fun w => LdA
  7 b 0 (At w) fun cs10 => StA 7 b1 0 cs10 w fun w => LdA 7 b1 0 (At w) fun cs11 => Ret [] (R (.tuple #[.int .i64 12, .agg cs11]) w))))) (Req (0 ≤ IntKind.wrap .i64 (1 - n)
  ∧ IntKind.wrap .i64 (1 - n) < 2) (LdV b (0 + Int.toNat (IntKind.wrap .i64 (1 - n)) * 3 + 1) (At w) fun v6 => OpI .u32 v6 fun n3 => DoQ Try.prog (Instr.build 46 #[(0, .bool
  true), (1, .int .u32 n3), (2, .int .i64 0)]) (At w) fun v7 => OpA 3 v7 fun cs12 => Req (0 ≤ n ∧ n < 2) (StA 3 b (0 + Int.toNat n * 3) cs12 w fun w => Req (0 ≤ IntKind.wrap
  .i64 (1 - n) ∧ IntKind.wrap .i64 (1 - n) < 2) (StV b (0 + Int.toNat (IntKind.wrap .i64 (1 - n)) * 3 + 2) (.int .i64 0) w fun w => Dr1 w fun w => LdA 7 b 0 (At w) fun cs13
  => StA 7 b1 0 cs13 w fun w => LdA 7 b1 0 (At w) fun cs14 => Ret [] (R (.tuple #[.int .i64 0, .agg cs14]) w)))))))))
theorem C_ravelinref15_Join {c : Array Value} {n : Int} {w : World} {R : Value → World → Prop} (h : F_ravelinref15_Join c n w R) : CallV Try.prog 31 #[.agg c, .int .i64 n] w R := by
  exact calls_of_F (args := [.agg c, .int .i64 n]) (mkAnn [] [] [] [] []) Try_mixed Try.func31 rfl rfl (by kernel_rfl) h
def F_ravelinref15_drive (c : Array Value) (n : Int) (w : World) (R : Value → World → Prop) : Prop :=
  Alc 50 c w fun b w => Cb (decide (n ≥ 0)) (LdV b 6 (At w) fun v => OpS v fun p l c1 => Ret [] (R (.bool (decide (n < ((l : Nat) : Int)))) w)) (Ret [] (R (.bool false) w))
theorem C_ravelinref15_drive {c : Array Value} {n : Int} {w : World} {R : Value → World → Prop} (h : F_ravelinref15_drive c n w R) : CallV Try.prog 56 #[.agg c, .int .i64 n] w R := by
  exact calls_of_F (args := [.agg c, .int .i64 n]) (mkAnn [] [] [] [] []) Try_mixed Try.func56 rfl rfl (by kernel_rfl) h
def F_ravelinref15_Write (c : Array Value) (n : Int) (disk : Int) (w : World) (R : Value → World → Prop) : Prop :=
  Alc 50 c w fun b w => CallV Try.prog 51 #[.int .i64 n] w fun v w => OpB v fun g => Cb (!g) (Ret [] (R (.int .i64 2) w)) (LdA 7 b 0 (At w) fun cs => CallV Try.prog 56
  #[.agg cs, .int .i64 disk] w fun v1 w => OpB v1 fun g1 => Cb (!g1) (Ret [] (R (.int .i64 2) w)) (Req (0 ≤ n ∧ n < 2) (LdV b (0 + Int.toNat n * 3) (At w) fun v2 => OpB v2
  fun g2 => Cb (!g2) (Ret [] (R (.int .i64 13) w)) (LdV b 6 (At w) fun v3 => OpS v3 fun p l c1 => IdxS p l disk 2 fun b1 o => LdV b1 o (At w) fun v4 => OpB v4 fun g3 => Cb
  (!g3) (Ret [] (R (.int .i64 5) w)) (Req (0 ≤ n ∧ n < 2) (LdV b (0 + Int.toNat n * 3 + 1) (At w) fun v5 => OpI .u32 v5 fun n1 => LdV b 6 (At w) fun v6 => OpS v6 fun p1 l1
  c2 => IdxS p1 l1 disk 2 fun b2 o1 => LdV b2 (o1 + 1) (At w) fun v7 => OpI .u32 v7 fun n2 => Drw w fun w => Cb (decide (n1 < n2)) (Ret [] (R (.int .i64 6) w)) (Ret [] (R
  (.int .i64 0) w))))))))
theorem C_ravelinref15_Write {c : Array Value} {n : Int} {disk : Int} {w : World} {R : Value → World → Prop} (h : F_ravelinref15_Write c n disk w R) : CallV Try.prog 33 #[.agg c, .int .i64 n, .int .i64 disk] w R := by
  exact calls_of_F (args := [.agg c, .int .i64 n, .int .i64 disk]) (mkAnn [] [] [] [] []) Try_mixed Try.func33 rfl rfl (by kernel_rfl) h
def F_ravelinref15_Crash (c : Array Value) (n : Int) (w : World) (R : Value → World → Prop) : Prop :=
  Alc 50 c w fun b w => Alc 50 (zc Try.prog 50) w fun b1 w => CallV Try.prog 51 #[.int .i64 n] w fun v w => OpB v fun g => Cb (!g) (Dr1 w fun w => LdA 7 b 0 (At w) fun cs =>
  StA 7 b1 0 cs w fun w => LdA 7 b1 0 (At w) fun cs1 => Ret [] (R (.tuple #[.int .i64 2, .agg cs1]) w)) (Req (0 ≤ n ∧ n < 2) (LdV b (0 + Int.toNat n * 3) (At w) fun v1 =>
  OpB v1 fun g1 => Cb (!g1) (Dr1 w fun w => LdA 7 b 0 (At w) fun cs2 => StA 7 b1 0 cs2 w fun w => LdA 7 b1 0 (At w) fun cs3 => Ret [] (R (.tuple #[.int .i64 13, .agg cs3])
  w)) (Req (0 ≤ n ∧ n < 2) (StV b (0 + Int.toNat n * 3) (.bool false) w fun w => Dr1 w fun w => LdA 7 b 0 (At w) fun cs4 => StA 7 b1 0 cs4 w fun w => LdA 7 b1 0 (At w) fun
  cs5 => Ret [] (R (.tuple #[.int .i64 0, .agg cs5]) w)))))
theorem C_ravelinref15_Crash {c : Array Value} {n : Int} {w : World} {R : Value → World → Prop} (h : F_ravelinref15_Crash c n w R) : CallV Try.prog 34 #[.agg c, .int .i64 n] w R := by
  exact calls_of_F (args := [.agg c, .int .i64 n]) (mkAnn [] [] [] [] []) Try_mixed Try.func34 rfl rfl (by kernel_rfl) h
def F_ravelinref15_Restart (c : Array Value) (n : Int) (w : World) (R : Value → World → Prop) : Prop :=
  Alc 50 c w fun b w => Alc 50 (zc Try.prog 50) w fun b1 w => CallV Try.prog 51 #[.int .i64 n] w fun v w => OpB v fun g => Cb (!g) (Dr1 w fun w => LdA 7 b 0 (At w) fun cs =>
  StA 7 b1 0 cs w fun w => LdA 7 b1 0 (At w) fun cs1 => Ret [] (R (.tuple #[.int .i64 2, .agg cs1]) w)) (Req (0 ≤ n ∧ n < 2) (LdV b (0 + Int.toNat n * 3) (At w) fun v1 =>
  OpB v1 fun g1 => Cb g1 (Dr1 w fun w => LdA 7 b 0 (At w) fun cs2 => StA 7 b1 0 cs2 w fun w => LdA 7 b1 0 (At w) fun cs3 => Ret [] (R (.tuple #[.int .i64 11, .agg cs3]) w))
  (Req (0 ≤ n ∧ n < 2) (StV b (0 + Int.toNat n * 3) (.bool true) w fun w => Req (0 ≤ n ∧ n < 2) (StV b (0 + Int.toNat n * 3 + 2) (.int .i64 0) w fun w => Dr1 w fun w => LdA
  7 b 0 (At w) fun cs4 => StA 7 b1 0 cs4 w fun w => LdA 7 b1 0 (At w) fun cs5 => Ret [] (R (.tuple #[.int .i64 0, .agg cs5]) w))))))
theorem C_ravelinref15_Restart {c : Array Value} {n : Int} {w : World} {R : Value → World → Prop} (h : F_ravelinref15_Restart c n w R) : CallV Try.prog 35 #[.agg c, .int .i64 n] w R := by
  exact calls_of_F (args := [.agg c, .int .i64 n]) (mkAnn [] [] [] [] []) Try_mixed Try.func35 rfl rfl (by kernel_rfl) h
def F_ravelinref15_Lose (c : Array Value) (disk : Int) (w : World) (R : Value → World → Prop) : Prop :=
  Alc 50 c w fun b w => Alc 50 (zc Try.prog 50) w fun b1 w => LdA 7 b 0 (At w) fun cs => CallV Try.prog 56 #[.agg cs, .int .i64 disk] w fun v w => OpB v fun g => Cb (!g)
  (Dr1 w fun w => LdA 7 b 0 (At w) fun cs1 => StA 7 b1 0 cs1 w fun w => LdA 7 b1 0 (At w) fun cs2 => Ret [] (R (.tuple #[.int .i64 2, .agg cs2]) w)) (LdV b 6 (At w) fun v1
  => OpS v1 fun p l c1 => IdxS p l disk 2 fun b2 o => LdV b2 o (At w) fun v2 => OpB v2 fun g1 => Cb (!g1) (Dr1 w fun w => LdA 7 b 0 (At w) fun cs3 => StA 7 b1 0 cs3 w fun w
  => LdA 7 b1 0 (At w) fun cs4 => Ret [] (R (.tuple #[.int .i64 5, .agg cs4]) w)) (DoV Try.prog (Instr.buildSlice 48 0 #[]) w fun v3 w => OpS v3 fun p1 l1 c2 => LdV b 6 (At
  w) fun v4 => OpS v4 fun p2 l2 c3 => DoV Try.prog (Builtin.append_ #[48, 48] 48 #[.slice p1 l1 c2, .slice p2 l2 c3]) w fun v5 w => OpS v5 fun p3 l3 c4 => IdxS p3 l3 disk 2
  fun b3 o1 => StV b3 o1 (.bool false) w fun w => StV b 6 (.slice p3 l3 c4) w fun w => Dr1 w fun w => LdA 7 b 0 (At w) fun cs5 => StA 7 b1 0 cs5 w fun w => LdA 7 b1 0 (At w)
  fun cs6 => Ret [] (R (.tuple #[.int .i64 0, .agg cs6]) w)))
theorem C_ravelinref15_Lose {c : Array Value} {disk : Int} {w : World} {R : Value → World → Prop} (h : F_ravelinref15_Lose c disk w R) : CallV Try.prog 37 #[.agg c, .int .i64 disk] w R := by
  exact calls_of_F (args := [.agg c, .int .i64 disk]) (mkAnn [] [] [] [] []) Try_mixed Try.func37 rfl rfl (by kernel_rfl) h
def F_ravelinref15_Renew (c : Array Value) (disk : Int) (w : World) (R : Value → World → Prop) : Prop :=
  Alc 50 c w fun b w => Alc 50 (zc Try.prog 50) w fun b1 w => LdA 7 b 0 (At w) fun cs => CallV Try.prog 56 #[.agg cs, .int .i64 disk] w fun v w => OpB v fun g => Cb (!g)
  (Dr1 w fun w => LdA 7 b 0 (At w) fun cs1 => StA 7 b1 0 cs1 w fun w => LdA 7 b1 0 (At w) fun cs2 => Ret [] (R (.tuple #[.int .i64 2, .agg cs2]) w)) (LdV b 6 (At w) fun v1
  => OpS v1 fun p l c1 => IdxS p l disk 2 fun b2 o => LdV b2 o (At w) fun v2 => OpB v2 fun g1 => Cb g1 (Dr1 w fun w => LdA 7 b 0 (At w) fun cs3 => StA 7 b1 0 cs3 w fun w =>
  LdA 7 b1 0 (At w) fun cs4 => Ret [] (R (.tuple #[.int .i64 11, .agg cs4]) w)) (DoV Try.prog (Instr.buildSlice 48 0 #[]) w fun v3 w => OpS v3 fun p1 l1 c2 => LdV b 6 (At w)
  fun v4 => OpS v4 fun p2 l2 c3 => DoV Try.prog (Builtin.append_ #[48, 48] 48 #[.slice p1 l1 c2, .slice p2 l2 c3]) w fun v5 w => OpS v5 fun p3 l3 c4 => LdA 7 b 0 (At w) fun
  cs5 => CallV Try.prog 52 #[.agg cs5] w fun v6 w => OpI .u32 v6 fun n => DoQ Try.prog (Instr.build 87 #[(0, .bool true), (1, .int .u32 n)]) (At w) fun v7 => OpA 2 v7 fun
  cs6 => IdxS p3 l3 disk 2 fun b3 o1 => StA 2 b3 o1 cs6 w fun w => StV b 6 (.slice p3 l3 c4) w fun w => Dr1 w fun w => LdA 7 b 0 (At w) fun cs7 => StA 7 b1 0 cs7 w fun w =>
  LdA 7 b1 0 (At w) fun cs8 => Ret [] (R (.tuple #[.int .i64 0, .agg cs8]) w)))
theorem C_ravelinref15_Renew {c : Array Value} {disk : Int} {w : World} {R : Value → World → Prop} (h : F_ravelinref15_Renew c disk w R) : CallV Try.prog 39 #[.agg c, .int .i64 disk] w R := by
  exact calls_of_F (args := [.agg c, .int .i64 disk]) (mkAnn [] [] [] [] []) Try_mixed Try.func39 rfl rfl (by kernel_rfl) h
end Go.Proofs
