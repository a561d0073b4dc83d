/- PRINTED BY pr.py (own program): what the evaluator of <Name>Ev makes of the code of some functions. -/
import Derived.Test.YtdeaollkgckppaaChecked
import Derived.Test.YtdeaollkgckppaaEv
import Derived.Test.YtdeaollkgckppaaMix
namespace Go.Proofs
open Go.Ev
set_option linter.unusedVariables false
set_option maxRecDepth 100000
def F_stripe_New (g : Array Value) (m : Nat) (w : World) (R : Value → World → Prop) : Prop :=
  Alc 25 g w fun b w => Alc 29 (zc Try.prog 29) w fun b1 w => LdA 3 b 0 (At w) fun cs => CallV Try.prog 59 #[.agg cs] w fun v w => T2 v fun v1 v2 => OpI .i64 v1 fun n => OpI
  .i64 v2 fun n1 => Cb (n1 != 0) (DoQ Try.prog (Instr.build 29 #[]) (At w) fun v3 => OpA 4 v3 fun cs1 => StA 4 b1 0 cs1 w fun w => LdA 4 b1 0 (At w) fun cs2 => Ret [] (R
  (.tuple #[.agg cs2, .int .i64 n1]) w)) (LdA 3 b 0 (At w) fun cs3 => DoQ Try.prog (Instr.build 29 #[(0, .agg cs3)]) (At w) fun v4 => OpA 4 v4 fun cs4 => Alc 29 (zc Try.prog
  29) w fun b2 w => StA 4 b2 0 cs4 w fun w => CallV Try.prog 30 #[] w fun v5 w => OpN v5 fun b3 o => LdV b 0 (At w) fun v6 => OpI .i64 v6 fun n2 => LoopC (σ := Int × Unit)
  (fun _ s1 w K1 => Cb (decide (s1.1 < n2)) (CallV Try.prog 60 #[.int .i64 n, .pointer (some ⟨b3, o, none⟩)] w fun v7 w => T2 v7 fun v8 v9 => OpN v8 fun b4 o1 => OpI .i64 v9
  fun n3 => LoopC (σ := Int × Unit) (fun _ s2 w K2 => Cb (decide (s2.1 < n)) (DoQ Try.prog (Instr.build 23 #[]) (At w) fun v10 => OpA 16 v10 fun cs5 => CallV Try.prog 48
  #[.int .i64 s2.1, .agg cs5] w fun v11 w => OpA 17 v11 fun cs6 => DoV Try.prog (Instr.buildSlice 63 1 #[(0, .agg cs6)]) w fun v12 w => OpS v12 fun p l c => CallV Try.prog
  50 #[.pointer (some ⟨b4, o1, none⟩), .int .i64 s2.1, .slice p l c, .int .u32 0] w fun v13 w => T2 v13 fun v14 v15 => OpI .i64 v14 fun n4 => OpI .i64 v15 fun n5 => K2
  (IntKind.wrap .i64 (s2.1 + 1), ()) w) (HeldR w fun S w => LdV b2 3 S fun v16 => OpS v16 fun p1 l1 c1 => CallV Try.prog 61 #[.pointer (some ⟨b4, o1, none⟩), .pointer (some
  ⟨m, 0, none⟩)] w fun v17 w => OpN v17 fun b5 o2 => Hld (S w) (DoV Try.prog (Instr.buildSlice 27 1 #[(0, .pointer (some ⟨b5, o2, none⟩))]) w fun v18 w => OpS v18 fun p2 l2
  c2 => Hld (S w) (DoV Try.prog (Builtin.append_ #[27, 27] 27 #[.slice p1 l1 c1, .slice p2 l2 c2]) w fun v19 w => OpS v19 fun p3 l3 c3 => Hld (S w) (StV b2 3 (.slice p3 l3
  c3) w fun w => K1 (IntKind.wrap .i64 (s1.1 + 1), ()) w))))) (0, ()) w) (LdA 4 b2 0 (At w) fun cs7 => StA 4 b1 0 cs7 w fun w => LdA 4 b1 0 (At w) fun cs8 => Ret [] (R
  (.tuple #[.agg cs8, .int .i64 0]) w))) (0, ()) w)
theorem C_stripe_New {g : Array Value} {m : Nat} {w : World} {R : Value → World → Prop} (h : F_stripe_New g m w R) : CallV Try.prog 31 #[.agg g, .pointer (some ⟨m, 0, none⟩)] w R := by
  exact calls_of_F (args := [.agg g, .pointer (some ⟨m, 0, none⟩)]) (mkAnn [(9, [(30, (.int .i64))]), (12, [(39, (.int .i64))])] [] [] [] [54, 100027, 100035, 100054, 300000]) Try_mixed Try.func31 rfl rfl (by kernel_rfl) h
def F_stripe_Check (s : Array Value) (w : World) (R : Value → World → Prop) : Prop :=
  Alc 29 s w fun b w => LdA 3 b 0 (At w) fun cs => CallV Try.prog 59 #[.agg cs] w fun v w => T2 v fun v1 v2 => OpI .i64 v1 fun n => OpI .i64 v2 fun n1 => Cb (n1 != 0) (Ret
  [] (R (.int .i64 1) w)) (LdV b 3 (At w) fun v3 => OpS v3 fun p l c => LdV b 0 (At w) fun v4 => OpI .i64 v4 fun n2 => Cb (((l : Nat) : Int) != n2) (Ret [] (R (.int .i64 1)
  w)) (LdV b 3 (At w) fun v5 => OpS v5 fun p1 l1 c1 => LoopC (σ := Int × Unit) (fun _ s1 w K1 => Cb (decide (s1.1 < ((l1 : Nat) : Int))) (IdxS p1 l1 s1.1 1 fun b1 o => LdV
  b1 o (At w) fun v6 => OpN v6 fun b2 o1 => CallV Try.prog 49 #[.pointer (some ⟨b2, o1, none⟩)] w fun v7 w => OpI .i64 v7 fun n3 => Cb (n3 != n) (Ret [] (R (.int .i64 1) w))
  (LdV b 3 (At w) fun v8 => OpS v8 fun p2 l2 c2 => Slc l2 c2 none (some s1.1) none fun l3 h m => LoopC (σ := Int × Unit) (fun _ s2 w K2 => Cb (decide (s2.1 < ((h - l3 : Nat)
  : Int))) (IdxS (slcP 1 l3 m p2) (h - l3) s2.1 1 fun b3 o2 => LdV b3 o2 (At w) fun v9 => OpN v9 fun b4 o3 => EqB Try.prog .eql 59 (.tmp 51) (.tmp 52) (.pointer (some ⟨b4,
  o3, none⟩) : Value) (.pointer (some ⟨b2, o1, none⟩) : Value) (At w) fun g => Cb g (Ret [] (R (.int .i64 1) w)) (K2 (IntKind.wrap .i64 (s2.1 + 1), ()) w)) (K1 (IntKind.wrap
  .i64 (s1.1 + 1), ()) w)) (0, ()) w)) (Ret [] (R (.int .i64 0) w))) (0, ()) w))
theorem C_stripe_Check {s : Array Value} {w : World} {R : Value → World → Prop} (h : F_stripe_Check s w R) : CallV Try.prog 33 #[.agg s] w R := by
  exact calls_of_F (args := [.agg s]) (mkAnn [(5, [(29, (.int .i64))]), (10, [(47, (.int .i64))])] [] [] [] []) Try_mixed Try.func33 rfl rfl (by kernel_rfl) h
def F_stripe_cell (s : Array Value) (p : Array Value) (w : World) (R : Value → World → Prop) : Prop :=
  Alc 29 s w fun b w => Alc 53 p w fun b1 w => Alc 23 (zc Try.prog 23) w fun b2 w => HeldR w fun S w => LdV b 3 S fun v => OpS v fun p1 l c => LdV b1 0 S fun v1 => OpI .i64
  v1 fun n => IdxS p1 l n 1 fun b3 o => LdV b3 o S fun v2 => OpN v2 fun b4 o1 => LdV b1 1 S fun v3 => OpI .i64 v3 fun n1 => (CallV Try.prog 21 #[.pointer (some ⟨b4, o1,
  none⟩), .int .i64 n1] w fun v4 w => T2 v4 fun v5 v6 => OpA 17 v5 fun cs => OpI .i64 v6 fun n2 => Hld (S w) (Alc 57 (zc Try.prog 57) w fun b5 w => Hld (S w) (StA 17 b5 0 cs
  w fun w => Hld (S w) (Cb (n2 == 4) (DoQ Try.prog (Instr.build 23 #[]) (At w) fun v7 => OpA 16 v7 fun cs1 => StA 16 b2 0 cs1 w fun w => LdA 16 b2 0 (At w) fun cs2 => Ret []
  (R (.tuple #[.agg cs2, .bool false, .int .i64 n2]) w)) (Cb (n2 != 0) (DoQ Try.prog (Instr.build 23 #[]) (At w) fun v8 => OpA 16 v8 fun cs3 => StA 16 b2 0 cs3 w fun w =>
  LdA 16 b2 0 (At w) fun cs4 => Ret [] (R (.tuple #[.agg cs4, .bool false, .int .i64 0]) w)) (LdV b1 1 (At w) fun v9 => OpI .i64 v9 fun n3 => LdA 17 b5 0 (At w) fun cs5 =>
  CallV Try.prog 73 #[.int .i64 n3, .agg cs5] w fun v10 w => OpB v10 fun g => Cb (!g) (DoQ Try.prog (Instr.build 23 #[]) (At w) fun v11 => OpA 16 v11 fun cs6 => StA 16 b2 0
  cs6 w fun w => LdA 16 b2 0 (At w) fun cs7 => Ret [] (R (.tuple #[.agg cs7, .bool false, .int .i64 0]) w)) (LdA 16 b5 0 (At w) fun cs8 => StA 16 b2 0 cs8 w fun w => LdA 16
  b2 0 (At w) fun cs9 => Ret [] (R (.tuple #[.agg cs9, .bool true, .int .i64 0]) w)))))))) ∧ (Alc 57 (zc Try.prog 57) w fun b6 w => Hld (S w) (CallV Try.prog 21 #[.pointer
  (some ⟨b4, o1, none⟩), .int .i64 n1] w fun v12 w => T2 v12 fun v13 v14 => OpA 17 v13 fun cs10 => OpI .i64 v14 fun n4 => Hld (S w) (StA 17 b6 0 cs10 w fun w => Hld (S w)
  (Cb (n4 == 4) (DoQ Try.prog (Instr.build 23 #[]) (At w) fun v15 => OpA 16 v15 fun cs11 => StA 16 b2 0 cs11 w fun w => LdA 16 b2 0 (At w) fun cs12 => Ret [] (R (.tuple
  #[.agg cs12, .bool false, .int .i64 n4]) w)) (Cb (n4 != 0) (DoQ Try.prog (Instr.build 23 #[]) (At w) fun v16 => OpA 16 v16 fun cs13 => StA 16 b2 0 cs13 w fun w => LdA 16
  b2 0 (At w) fun cs14 => Ret [] (R (.tuple #[.agg cs14, .bool false, .int .i64 0]) w)) (LdV b1 1 (At w) fun v17 => OpI .i64 v17 fun n5 => LdA 17 b6 0 (At w) fun cs15 =>
  CallV Try.prog 73 #[.int .i64 n5, .agg cs15] w fun v18 w => OpB v18 fun g1 => Cb (!g1) (DoQ Try.prog (Instr.build 23 #[]) (At w) fun v19 => OpA 16 v19 fun cs16 => StA 16
  b2 0 cs16 w fun w => LdA 16 b2 0 (At w) fun cs17 => Ret [] (R (.tuple #[.agg cs17, .bool false, .int .i64 0]) w)) (LdA 16 b6 0 (At w) fun cs18 => StA 16 b2 0 cs18 w fun w
  => LdA 16 b2 0 (At w) fun cs19 => Ret [] (R (.tuple #[.agg cs19, .bool true, .int .i64 0]) w))))))))
theorem C_stripe_cell {s : Array Value} {p : Array Value} {w : World} {R : Value → World → Prop} (h : F_stripe_cell s p w R) : CallV Try.prog 55 #[.agg s, .agg p] w R := by
  exact calls_of_F (args := [.agg s, .agg p]) (mkAnn [] [] [] [] [18]) Try_mixed Try.func55 rfl rfl (by kernel_rfl) h
def F_stripe_Row (s : Array Value) (stripe : Int) (off : Int) (w : World) (R : Value → World → Prop) : Prop :=
  Alc 29 s w fun b w => LdA 4 b 0 (At w) fun cs => CallV Try.prog 33 #[.agg cs] w fun v w => OpI .i64 v fun n => Cb (n != 0) (Ret [] (R (.tuple #[.slice none 0 0, .slice
  none 0 0, .int .i64 n]) w)) (LdA 3 b 0 (At w) fun cs1 => CallV Try.prog 46 #[.agg cs1, .int .i64 stripe, .int .i64 off] w fun v1 w => T2 v1 fun v2 v3 => OpS v2 fun p l c
  => OpI .i64 v3 fun n1 => Cb (n1 != 0) (Ret [] (R (.tuple #[.slice none 0 0, .slice none 0 0, .int .i64 n1]) w)) (DoV Try.prog (Instr.makeSlice 111 (.int .i64 ((l : Nat) :
  Int)) (.int .i64 ((l : Nat) : Int))) w fun v4 w => OpS v4 fun p1 l1 c1 => LoopC (σ := (Option Addr × Nat × Nat) × (Option Addr × Nat × Nat) × Int × Unit) (fun _ s1 w K1 =>
  Cb (decide (s1.2.2.1 < ((l : Nat) : Int))) (IdxS p l s1.2.2.1 2 fun b1 o => LdA 2 b1 o (At w) fun cs2 => Alc 53 (zc Try.prog 53) w fun b2 w => StA 2 b2 0 cs2 w fun w =>
  LdA 4 b 0 (At w) fun cs3 => LdA 2 b2 0 (At w) fun cs4 => CallV Try.prog 55 #[.agg cs3, .agg cs4] w fun v5 w => T3 v5 fun v6 v7 v8 => OpA 16 v6 fun cs5 => OpB v7 fun g =>
  OpI .i64 v8 fun n2 => Alc 23 (zc Try.prog 23) w fun b3 w => StA 16 b3 0 cs5 w fun w => Cb (n2 != 0) (Ret [] (R (.tuple #[.slice none 0 0, .slice none 0 0, .int .i64 n2])
  w)) (Cb g (Slc 16 16 none none none fun l2 h m => IdxS p1 l1 s1.2.2.1 1 fun b4 o1 => StV b4 o1 (.slice (slcP 1 l2 m (some ⟨b3, 0, none⟩)) (h - l2) (m - l2)) w fun w => K1
  ((s1.1.1, s1.1.2.1, s1.1.2.2), ((s1.2.1.1, s1.2.1.2.1, s1.2.1.2.2), (IntKind.wrap .i64 (s1.2.2.1 + 1), ()))) w) (DoV Try.prog (Instr.buildSlice 68 1 #[(0, .int .i64
  s1.2.2.1)]) w fun v9 w => OpS v9 fun p2 l3 c2 => DoV Try.prog (Builtin.append_ #[68, 68] 68 #[.slice s1.2.1.1 s1.2.1.2.1 s1.2.1.2.2, .slice p2 l3 c2]) w fun v10 w => OpS
  v10 fun p3 l4 c3 => K1 ((s1.1.1, s1.1.2.1, s1.1.2.2), ((p3, l4, c3), (IntKind.wrap .i64 (s1.2.2.1 + 1), ()))) w))) (Cb (decide (((s1.2.1.2.1 : Nat) : Int) > 2)) (Ret [] (R
  (.tuple #[.slice none 0 0, .slice none 0 0, .int .i64 8]) w)) (HeldR w fun S w => Slc l1 c1 none (some (IntKind.wrap .i64 (((l1 : Nat) : Int) - 2))) none fun l5 h1 m1 =>
  IdxS p1 l1 (IntKind.wrap .i64 (((l1 : Nat) : Int) - 2)) 1 fun b5 o2 => LdV b5 o2 (At w) fun v11 => OpS v11 fun p4 l6 c4 => IdxS p1 l1 (IntKind.wrap .i64 ((IntKind.wrap
  .i64 (((l1 : Nat) : Int) - 2)) + 1)) 1 fun b6 o3 => LdV b6 o3 (At w) fun v12 => OpS v12 fun p5 l7 c5 => CallV Try.prog 56 #[.slice (slcP 1 l5 m1 p1) (h1 - l5) (m1 - l5),
  .slice p4 l6 c4, .slice p5 l7 c5] w fun v13 w => T4 v13 fun v14 v15 v16 v17 => OpS v14 fun p6 l8 c6 => OpS v15 fun p7 l9 c7 => OpS v16 fun p8 l10 c8 => OpI .i64 v17 fun n3
  => Hld (S w) (DoV Try.prog (Instr.buildSlice 111 2 #[(0, .slice p7 l9 c7), (1, .slice p8 l10 c8)]) w fun v18 w => OpS v18 fun p9 l11 c9 => DoV Try.prog (Builtin.append_
  #[111, 111] 111 #[.slice p6 l8 c6, .slice p9 l11 c9]) w fun v19 w => OpS v19 fun p10 l12 c10 => LoopC (σ := (Option Addr × Nat × Nat) × Int × Unit) (fun _ s2 w K2 => Cb
  (decide (s2.2.1 < ((l12 : Nat) : Int))) (IdxS p10 l12 s2.2.1 1 fun b7 o4 => LdV b7 o4 (At w) fun v20 => OpS v20 fun p11 l13 c11 => SlArr p11 l13 16 fun b8 o5 => LdA 16 b8
  o5 (At w) fun cs6 => DoV Try.prog (Instr.buildSlice 67 1 #[(0, .agg cs6)]) w fun v21 w => OpS v21 fun p12 l14 c12 => DoV Try.prog (Builtin.append_ #[67, 67] 67 #[.slice
  s2.1.1 s2.1.2.1 s2.1.2.2, .slice p12 l14 c12]) w fun v22 w => OpS v22 fun p13 l15 c13 => K2 ((p13, l15, c13), (IntKind.wrap .i64 (s2.2.1 + 1), ())) w) (Ret [] (R (.tuple
  #[.slice s2.1.1 s2.1.2.1 s2.1.2.2, .slice s1.2.1.1 s1.2.1.2.1 s1.2.1.2.2, .int .i64 0]) w))) ((s1.1.1, s1.1.2.1, s1.1.2.2), (0, ())) w)))) ((none, 0, 0), ((none, 0, 0),
  (0, ()))) w))
theorem C_stripe_Row {s : Array Value} {stripe : Int} {off : Int} {w : World} {R : Value → World → Prop} (h : F_stripe_Row s stripe off w R) : CallV Try.prog 23 #[.agg s, .int .i64 stripe, .int .i64 off] w R := by
  exact calls_of_F (args := [.agg s, .int .i64 stripe, .int .i64 off]) (mkAnn [(9, [(6, .slice), (7, .slice), (45, (.int .i64))]), (23, [(6, .slice), (102, (.int .i64))])] [] [] [] [91]) Try_mixed Try.func23 rfl rfl (by kernel_rfl) h
def F_stripe_Read (s : Array Value) (lba : Int) (w : World) (R : Value → World → Prop) : Prop :=
  Alc 29 s w fun b w => Alc 23 (zc Try.prog 23) w fun b1 w => LdA 4 b 0 (At w) fun cs => CallV Try.prog 33 #[.agg cs] w fun v w => OpI .i64 v fun n => Cb (n != 0) (DoQ
  Try.prog (Instr.build 23 #[]) (At w) fun v1 => OpA 16 v1 fun cs1 => StA 16 b1 0 cs1 w fun w => LdA 16 b1 0 (At w) fun cs2 => Ret [] (R (.tuple #[.agg cs2, .int .i64 n])
  w)) (LdA 3 b 0 (At w) fun cs3 => CallV Try.prog 44 #[.agg cs3, .int .i64 lba] w fun v2 w => T3 v2 fun v3 v4 v5 => OpA 3 v3 fun cs4 => OpA 2 v4 fun cs5 => OpI .i64 v5 fun
  n1 => Alc 51 (zc Try.prog 51) w fun b2 w => Alc 53 (zc Try.prog 53) w fun b3 w => StA 3 b2 0 cs4 w fun w => StA 2 b3 0 cs5 w fun w => Cb (n1 != 0) (DoQ Try.prog
  (Instr.build 23 #[]) (At w) fun v6 => OpA 16 v6 fun cs6 => StA 16 b1 0 cs6 w fun w => LdA 16 b1 0 (At w) fun cs7 => Ret [] (R (.tuple #[.agg cs7, .int .i64 n1]) w)) (LdA 4
  b 0 (At w) fun cs8 => LdA 2 b3 0 (At w) fun cs9 => CallV Try.prog 55 #[.agg cs8, .agg cs9] w fun v7 w => T3 v7 fun v8 v9 v10 => OpA 16 v8 fun cs10 => OpB v9 fun g => OpI
  .i64 v10 fun n2 => Alc 23 (zc Try.prog 23) w fun b4 w => StA 16 b4 0 cs10 w fun w => Req (g = g) (Req (g = g) (Cb (cond g true (n2 != 0)) (LdA 16 b4 0 (At w) fun cs11 =>
  StA 16 b1 0 cs11 w fun w => LdA 16 b1 0 (At w) fun cs12 => Ret [] (R (.tuple #[.agg cs12, .int .i64 n2]) w)) (LdA 4 b 0 (At w) fun cs13 => LdV b2 0 (At w) fun v11 => OpI
  .i64 v11 fun n3 => LdV b2 2 (At w) fun v12 => OpI .i64 v12 fun n4 => CallV Try.prog 23 #[.agg cs13, .int .i64 n3, .int .i64 n4] w fun v13 w => T3 v13 fun v14 v15 v16 =>
  OpS v14 fun p l c => OpS v15 fun p1 l1 c1 => OpI .i64 v16 fun n5 => Cb (n5 != 0) (DoQ Try.prog (Instr.build 23 #[]) (At w) fun v17 => OpA 16 v17 fun cs14 => StA 16 b1 0
  cs14 w fun w => LdA 16 b1 0 (At w) fun cs15 => Ret [] (R (.tuple #[.agg cs15, .int .i64 n5]) w)) (LdV b2 1 (At w) fun v18 => OpI .i64 v18 fun n6 => IdxS p l n6 16 fun b5 o
  => LdA 16 b5 o (At w) fun cs16 => StA 16 b1 0 cs16 w fun w => LdA 16 b1 0 (At w) fun cs17 => Ret [] (R (.tuple #[.agg cs17, .int .i64 0]) w)))))))
theorem C_stripe_Read {s : Array Value} {lba : Int} {w : World} {R : Value → World → Prop} (h : F_stripe_Read s lba w R) : CallV Try.prog 25 #[.agg s, .int .i64 lba] w R := by
  exact calls_of_F (args := [.agg s, .int .i64 lba]) (mkAnn [] [] [] [] []) Try_mixed Try.func25 rfl rfl (by kernel_rfl) h
def F_stripe_Plan (s : Array Value) (lba : Int) (data : Array Value) (w : World) (R : Value → World → Prop) : Prop :=
  Alc 29 s w fun b w => Alc 23 data w fun b1 w => LdA 4 b 0 (At w) fun cs => CallV Try.prog 33 #[.agg cs] w fun v w => OpI .i64 v fun n => Cb (n != 0) (Ret [] (R (.tuple
  #[.slice none 0 0, .int .i64 n]) w)) (LdA 3 b 0 (At w) fun cs1 => CallV Try.prog 44 #[.agg cs1, .int .i64 lba] w fun v1 w => T3 v1 fun v2 v3 v4 => OpA 3 v2 fun cs2 => OpA
  2 v3 fun cs3 => OpI .i64 v4 fun n1 => Alc 51 (zc Try.prog 51) w fun b2 w => Alc 53 (zc Try.prog 53) w fun b3 w => StA 3 b2 0 cs2 w fun w => StA 2 b3 0 cs3 w fun w => Cb
  (n1 != 0) (Ret [] (R (.tuple #[.slice none 0 0, .int .i64 n1]) w)) (LdA 4 b 0 (At w) fun cs4 => LdV b2 0 (At w) fun v5 => OpI .i64 v5 fun n2 => LdV b2 2 (At w) fun v6 =>
  OpI .i64 v6 fun n3 => CallV Try.prog 23 #[.agg cs4, .int .i64 n2, .int .i64 n3] w fun v7 w => T3 v7 fun v8 v9 v10 => OpS v8 fun p l c => OpS v9 fun p1 l1 c1 => OpI .i64
  v10 fun n4 => Cb (n4 != 0) (Ret [] (R (.tuple #[.slice none 0 0, .int .i64 n4]) w)) (LdV b2 1 (At w) fun v11 => OpI .i64 v11 fun n5 => LdA 16 b1 0 (At w) fun cs5 => IdxS p
  l n5 16 fun b4 o => StA 16 b4 o cs5 w fun w => LoopC (σ := (Option Addr × Nat × Nat) × Int × Unit) (fun _ s1 w K1 => Cb (decide (s1.2.1 < IntKind.wrap .i64 (((l : Nat) :
  Int) - 2))) (IdxS p l s1.2.1 16 fun b5 o1 => Slc 16 16 none none none fun l2 h m => DoV Try.prog (Instr.buildSlice 111 1 #[(0, .slice (slcP 1 l2 m (some ⟨b5, o1, none⟩))
  (h - l2) (m - l2))]) w fun v12 w => OpS v12 fun p2 l3 c2 => DoV Try.prog (Builtin.append_ #[111, 111] 111 #[.slice s1.1.1 s1.1.2.1 s1.1.2.2, .slice p2 l3 c2]) w fun v13 w
  => OpS v13 fun p3 l4 c3 => K1 ((p3, l4, c3), (IntKind.wrap .i64 (s1.2.1 + 1), ())) w) (CallV Try.prog 45 #[.slice s1.1.1 s1.1.2.1 s1.1.2.2] w fun v14 w => T3 v14 fun v15
  v16 v17 => OpS v15 fun p4 l5 c4 => OpS v16 fun p5 l6 c5 => OpI .i64 v17 fun n6 => HeldR w fun S w => SlArr p4 l5 16 fun b6 o2 => LdA 16 b6 o2 (At w) fun cs6 => SlArr p5 l6
  16 fun b7 o3 => LdA 16 b7 o3 (At w) fun cs7 => IdxS p l (IntKind.wrap .i64 (((l : Nat) : Int) - 2)) 16 fun b8 o4 => StA 16 b8 o4 cs6 w fun w => Hld (S w) (IdxS p l
  (IntKind.wrap .i64 ((IntKind.wrap .i64 (((l : Nat) : Int) - 2)) + 1)) 16 fun b9 o5 => StA 16 b9 o5 cs7 w fun w => Hld (S w) (LdA 3 b 0 (At w) fun cs8 => LdV b2 0 (At w)
  fun v18 => OpI .i64 v18 fun n7 => LdV b2 2 (At w) fun v19 => OpI .i64 v19 fun n8 => CallV Try.prog 46 #[.agg cs8, .int .i64 n7, .int .i64 n8] w fun v20 w => T2 v20 fun v21
  v22 => OpS v21 fun p6 l7 c6 => OpI .i64 v22 fun n9 => LdV b2 1 (At w) fun v23 => OpI .i64 v23 fun n10 => DoV Try.prog (Instr.buildSlice 68 3 #[(0, .int .i64 n10), (1, .int
  .i64 (IntKind.wrap .i64 (((l : Nat) : Int) - 2))), (2, .int .i64 (IntKind.wrap .i64 ((IntKind.wrap .i64 (((l : Nat) : Int) - 2)) + 1)))]) w fun v24 w => OpS v24 fun p7 l8
  c7 => LoopC (σ := (Option Addr × Nat × Nat) × Int × Unit) (fun _ s2 w K2 => Cb (decide (s2.2.1 < ((l8 : Nat) : Int))) (IdxS p7 l8 s2.2.1 1 fun b10 o6 => LdV b10 o6 (At w)
  fun v25 => OpI .i64 v25 fun n11 => IdxS p6 l7 n11 2 fun b11 o7 => LdA 2 b11 o7 (At w) fun cs9 => Alc 53 (zc Try.prog 53) w fun b12 w => StA 2 b12 0 cs9 w fun w => LdV b 3
  (At w) fun v26 => OpS v26 fun p8 l9 c8 => LdV b12 0 (At w) fun v27 => OpI .i64 v27 fun n12 => IdxS p8 l9 n12 1 fun b13 o8 => LdV b13 o8 (At w) fun v28 => OpN v28 fun b14
  o9 => CallV Try.prog 47 #[.pointer (some ⟨b14, o9, none⟩)] w fun v29 w => OpB v29 fun g => Cb g (HeldR w fun S w => LdA 2 b12 0 S fun cs10 => LdV b12 1 S fun v30 => OpI
  .i64 v30 fun n13 => IdxS p l n11 16 fun b15 o10 => LdA 16 b15 o10 S fun cs11 => CallV Try.prog 48 #[.int .i64 n13, .agg cs11] w fun v31 w => OpA 17 v31 fun cs12 => Hld (S
  w) (DoQ Try.prog (Instr.build 110 #[(0, .agg cs10), (1, .agg cs12)]) S fun v32 => OpA 19 v32 fun cs13 => DoV Try.prog (Instr.buildSlice 44 1 #[(0, .agg cs13)]) w fun v33 w
  => OpS v33 fun p9 l10 c9 => Hld (S w) (DoV Try.prog (Builtin.append_ #[44, 44] 44 #[.slice s2.1.1 s2.1.2.1 s2.1.2.2, .slice p9 l10 c9]) w fun v34 w => OpS v34 fun p10 l11
  c10 => Hld (S w) (K2 ((p10, l11, c10), (IntKind.wrap .i64 (s2.2.1 + 1), ())) w)))) (K2 ((s2.1.1, s2.1.2.1, s2.1.2.2), (IntKind.wrap .i64 (s2.2.1 + 1), ())) w)) (Ret [] (R
  (.tuple #[.slice s2.1.1 s2.1.2.1 s2.1.2.2, .int .i64 0]) w))) ((none, 0, 0), (0, ())) w)))) ((none, 0, 0), (0, ())) w)))
theorem C_stripe_Plan {s : Array Value} {lba : Int} {data : Array Value} {w : World} {R : Value → World → Prop} (h : F_stripe_Plan s lba data w R) : CallV Try.prog 17 #[.agg s, .int .i64 lba, .agg data] w R := by
  exact calls_of_F (args := [.agg s, .int .i64 lba, .agg data]) (mkAnn [(14, [(15, .slice), (64, (.int .i64))]), (23, [(22, .slice), (111, (.int .i64))])] [] [] [] [134]) Try_mixed Try.func17 rfl rfl (by kernel_rfl) h
def F_stripe_Apply (s : Array Value) (putsp : Option Addr) (putsl : Nat) (putsc : Nat) (epoch : Int) (w : World) (R : Value → World → Prop) : Prop :=
  Alc 29 s w fun b w => LdA 4 b 0 (At w) fun cs => CallV Try.prog 33 #[.agg cs] w fun v w => OpI .i64 v fun n => Cb (n != 0) (Ret [] (R (.int .i64 n) w)) (LoopC (σ := Int ×
  Unit) (fun _ s1 w K1 => Cb (decide (s1.1 < ((putsl : Nat) : Int))) (IdxS putsp putsl s1.1 19 fun b1 o => LdA 19 b1 o (At w) fun cs1 => Alc 110 (zc Try.prog 110) w fun b2 w
  => StA 19 b2 0 cs1 w fun w => LdV b2 0 (At w) fun v1 => OpI .i64 v1 fun n1 => Cb (decide (n1 < 0)) (Drw w fun w => Ret [] (R (.int .i64 2) w)) (LdV b2 0 (At w) fun v2 =>
  OpI .i64 v2 fun n2 => LdV b 3 (At w) fun v3 => OpS v3 fun p l c => Cb (decide (n2 ≥ ((l : Nat) : Int))) (Drw w fun w => Ret [] (R (.int .i64 2) w)) (LdV b2 1 (At w) fun v4
  => OpI .i64 v4 fun n3 => Cb (decide (n3 < 0)) (Drw w fun w => Ret [] (R (.int .i64 2) w)) (LdV b2 1 (At w) fun v5 => OpI .i64 v5 fun n4 => LdV b 3 (At w) fun v6 => OpS v6
  fun p1 l1 c1 => IdxS p1 l1 0 1 fun b3 o1 => LdV b3 o1 (At w) fun v7 => OpN v7 fun b4 o2 => CallQ Try.prog 49 #[.pointer (some ⟨b4, o2, none⟩)] (At w) fun v8 => OpI .i64 v8
  fun n5 => Drw w fun w => Cb (decide (n4 ≥ n5)) (Ret [] (R (.int .i64 2) w)) (K1 (IntKind.wrap .i64 (s1.1 + 1), ()) w))))) (LoopC (σ := Int × Unit) (fun _ s2 w K2 => Cb
  (decide (s2.1 < ((putsl : Nat) : Int))) (IdxS putsp putsl s2.1 19 fun b5 o3 => LdA 19 b5 o3 (At w) fun cs2 => Alc 110 (zc Try.prog 110) w fun b6 w => StA 19 b6 0 cs2 w fun
  w => HeldR w fun S w => LdV b 3 S fun v9 => OpS v9 fun p2 l2 c2 => LdV b6 0 S fun v10 => OpI .i64 v10 fun n6 => IdxS p2 l2 n6 1 fun b7 o4 => LdV b7 o4 S fun v11 => OpN v11
  fun b8 o5 => LdV b6 1 S fun v12 => OpI .i64 v12 fun n7 => LdA 17 b6 2 S fun cs3 => DoV Try.prog (Instr.buildSlice 63 1 #[(0, .agg cs3)]) w fun v13 w => OpS v13 fun p3 l3
  c3 => Hld (S w) (CallV Try.prog 50 #[.pointer (some ⟨b8, o5, none⟩), .int .i64 n7, .slice p3 l3 c3, .int .u32 epoch] w fun v14 w => T2 v14 fun v15 v16 => OpI .i64 v15 fun
  n8 => OpI .i64 v16 fun n9 => Hld (S w) (Req ((n9 != 0) = (n9 != 0)) (Req ((n9 != 0) = (n9 != 0)) (Cb (cond (n9 != 0) (n9 != 5) false) (Ret [] (R (.int .i64 n9) w)) (K2
  (IntKind.wrap .i64 (s2.1 + 1), ()) w)))))) (Ret [] (R (.int .i64 0) w))) (0, ()) w)) (0, ()) w)
theorem C_stripe_Apply {s : Array Value} {putsp : Option Addr} {putsl : Nat} {putsc : Nat} {epoch : Int} {w : World} {R : Value → World → Prop} (h : F_stripe_Apply s putsp putsl putsc epoch w R) : CallV Try.prog 18 #[.agg s, .slice putsp putsl putsc, .int .u32 epoch] w R := by
  exact calls_of_F (args := [.agg s, .slice putsp putsl putsc, .int .u32 epoch]) (mkAnn [(5, [(21, (.int .i64))]), (11, [(58, (.int .i64))])] [] [] [] [77]) Try_mixed Try.func18 rfl rfl (by kernel_rfl) h
def F_stripe_Key (s : Array Value) (w : World) (R : Value → World → Prop) : Prop :=
  Alc 29 s w fun b w => LdA 4 b 0 (At w) fun cs => CallV Try.prog 33 #[.agg cs] w fun v w => OpI .i64 v fun n => Cb (n != 0) (Ret [] (R (.int .u32 0) w)) (LdV b 3 (At w) fun
  v1 => OpS v1 fun p l c => LoopC (σ := Int × Int × Unit) (fun _ s1 w K1 => Cb (decide (s1.2.1 < ((l : Nat) : Int))) (IdxS p l s1.2.1 1 fun b1 o => LdV b1 o (At w) fun v2 =>
  OpN v2 fun b2 o1 => CallV Try.prog 47 #[.pointer (some ⟨b2, o1, none⟩)] w fun v3 w => OpB v3 fun g => Cb g (CallV Try.prog 58 #[.pointer (some ⟨b2, o1, none⟩)] w fun v4 w
  => OpI .u32 v4 fun n1 => DoQ Try.prog (Builtin.max_ #[48, 48] 48 #[.int .u32 s1.1, .int .u32 n1]) (At w) fun v5 => OpI .u32 v5 fun n2 => K1 (n2, (IntKind.wrap .i64 (s1.2.1
  + 1), ())) w) (K1 (s1.1, (IntKind.wrap .i64 (s1.2.1 + 1), ())) w)) (Ret [] (R (.int .u32 s1.1) w))) (0, (0, ())) w)
theorem C_stripe_Key {s : Array Value} {w : World} {R : Value → World → Prop} (h : F_stripe_Key s w R) : CallV Try.prog 29 #[.agg s] w R := by
  exact calls_of_F (args := [.agg s]) (mkAnn [(5, [(3, (.int .u32)), (12, (.int .i64))])] [] [] [] []) Try_mixed Try.func29 rfl rfl (by kernel_rfl) h
def F_stripe_Fence (s : Array Value) (epoch : Int) (w : World) (R : Value → World → Prop) : Prop :=
  Alc 29 s w fun b w => LdA 4 b 0 (At w) fun cs => CallV Try.prog 33 #[.agg cs] w fun v w => OpI .i64 v fun n => Cb (n != 0) (Ret [] (R (.int .i64 n) w)) (LdV b 3 (At w) fun
  v1 => OpS v1 fun p l c => LoopC (σ := Int × Unit) (fun _ s1 w K1 => Cb (decide (s1.1 < ((l : Nat) : Int))) (IdxS p l s1.1 1 fun b1 o => LdV b1 o (At w) fun v2 => OpN v2
  fun b2 o1 => CallV Try.prog 57 #[.pointer (some ⟨b2, o1, none⟩), .int .u32 epoch] w fun v3 w => OpI .i64 v3 fun n1 => Cb (n1 == 4) (Ret [] (R (.int .i64 n1) w)) (K1
  (IntKind.wrap .i64 (s1.1 + 1), ()) w)) (Ret [] (R (.int .i64 0) w))) (0, ()) w)
theorem C_stripe_Fence {s : Array Value} {epoch : Int} {w : World} {R : Value → World → Prop} (h : F_stripe_Fence s epoch w R) : CallV Try.prog 28 #[.agg s, .int .u32 epoch] w R := by
  exact calls_of_F (args := [.agg s, .int .u32 epoch]) (mkAnn [(5, [(17, (.int .i64))])] [] [] [] []) Try_mixed Try.func28 rfl rfl (by kernel_rfl) h
end Go.Proofs
