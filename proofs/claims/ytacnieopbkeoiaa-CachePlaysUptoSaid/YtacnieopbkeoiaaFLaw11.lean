/- PRINTED BY pr.py (own program): what the evaluator of <Name>Ev makes of the code of some functions. -/
import Derived.Test.YtacnieopbkeoiaaChecked
import Derived.Test.YtacnieopbkeoiaaEv
import Derived.Test.YtacnieopbkeoiaaMix
namespace Go.Proofs
open Go.Ev
set_option linter.unusedVariables false
set_option maxRecDepth 100000
def F_ravelinlaw11_awake  (w : World) (R : Value → World → Prop) : Prop :=
  CallV Try.prog 12 #[.int .i64 2] w fun v w => T2 v fun v1 v2 => OpP v1 (OpI .i64 v2 fun n => Req ((n != 0) = (n != 0)) (Req ((n != 0) = (n != 0)) (Cb (cond (n != 0) true
  true) (Ret [] (R (.bool false) w)) (DoQ Try.prog (Instr.build 31 #[(0, .int .u8 1)]) (At w) fun v3 => OpA 16 v3 fun cs => CallV Try.prog 14 #[.pointer none, .int .i64 5,
  .agg cs, .int .u64 3] w fun v4 w => OpI .i64 v4 fun n1 => Cb (n1 != 0) (Ret [] (R (.bool false) w)) (CallV Try.prog 15 #[.pointer none, .int .i64 5] w fun v5 w => T3 v5
  fun v6 v7 v8 => OpA 16 v6 fun cs1 => OpI .u64 v7 fun n2 => OpI .i64 v8 fun n3 => Alc 31 (zc Try.prog 31) w fun b w => StA 16 b 0 cs1 w fun w => Req ((n3 == 0) = (n3 == 0))
  (Req ((n3 == 0) = (n3 == 0)) (Cb (cond (n3 == 0) (n2 == 3) false) (LdA 16 b 0 (At w) fun cs2 => DoQ Try.prog (Instr.build 31 #[(0, .int .u8 1)]) (At w) fun v9 => OpA 16 v9
  fun cs3 => EqB Try.prog .eql 31 (.tmp 34) (.tmp 35) (.agg cs2 : Value) (.agg cs3 : Value) (At w) fun g => Ret [] (R (.bool g) w)) (Ret [] (R (.bool false) w))))))))) fun
  b1 o => OpI .i64 v2 fun n4 => Req ((n4 != 0) = (n4 != 0)) (Req ((n4 != 0) = (n4 != 0)) (Cb (cond (n4 != 0) true false) (Ret [] (R (.bool false) w)) (DoQ Try.prog
  (Instr.build 31 #[(0, .int .u8 1)]) (At w) fun v10 => OpA 16 v10 fun cs4 => CallV Try.prog 14 #[.pointer (some ⟨b1, o, none⟩), .int .i64 5, .agg cs4, .int .u64 3] w fun
  v11 w => OpI .i64 v11 fun n5 => Cb (n5 != 0) (Ret [] (R (.bool false) w)) (CallV Try.prog 15 #[.pointer (some ⟨b1, o, none⟩), .int .i64 5] w fun v12 w => T3 v12 fun v13
  v14 v15 => OpA 16 v13 fun cs5 => OpI .u64 v14 fun n6 => OpI .i64 v15 fun n7 => Alc 31 (zc Try.prog 31) w fun b2 w => StA 16 b2 0 cs5 w fun w => Req ((n7 == 0) = (n7 == 0))
  (Req ((n7 == 0) = (n7 == 0)) (Cb (cond (n7 == 0) (n6 == 3) false) (LdA 16 b2 0 (At w) fun cs6 => DoQ Try.prog (Instr.build 31 #[(0, .int .u8 1)]) (At w) fun v16 => OpA 16
  v16 fun cs7 => EqB Try.prog .eql 31 (.tmp 34) (.tmp 35) (.agg cs6 : Value) (.agg cs7 : Value) (At w) fun g1 => Ret [] (R (.bool g1) w)) (Ret [] (R (.bool false) w))))))))
theorem C_ravelinlaw11_awake  {w : World} {R : Value → World → Prop} (h : F_ravelinlaw11_awake  w R) : CallV Try.prog 13 #[] w R := by
  exact calls_of_F (args := []) (mkAnn [] [] [] [] []) Try_mixed Try.func13 rfl rfl (by kernel_rfl) h
def F_ravelinlaw11_CacheLast (room : Int) (lbasp : Option Addr) (lbasl : Nat) (lbasc : Nat) (versionsp : Option Addr) (versionsl : Nat) (versionsc : Nat) (w : World) (R : Value → World → Prop) : Prop :=
  Req ((8 : Int) ≠ 0) (CallV Try.prog 12 #[.int .i64 (IntKind.wrap .i64 ((Int.tmod (IntKind.wrap .i64 room) 8) + 1))] w fun v w => T2 v fun v1 v2 => OpP v1 (OpI .i64 v2 fun
  n => CallV Try.prog 13 #[] w fun v3 w => OpB v3 fun g => Req ((!g) = (!g)) (Req ((!g) = (!g)) (Req ((cond (!g) true (n != 0)) = (cond (!g) true (n != 0))) (Req ((cond (!g)
  true (n != 0)) = (cond (!g) true (n != 0))) (Cb (cond (cond (!g) true (n != 0)) true true) (Ret [] (R (.bool false) w)) (DoV Try.prog (Instr.makeSlice 28 (.int .i64 256)
  (.int .i64 256)) w fun v4 w => OpS v4 fun p l c => JoinC (σ := Int × Unit) (fun J1 => LoopC (σ := Int × Int × Unit) (fun _ s2 w K2 => Cb (decide (s2.2.1 < ((lbasl : Nat) :
  Int))) (Req ((decide (s2.2.1 < ((versionsl : Nat) : Int))) = (decide (s2.2.1 < ((versionsl : Nat) : Int)))) (Req ((decide (s2.2.1 < ((versionsl : Nat) : Int))) = (decide
  (s2.2.1 < ((versionsl : Nat) : Int)))) (Cb (cond (decide (s2.2.1 < ((versionsl : Nat) : Int))) (decide (s2.2.1 < 200)) false) (IdxS lbasp lbasl s2.2.1 1 fun b o => LdV b o
  (At w) fun v5 => OpI .u8 v5 fun n1 => IdxS versionsp versionsl s2.2.1 1 fun b1 o1 => LdV b1 o1 (At w) fun v6 => OpI .u8 v6 fun n2 => Drw w fun w => IdxS versionsp
  versionsl s2.2.1 1 fun b2 o2 => LdV b2 o2 (At w) fun v7 => OpI .u8 v7 fun n3 => DoQ Try.prog (Instr.build 31 #[(0, .int .u8 n1), (1, .int .u8 n3)]) (At w) fun v8 => OpA 16
  v8 fun cs => CallV Try.prog 14 #[.pointer none, .int .i64 (IntKind.wrap .i64 n1), .agg cs, .int .u64 (IntKind.wrap .u64 (IntKind.wrap .i64 n2))] w fun v9 w => OpI .i64 v9
  fun n4 => IdxS p l n1 1 fun b3 o3 => LdV b3 o3 (At w) fun v10 => OpI .i64 v10 fun n5 => Cb (decide (n5 > 0)) (IdxS p l n1 1 fun b4 o4 => LdV b4 o4 (At w) fun v11 => OpI
  .i64 v11 fun n6 => Cb (decide (n6 ≤ IntKind.wrap .i64 n2)) (Cb (!((n4 == 0) == true)) (Ret [] (R (.bool false) w)) (IdxS p l n1 1 fun b5 o5 => LdV b5 o5 (At w) fun v12 =>
  OpI .i64 v12 fun n7 => Cb (n7 == 0) (IdxS p l n1 1 fun b6 o6 => StV b6 o6 (.int .i64 (IntKind.wrap .i64 ((IntKind.wrap .i64 n2) + 1))) w fun w => K2 (IntKind.wrap .i64
  (s2.1 + 1), (IntKind.wrap .i64 (s2.2.1 + 1), ())) w) (IdxS p l n1 1 fun b7 o7 => StV b7 o7 (.int .i64 (IntKind.wrap .i64 ((IntKind.wrap .i64 n2) + 1))) w fun w => K2
  (s2.1, (IntKind.wrap .i64 (s2.2.1 + 1), ())) w))) (IdxS p l n1 1 fun b8 o8 => LdV b8 o8 (At w) fun v13 => OpI .i64 v13 fun n8 => Cb (n8 == 0) (Cb (!((n4 == 0) == (decide
  (s2.1 < IntKind.wrap .i64 ((Int.tmod (IntKind.wrap .i64 room) 8) + 1))))) (Ret [] (R (.bool false) w)) (Cb (decide (s2.1 < IntKind.wrap .i64 ((Int.tmod (IntKind.wrap .i64
  room) 8) + 1))) (IdxS p l n1 1 fun b9 o9 => LdV b9 o9 (At w) fun v14 => OpI .i64 v14 fun n9 => Cb (n9 == 0) (Cb (decide (s2.1 < IntKind.wrap .i64 ((Int.tmod (IntKind.wrap
  .i64 room) 8) + 1))) (IdxS p l n1 1 fun b10 o10 => StV b10 o10 (.int .i64 (IntKind.wrap .i64 ((IntKind.wrap .i64 n2) + 1))) w fun w => K2 (IntKind.wrap .i64 (s2.1 + 1),
  (IntKind.wrap .i64 (s2.2.1 + 1), ())) w) (K2 (IntKind.wrap .i64 (s2.1 + 1), (IntKind.wrap .i64 (s2.2.1 + 1), ())) w)) (Cb (decide (s2.1 < IntKind.wrap .i64 ((Int.tmod
  (IntKind.wrap .i64 room) 8) + 1))) (IdxS p l n1 1 fun b11 o11 => StV b11 o11 (.int .i64 (IntKind.wrap .i64 ((IntKind.wrap .i64 n2) + 1))) w fun w => K2 (s2.1,
  (IntKind.wrap .i64 (s2.2.1 + 1), ())) w) (K2 (s2.1, (IntKind.wrap .i64 (s2.2.1 + 1), ())) w))) (Cb (decide (s2.1 < IntKind.wrap .i64 ((Int.tmod (IntKind.wrap .i64 room) 8)
  + 1))) (IdxS p l n1 1 fun b12 o12 => StV b12 o12 (.int .i64 (IntKind.wrap .i64 ((IntKind.wrap .i64 n2) + 1))) w fun w => K2 (s2.1, (IntKind.wrap .i64 (s2.2.1 + 1), ())) w)
  (K2 (s2.1, (IntKind.wrap .i64 (s2.2.1 + 1), ())) w)))) (Cb (!((n4 == 0) == false)) (Ret [] (R (.bool false) w)) (K2 (s2.1, (IntKind.wrap .i64 (s2.2.1 + 1), ())) w))))
  (IdxS p l n1 1 fun b13 o13 => LdV b13 o13 (At w) fun v15 => OpI .i64 v15 fun n10 => Cb (n10 == 0) (Cb (!((n4 == 0) == (decide (s2.1 < IntKind.wrap .i64 ((Int.tmod
  (IntKind.wrap .i64 room) 8) + 1))))) (Ret [] (R (.bool false) w)) (Cb (decide (s2.1 < IntKind.wrap .i64 ((Int.tmod (IntKind.wrap .i64 room) 8) + 1))) (IdxS p l n1 1 fun
  b14 o14 => LdV b14 o14 (At w) fun v16 => OpI .i64 v16 fun n11 => Cb (n11 == 0) (Cb (decide (s2.1 < IntKind.wrap .i64 ((Int.tmod (IntKind.wrap .i64 room) 8) + 1))) (IdxS p
  l n1 1 fun b15 o15 => StV b15 o15 (.int .i64 (IntKind.wrap .i64 ((IntKind.wrap .i64 n2) + 1))) w fun w => K2 (IntKind.wrap .i64 (s2.1 + 1), (IntKind.wrap .i64 (s2.2.1 +
  1), ())) w) (K2 (IntKind.wrap .i64 (s2.1 + 1), (IntKind.wrap .i64 (s2.2.1 + 1), ())) w)) (Cb (decide (s2.1 < IntKind.wrap .i64 ((Int.tmod (IntKind.wrap .i64 room) 8) +
  1))) (IdxS p l n1 1 fun b16 o16 => StV b16 o16 (.int .i64 (IntKind.wrap .i64 ((IntKind.wrap .i64 n2) + 1))) w fun w => K2 (s2.1, (IntKind.wrap .i64 (s2.2.1 + 1), ())) w)
  (K2 (s2.1, (IntKind.wrap .i64 (s2.2.1 + 1), ())) w))) (Cb (decide (s2.1 < IntKind.wrap .i64 ((Int.tmod (IntKind.wrap .i64 room) 8) + 1))) (IdxS p l n1 1 fun b17 o17 => StV
  b17 o17 (.int .i64 (IntKind.wrap .i64 ((IntKind.wrap .i64 n2) + 1))) w fun w => K2 (s2.1, (IntKind.wrap .i64 (s2.2.1 + 1), ())) w) (K2 (s2.1, (IntKind.wrap .i64 (s2.2.1 +
  1), ())) w)))) (Cb (!((n4 == 0) == false)) (Ret [] (R (.bool false) w)) (K2 (s2.1, (IntKind.wrap .i64 (s2.2.1 + 1), ())) w)))) (J1 (s2.1, ()) w)))) (Req (false = false)
  (Req (false = false) (J1 (s2.1, ()) w)))) (0, (0, ())) w) (fun _ s1 w => LoopC (σ := Int × Unit) (fun _ s3 w K3 => Cb (decide (s3.1 < 256)) (CallV Try.prog 15 #[.pointer
  none, .int .i64 s3.1] w fun v17 w => T3 v17 fun v18 v19 v20 => OpA 16 v18 fun cs1 => OpI .u64 v19 fun n12 => OpI .i64 v20 fun n13 => Alc 31 (zc Try.prog 31) w fun b18 w =>
  StA 16 b18 0 cs1 w fun w => IdxS p l s3.1 1 fun b19 o18 => LdV b19 o18 (At w) fun v21 => OpI .i64 v21 fun n14 => Cb (!((n13 == 0) == (decide (n14 > 0)))) (Ret [] (R (.bool
  false) w)) (Cb (n13 == 0) (IdxS p l s3.1 1 fun b20 o19 => LdV b20 o19 (At w) fun v22 => OpI .i64 v22 fun n15 => Cb (IntKind.wrap .i64 ((IntKind.wrap .i64 n12) + 1) != n15)
  (Ret [] (R (.bool false) w)) (LdA 16 b18 0 (At w) fun cs2 => DoQ Try.prog (Instr.build 31 #[(0, .int .u8 (IntKind.wrap .u8 s3.1)), (1, .int .u8 (IntKind.wrap .u8 n12))])
  (At w) fun v23 => OpA 16 v23 fun cs3 => EqB Try.prog .neq 31 (.tmp 155) (.tmp 160) (.agg cs2 : Value) (.agg cs3 : Value) (At w) fun g1 => Cb g1 (Ret [] (R (.bool false)
  w)) (K3 (IntKind.wrap .i64 (s3.1 + 1), ()) w))) (K3 (IntKind.wrap .i64 (s3.1 + 1), ()) w))) (CallV Try.prog 16 #[.pointer none] w fun v24 w => OpI .i64 v24 fun n16 => Cb
  (n16 == s1.1) (CallV Try.prog 17 #[.pointer none] w fun v25 w => OpB v25 fun g2 => Ret [] (R (.bool (g2 == (s1.1 == (IntKind.wrap .i64 ((Int.tmod (IntKind.wrap .i64 room)
  8) + 1))))) w)) (Ret [] (R (.bool false) w)))) (0, ()) w))))))) fun b21 o20 => OpI .i64 v2 fun n17 => CallV Try.prog 13 #[] w fun v26 w => OpB v26 fun g3 => Req ((!g3) =
  (!g3)) (Req ((!g3) = (!g3)) (Req ((cond (!g3) true (n17 != 0)) = (cond (!g3) true (n17 != 0))) (Req ((cond (!g3) true (n17 != 0)) = (cond (!g3) true (n17 != 0))) (Cb (cond
  (cond (!g3) true (n17 != 0)) true false) (Ret [] (R (.bool false) w)) (DoV Try.prog (Instr.makeSlice 28 (.int .i64 256) (.int .i64 256)) w fun v27 w => OpS v27 fun p1 l1
  c1 => JoinC (σ := Int × Unit) (fun J4 => LoopC (σ := Int × Int × Unit) (fun _ s5 w K5 => Cb (decide (s5.2.1 < ((lbasl : Nat) : Int))) (Req ((decide (s5.2.1 < ((versionsl :
  Nat) : Int))) = (decide (s5.2.1 < ((versionsl : Nat) : Int)))) (Req ((decide (s5.2.1 < ((versionsl : Nat) : Int))) = (decide (s5.2.1 < ((versionsl : Nat) : Int)))) (Cb
  (cond (decide (s5.2.1 < ((versionsl : Nat) : Int))) (decide (s5.2.1 < 200)) false) (IdxS lbasp lbasl s5.2.1 1 fun b22 o21 => LdV b22 o21 (At w) fun v28 => OpI .u8 v28 fun
  n18 => IdxS versionsp versionsl s5.2.1 1 fun b23 o22 => LdV b23 o22 (At w) fun v29 => OpI .u8 v29 fun n19 => Drw w fun w => IdxS versionsp versionsl s5.2.1 1 fun b24 o23
  => LdV b24 o23 (At w) fun v30 => OpI .u8 v30 fun n20 => DoQ Try.prog (Instr.build 31 #[(0, .int .u8 n18), (1, .int .u8 n20)]) (At w) fun v31 => OpA 16 v31 fun cs4 => CallV
  Try.prog 14 #[.pointer (some ⟨b21, o20, none⟩), .int .i64 (IntKind.wrap .i64 n18), .agg cs4, .int .u64 (IntKind.wrap .u64 (IntKind.wrap .i64 n19))] w fun v32 w => OpI .i64
  v32 fun n21 => IdxS p1 l1 n18 1 fun b25 o24 => LdV b25 o24 (At w) fun v33 => OpI .i64 v33 fun n22 => Cb (decide (n22 > 0)) (IdxS p1 l1 n18 1 fun b26 o25 => LdV b26 o25 (At
  w) fun v34 => OpI .i64 v34 fun n23 => Cb (decide (n23 ≤ IntKind.wrap .i64 n19)) (Cb (!((n21 == 0) == true)) (Ret [] (R (.bool false) w)) (IdxS p1 l1 n18 1 fun b27 o26 =>
  LdV b27 o26 (At w) fun v35 => OpI .i64 v35 fun n24 => Cb (n24 == 0) (IdxS p1 l1 n18 1 fun b28 o27 => StV b28 o27 (.int .i64 (IntKind.wrap .i64 ((IntKind.wrap .i64 n19) +
  1))) w fun w => K5 (IntKind.wrap .i64 (s5.1 + 1), (IntKind.wrap .i64 (s5.2.1 + 1), ())) w) (IdxS p1 l1 n18 1 fun b29 o28 => StV b29 o28 (.int .i64 (IntKind.wrap .i64
  ((IntKind.wrap .i64 n19) + 1))) w fun w => K5 (s5.1, (IntKind.wrap .i64 (s5.2.1 + 1), ())) w))) (IdxS p1 l1 n18 1 fun b30 o29 => LdV b30 o29 (At w) fun v36 => OpI .i64 v36
  fun n25 => Cb (n25 == 0) (Cb (!((n21 == 0) == (decide (s5.1 < IntKind.wrap .i64 ((Int.tmod (IntKind.wrap .i64 room) 8) + 1))))) (Ret [] (R (.bool false) w)) (Cb (decide
  (s5.1 < IntKind.wrap .i64 ((Int.tmod (IntKind.wrap .i64 room) 8) + 1))) (IdxS p1 l1 n18 1 fun b31 o30 => LdV b31 o30 (At w) fun v37 => OpI .i64 v37 fun n26 => Cb (n26 ==
  0) (Cb (decide (s5.1 < IntKind.wrap .i64 ((Int.tmod (IntKind.wrap .i64 room) 8) + 1))) (IdxS p1 l1 n18 1 fun b32 o31 => StV b32 o31 (.int .i64 (IntKind.wrap .i64
  ((IntKind.wrap .i64 n19) + 1))) w fun w => K5 (IntKind.wrap .i64 (s5.1 + 1), (IntKind.wrap .i64 (s5.2.1 + 1), ())) w) (K5 (IntKind.wrap .i64 (s5.1 + 1), (IntKind.wrap .i64
  (s5.2.1 + 1), ())) w)) (Cb (decide (s5.1 < IntKind.wrap .i64 ((Int.tmod (IntKind.wrap .i64 room) 8) + 1))) (IdxS p1 l1 n18 1 fun b33 o32 => StV b33 o32 (.int .i64
  (IntKind.wrap .i64 ((IntKind.wrap .i64 n19) + 1))) w fun w => K5 (s5.1, (IntKind.wrap .i64 (s5.2.1 + 1), ())) w) (K5 (s5.1, (IntKind.wrap .i64 (s5.2.1 + 1), ())) w))) (Cb
  (decide (s5.1 < IntKind.wrap .i64 ((Int.tmod (IntKind.wrap .i64 room) 8) + 1))) (IdxS p1 l1 n18 1 fun b34 o33 => StV b34 o33 (.int .i64 (IntKind.wrap .i64 ((IntKind.wrap
  .i64 n19) + 1))) w fun w => K5 (s5.1, (IntKind.wrap .i64 (s5.2.1 + 1), ())) w) (K5 (s5.1, (IntKind.wrap .i64 (s5.2.1 + 1), ())) w)))) (Cb (!((n21 == 0) == false)) (Ret []
  (R (.bool false) w)) (K5 (s5.1, (IntKind.wrap .i64 (s5.2.1 + 1), ())) w)))) (IdxS p1 l1 n18 1 fun b35 o34 => LdV b35 o34 (At w) fun v38 => OpI .i64 v38 fun n27 => Cb (n27
  == 0) (Cb (!((n21 == 0) == (decide (s5.1 < IntKind.wrap .i64 ((Int.tmod (IntKind.wrap .i64 room) 8) + 1))))) (Ret [] (R (.bool false) w)) (Cb (decide (s5.1 < IntKind.wrap
  .i64 ((Int.tmod (IntKind.wrap .i64 room) 8) + 1))) (IdxS p1 l1 n18 1 fun b36 o35 => LdV b36 o35 (At w) fun v39 => OpI .i64 v39 fun n28 => Cb (n28 == 0) (Cb (decide (s5.1 <
  IntKind.wrap .i64 ((Int.tmod (IntKind.wrap .i64 room) 8) + 1))) (IdxS p1 l1 n18 1 fun b37 o36 => StV b37 o36 (.int .i64 (IntKind.wrap .i64 ((IntKind.wrap .i64 n19) + 1)))
  w fun w => K5 (IntKind.wrap .i64 (s5.1 + 1), (IntKind.wrap .i64 (s5.2.1 + 1), ())) w) (K5 (IntKind.wrap .i64 (s5.1 + 1), (IntKind.wrap .i64 (s5.2.1 + 1), ())) w)) (Cb
  (decide (s5.1 < IntKind.wrap .i64 ((Int.tmod (IntKind.wrap .i64 room) 8) + 1))) (IdxS p1 l1 n18 1 fun b38 o37 => StV b38 o37 (.int .i64 (IntKind.wrap .i64 ((IntKind.wrap
  .i64 n19) + 1))) w fun w => K5 (s5.1, (IntKind.wrap .i64 (s5.2.1 + 1), ())) w) (K5 (s5.1, (IntKind.wrap .i64 (s5.2.1 + 1), ())) w))) (Cb (decide (s5.1 < IntKind.wrap .i64
  ((Int.tmod (IntKind.wrap .i64 room) 8) + 1))) (IdxS p1 l1 n18 1 fun b39 o38 => StV b39 o38 (.int .i64 (IntKind.wrap .i64 ((IntKind.wrap .i64 n19) + 1))) w fun w => K5
  (s5.1, (IntKind.wrap .i64 (s5.2.1 + 1), ())) w) (K5 (s5.1, (IntKind.wrap .i64 (s5.2.1 + 1), ())) w)))) (Cb (!((n21 == 0) == false)) (Ret [] (R (.bool false) w)) (K5 (s5.1,
  (IntKind.wrap .i64 (s5.2.1 + 1), ())) w)))) (J4 (s5.1, ()) w)))) (Req (false = false) (Req (false = false) (J4 (s5.1, ()) w)))) (0, (0, ())) w) (fun _ s4 w => LoopC (σ :=
  Int × Unit) (fun _ s6 w K6 => Cb (decide (s6.1 < 256)) (CallV Try.prog 15 #[.pointer (some ⟨b21, o20, none⟩), .int .i64 s6.1] w fun v40 w => T3 v40 fun v41 v42 v43 => OpA
  16 v41 fun cs5 => OpI .u64 v42 fun n29 => OpI .i64 v43 fun n30 => Alc 31 (zc Try.prog 31) w fun b40 w => StA 16 b40 0 cs5 w fun w => IdxS p1 l1 s6.1 1 fun b41 o39 => LdV
  b41 o39 (At w) fun v44 => OpI .i64 v44 fun n31 => Cb (!((n30 == 0) == (decide (n31 > 0)))) (Ret [] (R (.bool false) w)) (Cb (n30 == 0) (IdxS p1 l1 s6.1 1 fun b42 o40 =>
  LdV b42 o40 (At w) fun v45 => OpI .i64 v45 fun n32 => Cb (IntKind.wrap .i64 ((IntKind.wrap .i64 n29) + 1) != n32) (Ret [] (R (.bool false) w)) (LdA 16 b40 0 (At w) fun cs6
  => DoQ Try.prog (Instr.build 31 #[(0, .int .u8 (IntKind.wrap .u8 s6.1)), (1, .int .u8 (IntKind.wrap .u8 n29))]) (At w) fun v46 => OpA 16 v46 fun cs7 => EqB Try.prog .neq
  31 (.tmp 155) (.tmp 160) (.agg cs6 : Value) (.agg cs7 : Value) (At w) fun g4 => Cb g4 (Ret [] (R (.bool false) w)) (K6 (IntKind.wrap .i64 (s6.1 + 1), ()) w))) (K6
  (IntKind.wrap .i64 (s6.1 + 1), ()) w))) (CallV Try.prog 16 #[.pointer (some ⟨b21, o20, none⟩)] w fun v47 w => OpI .i64 v47 fun n33 => Cb (n33 == s4.1) (CallV Try.prog 17
  #[.pointer (some ⟨b21, o20, none⟩)] w fun v48 w => OpB v48 fun g5 => Ret [] (R (.bool (g5 == (s4.1 == (IntKind.wrap .i64 ((Int.tmod (IntKind.wrap .i64 room) 8) + 1)))))
  w)) (Ret [] (R (.bool false) w)))) (0, ()) w)))))))
theorem C_ravelinlaw11_CacheLast {room : Int} {lbasp : Option Addr} {lbasl : Nat} {lbasc : Nat} {versionsp : Option Addr} {versionsl : Nat} {versionsc : Nat} {w : World} {R : Value → World → Prop} (h : F_ravelinlaw11_CacheLast room lbasp lbasl lbasc versionsp versionsl versionsc w R) : CallV Try.prog 3 #[.int .u8 room, .slice lbasp lbasl lbasc, .slice versionsp versionsl versionsc] w R := by
  exact calls_of_F (args := [.int .u8 room, .slice lbasp lbasl lbasc, .slice versionsp versionsl versionsc]) (mkAnn [(8, [(11, (.int .i64)), (12, (.int .i64))]), (20, [(17, (.int .i64))])] [(0, [(11, (.int .i64))])] [] [] []) Try_mixed Try.func3 rfl rfl (by kernel_rfl) h
end Go.Proofs
