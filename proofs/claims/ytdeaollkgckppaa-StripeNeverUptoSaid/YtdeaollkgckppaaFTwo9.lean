/- PRINTED BY pr.py (own program): what the evaluator of <Name>Ev makes of the code of some functions. -/
import Derived.Test.YtdeaollkgckppaaChecked
import Derived.Test.YtdeaollkgckppaaEv
import Derived.Test.YtdeaollkgckppaaMix
namespace Go.Proofs
open Go.Ev
set_option linter.unusedVariables false
set_option maxRecDepth 100000
def F_Two9 (a : Int) (b : Int) (c : Int) (lbasp : Option Addr) (lbasl : Nat) (lbasc : Nat) (data : Array Value) (x : Int) (y : Int) (ahead : Bool) (w : World) (R : Value → World → Prop) : Prop :=
  Alc 23 data w fun b1 w => CallV Try.prog 13 #[.int .u8 a, .int .u8 b, .int .u8 c] w fun v w => OpA 3 v fun cs => Alc 25 (zc Try.prog 25) w fun b2 w => StA 3 b2 0 cs w fun
  w => LdA 3 b2 0 (At w) fun cs1 => CallV Try.prog 14 #[.agg cs1] w fun v1 w => T2 v1 fun v2 v3 => OpA 12 v2 fun cs2 => OpB v3 fun g => Alc 37 (zc Try.prog 37) w fun b3 w =>
  StA 12 b3 0 cs2 w fun w => LdA 3 b2 0 (At w) fun cs3 => CallV Try.prog 15 #[.agg cs3] w fun v4 w => T2 v4 fun v5 v6 => OpI .i64 v5 fun n => OpI .i64 v6 fun n1 => CallV
  Try.prog 16 #[] w fun v7 w => OpB v7 fun g1 => Req ((!g1) = (!g1)) (Req ((!g1) = (!g1)) (Cb (cond (!g1) true (!g)) (Ret [] (R (.bool false) w)) (DoV Try.prog
  (Instr.makeSlice 67 (.int .i64 n) (.int .i64 n)) w fun v8 w => OpS v8 fun p l c1 => LoopC (σ := Int × Unit) (fun _ s1 w K1 => Req ((decide (s1.1 < ((lbasl : Nat) : Int)))
  = (decide (s1.1 < ((lbasl : Nat) : Int)))) (Req ((decide (s1.1 < ((lbasl : Nat) : Int))) = (decide (s1.1 < ((lbasl : Nat) : Int)))) (Cb (cond (decide (s1.1 < ((lbasl :
  Nat) : Int))) (decide (s1.1 < 40)) false) (Cb ahead (Req ((2 : Int) ≠ 0) (Cb (s1.1 == (IntKind.wrap .i64 (Int.tdiv ((lbasl : Nat) : Int) 2))) (HeldR w fun S w => LdV b3 3
  S fun v9 => OpS v9 fun p1 l1 c2 => LdV b2 0 S fun v10 => OpI .i64 v10 fun n2 => Req (n2 ≠ 0) (IdxS p1 l1 (Int.tmod (IntKind.wrap .i64 x) n2) 1 fun b4 o => LdV b4 o (At w)
  fun v11 => OpN v11 fun b5 o1 => CallV Try.prog 24 #[.pointer (some ⟨b5, o1, none⟩)] w fun v12 w => Hld (S w) (HeldR w fun S w => LdV b3 3 S fun v13 => OpS v13 fun p2 l2 c3
  => LdV b2 0 S fun v14 => OpI .i64 v14 fun n3 => Req (n3 ≠ 0) (IdxS p2 l2 (Int.tmod (IntKind.wrap .i64 y) n3) 1 fun b6 o2 => LdV b6 o2 (At w) fun v15 => OpN v15 fun b7 o3
  => CallV Try.prog 24 #[.pointer (some ⟨b7, o3, none⟩)] w fun v16 w => Hld (S w) (IdxS lbasp lbasl s1.1 1 fun b8 o4 => LdV b8 o4 (At w) fun v17 => OpI .u8 v17 fun n4 => Req
  (n ≠ 0) (Req (0 ≤ (0 : Int) ∧ (0 : Int) < 16) (StV b1 (0 + Int.toNat 0 * 1) (.int .u8 (IntKind.wrap .u8 (IntKind.wrap .i64 (s1.1 + 1)))) w fun w => LdA 4 b3 0 (At w) fun
  cs4 => LdA 16 b1 0 (At w) fun cs5 => CallV Try.prog 17 #[.agg cs4, .int .i64 (Int.tmod (IntKind.wrap .i64 n4) n), .agg cs5] w fun v18 w => T2 v18 fun v19 v20 => OpS v19
  fun p3 l3 c4 => OpI .i64 v20 fun n5 => Cb (n5 != 0) (Ret [] (R (.bool false) w)) (LdA 4 b3 0 (At w) fun cs6 => CallV Try.prog 18 #[.agg cs6, .slice p3 l3 c4, .int .u32 0]
  w fun v21 w => OpI .i64 v21 fun n6 => Cb (n6 != 0) (Ret [] (R (.bool false) w)) (LdA 16 b1 0 (At w) fun cs7 => IdxS p l (Int.tmod (IntKind.wrap .i64 n4) n) 16 fun b9 o5 =>
  StA 16 b9 o5 cs7 w fun w => K1 (IntKind.wrap .i64 (s1.1 + 1), ()) w))))))))) (IdxS lbasp lbasl s1.1 1 fun b10 o6 => LdV b10 o6 (At w) fun v22 => OpI .u8 v22 fun n7 => Req
  (n ≠ 0) (Req (0 ≤ (0 : Int) ∧ (0 : Int) < 16) (StV b1 (0 + Int.toNat 0 * 1) (.int .u8 (IntKind.wrap .u8 (IntKind.wrap .i64 (s1.1 + 1)))) w fun w => LdA 4 b3 0 (At w) fun
  cs8 => LdA 16 b1 0 (At w) fun cs9 => CallV Try.prog 17 #[.agg cs8, .int .i64 (Int.tmod (IntKind.wrap .i64 n7) n), .agg cs9] w fun v23 w => T2 v23 fun v24 v25 => OpS v24
  fun p4 l4 c5 => OpI .i64 v25 fun n8 => Cb (n8 != 0) (Ret [] (R (.bool false) w)) (LdA 4 b3 0 (At w) fun cs10 => CallV Try.prog 18 #[.agg cs10, .slice p4 l4 c5, .int .u32
  0] w fun v26 w => OpI .i64 v26 fun n9 => Cb (n9 != 0) (Ret [] (R (.bool false) w)) (LdA 16 b1 0 (At w) fun cs11 => IdxS p l (Int.tmod (IntKind.wrap .i64 n7) n) 16 fun b11
  o7 => StA 16 b11 o7 cs11 w fun w => K1 (IntKind.wrap .i64 (s1.1 + 1), ()) w))))))) (IdxS lbasp lbasl s1.1 1 fun b12 o8 => LdV b12 o8 (At w) fun v27 => OpI .u8 v27 fun n10
  => Req (n ≠ 0) (Req (0 ≤ (0 : Int) ∧ (0 : Int) < 16) (StV b1 (0 + Int.toNat 0 * 1) (.int .u8 (IntKind.wrap .u8 (IntKind.wrap .i64 (s1.1 + 1)))) w fun w => LdA 4 b3 0 (At
  w) fun cs12 => LdA 16 b1 0 (At w) fun cs13 => CallV Try.prog 17 #[.agg cs12, .int .i64 (Int.tmod (IntKind.wrap .i64 n10) n), .agg cs13] w fun v28 w => T2 v28 fun v29 v30
  => OpS v29 fun p5 l5 c6 => OpI .i64 v30 fun n11 => Cb (n11 != 0) (Ret [] (R (.bool false) w)) (LdA 4 b3 0 (At w) fun cs14 => CallV Try.prog 18 #[.agg cs14, .slice p5 l5
  c6, .int .u32 0] w fun v31 w => OpI .i64 v31 fun n12 => Cb (n12 != 0) (Ret [] (R (.bool false) w)) (LdA 16 b1 0 (At w) fun cs15 => IdxS p l (Int.tmod (IntKind.wrap .i64
  n10) n) 16 fun b13 o9 => StA 16 b13 o9 cs15 w fun w => K1 (IntKind.wrap .i64 (s1.1 + 1), ()) w)))))) (HeldR w fun S w => LdV b3 3 S fun v32 => OpS v32 fun p6 l6 c7 => LdV
  b2 0 S fun v33 => OpI .i64 v33 fun n13 => Req (n13 ≠ 0) (IdxS p6 l6 (Int.tmod (IntKind.wrap .i64 x) n13) 1 fun b14 o10 => LdV b14 o10 (At w) fun v34 => OpN v34 fun b15 o11
  => CallV Try.prog 24 #[.pointer (some ⟨b15, o11, none⟩)] w fun v35 w => Hld (S w) (HeldR w fun S w => LdV b3 3 S fun v36 => OpS v36 fun p7 l7 c8 => LdV b2 0 S fun v37 =>
  OpI .i64 v37 fun n14 => Req (n14 ≠ 0) (IdxS p7 l7 (Int.tmod (IntKind.wrap .i64 y) n14) 1 fun b16 o12 => LdV b16 o12 (At w) fun v38 => OpN v38 fun b17 o13 => CallV Try.prog
  24 #[.pointer (some ⟨b17, o13, none⟩)] w fun v39 w => Hld (S w) (LoopC (σ := Int × Unit) (fun _ s2 w K2 => Cb (decide (s2.1 < n)) (LdA 4 b3 0 (At w) fun cs16 => CallV
  Try.prog 25 #[.agg cs16, .int .i64 s2.1] w fun v40 w => T2 v40 fun v41 v42 => OpA 16 v41 fun cs17 => OpI .i64 v42 fun n15 => Alc 23 (zc Try.prog 23) w fun b18 w => StA 16
  b18 0 cs17 w fun w => Cb (n15 != 0) (Drw w fun w => Ret [] (R (.bool false) w)) (LdA 16 b18 0 (At w) fun cs18 => IdxS p l s2.1 16 fun b19 o14 => LdA 16 b19 o14 (At w) fun
  cs19 => EqB Try.prog .neq 23 (.tmp 161) (.tmp 165) (.agg cs18 : Value) (.agg cs19 : Value) (At w) fun g2 => Drw w fun w => Cb g2 (Ret [] (R (.bool false) w)) (K2
  (IntKind.wrap .i64 (s2.1 + 1), ()) w))) (Ret [] (R (.bool true) w))) (0, ()) w)))))))) (0, ()) w)))
theorem C_Two9 {a : Int} {b : Int} {c : Int} {lbasp : Option Addr} {lbasl : Nat} {lbasc : Nat} {data : Array Value} {x : Int} {y : Int} {ahead : Bool} {w : World} {R : Value → World → Prop} (h : F_Two9 a b c lbasp lbasl lbasc data x y ahead w R) : CallV Try.prog 4 #[.int .u8 a, .int .u8 b, .int .u8 c, .slice lbasp lbasl lbasc, .agg data, .int .u8 x, .int .u8 y, .bool ahead] w R := by
  exact calls_of_F (args := [.int .u8 a, .int .u8 b, .int .u8 c, .slice lbasp lbasl lbasc, .agg data, .int .u8 x, .int .u8 y, .bool ahead]) (mkAnn [(8, [(23, (.int .i64))]), (22, [(27, (.int .i64))])] [] [] [] [80, 91, 134, 145]) Try_mixed Try.func4 rfl rfl (by kernel_rfl) h
end Go.Proofs
