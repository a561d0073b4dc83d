/- PRINTED BY pr.py (own program): what the evaluator of <Name>Ev makes of the code of some functions. -/
import Derived.Test.YtdeaollkgckppaaChecked
import Derived.Test.YtdeaollkgckppaaEv
import Derived.Test.YtdeaollkgckppaaMix
namespace Go.Proofs
open Go.Ev
set_option linter.unusedVariables false
set_option maxRecDepth 100000
def F_ravelinlaw16_ScrubLost (a : Int) (datap : Option Addr) (datal : Nat) (datac : Nat) (x : Int) (other : Int) (w : World) (R : Value → World → Prop) : Prop :=
  Req ((4 : Int) ≠ 0) (DoQ Try.prog (Instr.build 25 #[(0, .int .i64 (IntKind.wrap .i64 ((IntKind.wrap .i64 (Int.tmod a 4)) + 4))), (1, .int .i64 2), (2, .int .i64 2)]) (At
  w) fun v => OpA 3 v fun cs => Alc 25 (zc Try.prog 25) w fun b w => StA 3 b 0 cs w fun w => CallV Try.prog 30 #[] w fun v1 w => OpN v1 fun b1 o => LdA 3 b 0 (At w) fun cs1
  => CallV Try.prog 31 #[.agg cs1, .pointer (some ⟨b1, o, none⟩)] w fun v2 w => T2 v2 fun v3 v4 => OpA 4 v3 fun cs2 => OpI .i64 v4 fun n => Alc 29 (zc Try.prog 29) w fun b2
  w => StA 4 b2 0 cs2 w fun w => CallV Try.prog 36 #[] w fun v5 w => OpB v5 fun g => Req ((!g) = (!g)) (Req ((!g) = (!g)) (Cb (cond (!g) true (n != 0)) (Ret [] (R (.bool
  false) w)) (LdV b2 3 (At w) fun v6 => OpS v6 fun p l c => LdV b 0 (At w) fun v7 => OpI .i64 v7 fun n1 => Cb (((l : Nat) : Int) != n1) (Ret [] (R (.bool false) w)) (LdA 3 b
  0 (At w) fun cs3 => CallV Try.prog 15 #[.agg cs3] w fun v8 w => T2 v8 fun v9 v10 => OpI .i64 v9 fun n2 => OpI .i64 v10 fun n3 => LoopC (σ := Int × Unit) (fun _ s1 w K1 =>
  Req ((decide (s1.1 < ((datal : Nat) : Int))) = (decide (s1.1 < ((datal : Nat) : Int)))) (Req ((decide (s1.1 < ((datal : Nat) : Int))) = (decide (s1.1 < ((datal : Nat) :
  Int)))) (Req ((decide (s1.1 < ((datal : Nat) : Int))) = (decide (s1.1 < ((datal : Nat) : Int)))) (Cb (cond (decide (s1.1 < ((datal : Nat) : Int))) (decide (s1.1 < n2))
  false) (HeldR w fun S w => LdA 4 b2 0 (At w) fun cs4 => IdxS datap datal s1.1 16 fun b3 o1 => LdA 16 b3 o1 (At w) fun cs5 => CallV Try.prog 17 #[.agg cs4, .int .i64 s1.1,
  .agg cs5] w fun v11 w => T2 v11 fun v12 v13 => OpS v12 fun p1 l1 c1 => OpI .i64 v13 fun n4 => Hld (S w) (Cb (n4 != 0) (Ret [] (R (.bool false) w)) (LdA 4 b2 0 (At w) fun
  cs6 => CallV Try.prog 18 #[.agg cs6, .slice p1 l1 c1, .int .u32 0] w fun v14 w => OpI .i64 v14 fun n5 => Cb (n5 != 0) (Ret [] (R (.bool false) w)) (K1 (IntKind.wrap .i64
  (s1.1 + 1), ()) w)))) (LdV b 0 (At w) fun v15 => OpI .i64 v15 fun n6 => Req (n6 ≠ 0) (LoopC (σ := Int × Unit) (fun _ s2 w K2 => Cb (decide (s2.1 < 3)) (HeldR w fun S w =>
  LdV b2 3 S fun v16 => OpS v16 fun p2 l2 c2 => LdV b 0 S fun v17 => OpI .i64 v17 fun n7 => Req (n7 ≠ 0) (IdxS p2 l2 (Int.tmod (IntKind.wrap .i64 ((Int.tmod (IntKind.wrap
  .i64 x) n6) + s2.1)) n7) 1 fun b4 o2 => LdV b4 o2 (At w) fun v18 => OpN v18 fun b5 o3 => CallV Try.prog 26 #[.pointer (some ⟨b5, o3, none⟩), .int .i64 0] w fun v19 w =>
  OpI .i64 v19 fun n8 => Hld (S w) (Cb (n8 != 0) (Ret [] (R (.bool false) w)) (K2 (IntKind.wrap .i64 (s2.1 + 1), ()) w)))) (HeldR w fun S w => LdV b2 3 S fun v20 => OpS v20
  fun p3 l3 c3 => LdV b 0 S fun v21 => OpI .i64 v21 fun n9 => Req (n9 ≠ 0) (IdxS p3 l3 (Int.tmod (IntKind.wrap .i64 other) n9) 1 fun b6 o4 => LdV b6 o4 (At w) fun v22 => OpN
  v22 fun b7 o5 => CallV Try.prog 26 #[.pointer (some ⟨b7, o5, none⟩), .int .i64 1] w fun v23 w => OpI .i64 v23 fun n10 => Hld (S w) (Cb (n10 != 0) (Ret [] (R (.bool false)
  w)) (CallV Try.prog 19 #[.pointer (some ⟨b1, o, none⟩)] w fun v24 w => OpI .i64 v24 fun n11 => LdA 4 b2 0 (At w) fun cs7 => CallV Try.prog 38 #[.agg cs7, .int .i64 0, .int
  .u32 0] w fun v25 w => T2 v25 fun v26 v27 => OpA 4 v26 fun cs8 => OpI .i64 v27 fun n12 => Alc 97 (zc Try.prog 97) w fun b8 w => StA 4 b8 0 cs8 w fun w => LdA 4 b2 0 (At w)
  fun cs9 => CallV Try.prog 41 #[.agg cs9, .int .i64 (Int.tmod (IntKind.wrap .i64 x) n6), .int .i64 0, .int .i64 9, .int .u32 0] w fun v28 w => T2 v28 fun v29 v30 => OpI
  .i64 v29 fun n13 => OpI .i64 v30 fun n14 => LdA 4 b2 0 (At w) fun cs10 => CallV Try.prog 39 #[.agg cs10] w fun v31 w => T2 v31 fun v32 v33 => OpB v32 fun g1 => OpI .i64
  v33 fun n15 => LdA 4 b2 0 (At w) fun cs11 => CallV Try.prog 23 #[.agg cs11, .int .i64 0, .int .i64 0] w fun v34 w => T3 v34 fun v35 v36 v37 => OpS v35 fun p4 l4 c4 => OpS
  v36 fun p5 l5 c5 => OpI .i64 v37 fun n16 => LdA 4 b2 0 (At w) fun cs12 => CallV Try.prog 23 #[.agg cs12, .int .i64 0, .int .i64 1] w fun v38 w => T3 v38 fun v39 v40 v41 =>
  OpS v39 fun p6 l6 c6 => OpS v40 fun p7 l7 c7 => OpI .i64 v41 fun n17 => JoinC (σ := Bool × Unit) (fun J3 => Cb (n12 == 0) (LdA 4 b8 0 (At w) fun cs13 => DoQ Try.prog
  (Instr.build 97 #[(0, .int .i64 2), (1, .int .i64 1), (2, .int .i64 1), (3, .int .i64 1)]) (At w) fun v42 => OpA 4 v42 fun cs14 => EqB Try.prog .eql 97 (.tmp 157) (.tmp
  158) (.agg cs13 : Value) (.agg cs14 : Value) (At w) fun g2 => Cb g2 (CallV Try.prog 19 #[.pointer (some ⟨b1, o, none⟩)] w fun v43 w => OpI .i64 v43 fun n18 => Req ((n18 ==
  (IntKind.wrap .i64 (n11 + 1))) = (n18 == (IntKind.wrap .i64 (n11 + 1)))) (Req ((n18 == (IntKind.wrap .i64 (n11 + 1))) = (n18 == (IntKind.wrap .i64 (n11 + 1)))) (Req ((cond
  (n18 == (IntKind.wrap .i64 (n11 + 1))) (n13 == 0) false) = (cond (n18 == (IntKind.wrap .i64 (n11 + 1))) (n13 == 0) false)) (Req ((cond (n18 == (IntKind.wrap .i64 (n11 +
  1))) (n13 == 0) false) = (cond (n18 == (IntKind.wrap .i64 (n11 + 1))) (n13 == 0) false)) (Req ((cond (cond (n18 == (IntKind.wrap .i64 (n11 + 1))) (n13 == 0) false) (n14 ==
  8) false) = (cond (cond (n18 == (IntKind.wrap .i64 (n11 + 1))) (n13 == 0) false) (n14 == 8) false)) (Req ((cond (cond (n18 == (IntKind.wrap .i64 (n11 + 1))) (n13 == 0)
  false) (n14 == 8) false) = (cond (cond (n18 == (IntKind.wrap .i64 (n11 + 1))) (n13 == 0) false) (n14 == 8) false)) (Req ((cond (cond (cond (n18 == (IntKind.wrap .i64 (n11
  + 1))) (n13 == 0) false) (n14 == 8) false) (n15 == 0) false) = (cond (cond (cond (n18 == (IntKind.wrap .i64 (n11 + 1))) (n13 == 0) false) (n14 == 8) false) (n15 == 0)
  false)) (Req ((cond (cond (cond (n18 == (IntKind.wrap .i64 (n11 + 1))) (n13 == 0) false) (n14 == 8) false) (n15 == 0) false) = (cond (cond (cond (n18 == (IntKind.wrap .i64
  (n11 + 1))) (n13 == 0) false) (n14 == 8) false) (n15 == 0) false)) (Req ((cond (cond (cond (cond (n18 == (IntKind.wrap .i64 (n11 + 1))) (n13 == 0) false) (n14 == 8) false)
  (n15 == 0) false) (!g1) false) = (cond (cond (cond (cond (n18 == (IntKind.wrap .i64 (n11 + 1))) (n13 == 0) false) (n14 == 8) false) (n15 == 0) false) (!g1) false)) (Req
  ((cond (cond (cond (cond (n18 == (IntKind.wrap .i64 (n11 + 1))) (n13 == 0) false) (n14 == 8) false) (n15 == 0) false) (!g1) false) = (cond (cond (cond (cond (n18 ==
  (IntKind.wrap .i64 (n11 + 1))) (n13 == 0) false) (n14 == 8) false) (n15 == 0) false) (!g1) false)) (Req ((cond (cond (cond (cond (cond (n18 == (IntKind.wrap .i64 (n11 +
  1))) (n13 == 0) false) (n14 == 8) false) (n15 == 0) false) (!g1) false) (n16 == 8) false) = (cond (cond (cond (cond (cond (n18 == (IntKind.wrap .i64 (n11 + 1))) (n13 == 0)
  false) (n14 == 8) false) (n15 == 0) false) (!g1) false) (n16 == 8) false)) (Req ((cond (cond (cond (cond (cond (n18 == (IntKind.wrap .i64 (n11 + 1))) (n13 == 0) false)
  (n14 == 8) false) (n15 == 0) false) (!g1) false) (n16 == 8) false) = (cond (cond (cond (cond (cond (n18 == (IntKind.wrap .i64 (n11 + 1))) (n13 == 0) false) (n14 == 8)
  false) (n15 == 0) false) (!g1) false) (n16 == 8) false)) (J3 (cond (cond (cond (cond (cond (cond (n18 == (IntKind.wrap .i64 (n11 + 1))) (n13 == 0) false) (n14 == 8) false)
  (n15 == 0) false) (!g1) false) (n16 == 8) false) (n17 == 0) false, ()) w))))))))))))) (Req (false = false) (Req (false = false) (Req (false = false) (Req (false = false)
  (Req (false = false) (Req (false = false) (Req (false = false) (Req (false = false) (Req (false = false) (Req (false = false) (Req (false = false) (Req (false = false) (J3
  (false, ()) w)))))))))))))) (Req (false = false) (Req (false = false) (Req (false = false) (Req (false = false) (Req (false = false) (Req (false = false) (Req (false =
  false) (Req (false = false) (Req (false = false) (Req (false = false) (Req (false = false) (Req (false = false) (J3 (false, ()) w)))))))))))))) (fun _ s3 w => Ret [] (R
  (.bool s3.1) w))))))) (0, ()) w)))))) (0, ()) w)))))
theorem C_ravelinlaw16_ScrubLost {a : Int} {datap : Option Addr} {datal : Nat} {datac : Nat} {x : Int} {other : Int} {w : World} {R : Value → World → Prop} (h : F_ravelinlaw16_ScrubLost a datap datal datac x other w R) : CallV Try.prog 12 #[.int .u8 a, .slice datap datal datac, .int .u8 x, .int .u8 other] w R := by
  exact calls_of_F (args := [.int .u8 a, .slice datap datal datac, .int .u8 x, .int .u8 other]) (mkAnnR [(8, [(15, (.int .i64))]), (15, [(19, (.int .i64))])] [] [] [] [81, 111, 122, 100037] [] [(27, [(8, .bool)])]) Try_mixed Try.func12 rfl rfl (by kernel_rfl) h
end Go.Proofs
