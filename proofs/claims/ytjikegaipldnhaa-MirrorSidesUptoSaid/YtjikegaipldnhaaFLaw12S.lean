/- PRINTED BY pr.py (own program): what the evaluator of <Name>Ev makes of the code of some functions. -/
import Derived.Test.YtjikegaipldnhaaChecked
import Derived.Test.YtjikegaipldnhaaEv
import Derived.Test.YtjikegaipldnhaaMix
namespace Go.Proofs
open Go.Ev
set_option linter.unusedVariables false
set_option maxRecDepth 100000
def F_ravelinlaw12_MirrorSides (beforep : Option Addr) (beforel : Nat) (beforec : Nat) (behindp : Option Addr) (behindl : Nat) (behindc : Nat) (side : Bool) (epoch : Int) (w : World) (R : Value → World → Prop) : Prop :=
  CallV Try.prog 10 #[] w fun v w => OpN v fun b o => CallV Try.prog 11 #[.int .i64 20000, .pointer (some ⟨b, o, none⟩)] w fun v1 w => T2 v1 fun v2 v3 => OpN v2 fun b1 o1 =>
  OpI .i64 v3 fun n => CallV Try.prog 11 #[.int .i64 20000, .pointer (some ⟨b, o, none⟩)] w fun v4 w => T2 v4 fun v5 v6 => OpN v5 fun b2 o2 => OpI .i64 v6 fun n1 => CallV
  Try.prog 12 #[.pointer (some ⟨b1, o1, none⟩), .pointer (some ⟨b2, o2, none⟩), .int .i64 64] w fun v7 w => T2 v7 fun v8 v9 => OpN v8 fun b3 o3 => OpI .i64 v9 fun n2 =>
  CallV Try.prog 9 #[] w fun v10 w => OpB v10 fun g => Req ((!g) = (!g)) (Req ((!g) = (!g)) (Req ((cond (!g) true (n != 0)) = (cond (!g) true (n != 0))) (Req ((cond (!g)
  true (n != 0)) = (cond (!g) true (n != 0))) (Req ((cond (cond (!g) true (n != 0)) true (n1 != 0)) = (cond (cond (!g) true (n != 0)) true (n1 != 0))) (Req ((cond (cond (!g)
  true (n != 0)) true (n1 != 0)) = (cond (cond (!g) true (n != 0)) true (n1 != 0))) (Req ((cond (cond (cond (!g) true (n != 0)) true (n1 != 0)) true (n2 != 0)) = (cond (cond
  (cond (!g) true (n != 0)) true (n1 != 0)) true (n2 != 0))) (Req ((cond (cond (cond (!g) true (n != 0)) true (n1 != 0)) true (n2 != 0)) = (cond (cond (cond (!g) true (n !=
  0)) true (n1 != 0)) true (n2 != 0))) (Cb (cond (cond (cond (cond (!g) true (n != 0)) true (n1 != 0)) true (n2 != 0)) true false) (Ret [] (R (.bool false) w)) (CallV
  Try.prog 28 #[.pointer (some ⟨b3, o3, none⟩), .int .u32 epoch] w fun v11 w => OpI .i64 v11 fun n3 => Cb (n3 != 0) (Ret [] (R (.bool false) w)) (JoinC (σ := Int × (Nat ×
  Nat) × (Nat × Nat) × Unit) (fun J1 => Cb side (J1 (1, ((b2, o2), ((b1, o1), ()))) w) (J1 (0, ((b1, o1), ((b2, o2), ()))) w)) (fun _ s1 w => LoopC (σ := Int × Unit) (fun _
  s2 w K2 => Req ((decide (s2.1 < ((beforel : Nat) : Int))) = (decide (s2.1 < ((beforel : Nat) : Int)))) (Req ((decide (s2.1 < ((beforel : Nat) : Int))) = (decide (s2.1 <
  ((beforel : Nat) : Int)))) (Cb (cond (decide (s2.1 < ((beforel : Nat) : Int))) (decide (s2.1 < 60)) false) (Req ((2 : Int) ≠ 0) (IdxS beforep beforel s2.1 1 fun b4 o4 =>
  LdV b4 o4 (At w) fun v12 => OpI .u8 v12 fun n4 => Req ((40 : Int) ≠ 0) (DoQ Try.prog (Instr.build 40 #[(0, .int .u8 (IntKind.wrap .u8 s2.1))]) (At w) fun v13 => OpA 16 v13
  fun cs => CallV Try.prog 14 #[.pointer (some ⟨b3, o3, none⟩), .int .i64 (Int.tmod s2.1 2), .int .i64 (IntKind.wrap .i64 (Int.tmod n4 40)), .agg cs] w fun v14 w => T2 v14
  fun v15 v16 => OpI .u64 v15 fun n5 => OpI .i64 v16 fun n6 => Cb (n6 != 0) (Ret [] (R (.bool false) w)) (K2 (IntKind.wrap .i64 (s2.1 + 1), ()) w)))) (CallV Try.prog 29
  #[.pointer (some ⟨b3, o3, none⟩), .int .i64 s1.1] w fun v17 w => OpI .i64 v17 fun n7 => Cb (n7 != 0) (Ret [] (R (.bool false) w)) (CallV Try.prog 29 #[.pointer (some ⟨b3,
  o3, none⟩), .int .i64 (IntKind.wrap .i64 (1 - s1.1))] w fun v18 w => OpI .i64 v18 fun n8 => Cb (n8 != 13) (Ret [] (R (.bool false) w)) (CallV Try.prog 16 #[.pointer (some
  ⟨s1.2.1.1, s1.2.1.2, none⟩)] w fun v19 w => OpS v19 fun p l c => LoopC (σ := Int × Unit) (fun _ s3 w K3 => Req ((decide (s3.1 < ((behindl : Nat) : Int))) = (decide (s3.1 <
  ((behindl : Nat) : Int)))) (Req ((decide (s3.1 < ((behindl : Nat) : Int))) = (decide (s3.1 < ((behindl : Nat) : Int)))) (Cb (cond (decide (s3.1 < ((behindl : Nat) : Int)))
  (decide (s3.1 < 60)) false) (IdxS behindp behindl s3.1 1 fun b5 o5 => LdV b5 o5 (At w) fun v20 => OpI .u8 v20 fun n9 => Req ((40 : Int) ≠ 0) (DoQ Try.prog (Instr.build 40
  #[(0, .int .u8 (IntKind.wrap .u8 s3.1)), (1, .int .u8 1)]) (At w) fun v21 => OpA 16 v21 fun cs1 => CallV Try.prog 14 #[.pointer (some ⟨b3, o3, none⟩), .int .i64
  (IntKind.wrap .i64 (1 - s1.1)), .int .i64 (IntKind.wrap .i64 (Int.tmod n9 40)), .agg cs1] w fun v22 w => T2 v22 fun v23 v24 => OpI .u64 v23 fun n10 => OpI .i64 v24 fun n11
  => DoQ Try.prog (Instr.build 40 #[]) (At w) fun v25 => OpA 16 v25 fun cs2 => CallV Try.prog 14 #[.pointer (some ⟨b3, o3, none⟩), .int .i64 s1.1, .int .i64 1, .agg cs2] w
  fun v26 w => T2 v26 fun v27 v28 => OpI .u64 v27 fun n12 => OpI .i64 v28 fun n13 => Req ((n11 != 0) = (n11 != 0)) (Req ((n11 != 0) = (n11 != 0)) (Cb (cond (n11 != 0) true
  (n13 != 13)) (Ret [] (R (.bool false) w)) (K3 (IntKind.wrap .i64 (s3.1 + 1), ()) w))))) (CallV Try.prog 16 #[.pointer (some ⟨s1.2.1.1, s1.2.1.2, none⟩)] w fun v29 w => OpS
  v29 fun p1 l1 c1 => CallV Try.prog 25 #[.slice p1 l1 c1, .slice p l c] w fun v30 w => OpB v30 fun g1 => Cb (!g1) (Ret [] (R (.bool false) w)) (CallV Try.prog 30 #[.pointer
  (some ⟨b3, o3, none⟩), .int .i64 s1.1] w fun v31 w => OpI .i64 v31 fun n14 => Cb (n14 != 0) (Ret [] (R (.bool false) w)) (CallV Try.prog 30 #[.pointer (some ⟨b3, o3,
  none⟩), .int .i64 s1.1] w fun v32 w => OpI .i64 v32 fun n15 => Cb (n15 != 11) (Ret [] (R (.bool false) w)) (CallV Try.prog 16 #[.pointer (some ⟨s1.2.1.1, s1.2.1.2, none⟩)]
  w fun v33 w => OpS v33 fun p2 l2 c2 => CallV Try.prog 31 #[.pointer (some ⟨b3, o3, none⟩)] w fun v34 w => OpI .i64 v34 fun n16 => Cb (n16 != 0) (Ret [] (R (.bool false)
  w)) (CallV Try.prog 16 #[.pointer (some ⟨s1.2.1.1, s1.2.1.2, none⟩)] w fun v35 w => OpS v35 fun p3 l3 c3 => CallV Try.prog 25 #[.slice p2 l2 c2, .slice p3 l3 c3] w fun v36
  w => OpB v36 fun g2 => Cb (!g2) (Ret [] (R (.bool false) w)) (CallV Try.prog 16 #[.pointer (some ⟨s1.2.2.1.1, s1.2.2.1.2, none⟩)] w fun v37 w => OpS v37 fun p4 l4 c4 =>
  CallV Try.prog 25 #[.slice p2 l2 c2, .slice p4 l4 c4] w fun v38 w => OpB v38 fun g3 => Cb (!g3) (Ret [] (R (.bool false) w)) (HeldR w fun S w => CallV Try.prog 32
  #[.pointer (some ⟨b3, o3, none⟩)] w fun v39 w => OpS v39 fun p5 l5 c5 => Hld (S w) (Cb (((l2 : Nat) : Int) == (IntKind.wrap .i64 (((l5 : Nat) : Int) + 1))) (IdxS p2 l2 0
  19 fun b6 o6 => LdA 19 b6 o6 S fun cs3 => DoQ Try.prog (Instr.build 46 #[(0, .int .i64 6), (1, .int .u64 (IntKind.wrap .u64 epoch))]) S fun v40 => OpA 19 v40 fun cs4 =>
  EqB Try.prog .eql 46 (.tmp 201) (.tmp 204) (.agg cs3 : Value) (.agg cs4 : Value) S fun g4 => Cb g4 (Slc l2 c2 (some 1) none none fun l6 h m => CallV Try.prog 32 #[.pointer
  (some ⟨b3, o3, none⟩)] w fun v41 w => OpS v41 fun p6 l7 c6 => Hld (S w) (CallV Try.prog 25 #[.slice (slcP 19 l6 m p2) (h - l6) (m - l6), .slice p6 l7 c6] w fun v42 w =>
  OpB v42 fun g5 => Hld (S w) (Ret [] (R (.bool g5) w)))) (Hld (S w) (Hld (S w) (Ret [] (R (.bool false) w))))) (Hld (S w) (Hld (S w) (Ret [] (R (.bool false)
  w))))))))))))))) (0, ()) w)))))) (0, ()) w)))))))))))
theorem C_ravelinlaw12_MirrorSides {beforep : Option Addr} {beforel : Nat} {beforec : Nat} {behindp : Option Addr} {behindl : Nat} {behindc : Nat} {side : Bool} {epoch : Int} {w : World} {R : Value → World → Prop} (h : F_ravelinlaw12_MirrorSides beforep beforel beforec behindp behindl behindc side epoch w R) : CallV Try.prog 5 #[.slice beforep beforel beforec, .slice behindp behindl behindc, .bool side, .int .u32 epoch] w R := by
  exact calls_of_F (args := [.slice beforep beforel beforec, .slice behindp behindl behindc, .bool side, .int .u32 epoch]) (mkAnn [(11, [(19, (.int .i64))]), (20, [(23, (.int .i64))])] [] [(9, [(16, (.int .i64)), (17, .ptr), (18, .ptr)])] [] [194, 211, 100029, 100032, 100037, 100043]) Try_mixed Try.func5 rfl rfl (by kernel_rfl) h
end Go.Proofs
