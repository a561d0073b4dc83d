/- PRINTED BY pr.py (own program): what the evaluator of <Name>Ev makes of the code of some functions. -/
import Derived.Test.YtjikegaipldnhaaChecked
import Derived.Test.YtjikegaipldnhaaEv
import Derived.Test.YtjikegaipldnhaaMix
namespace Go.Proofs
open Go.Ev
set_option linter.unusedVariables false
set_option maxRecDepth 100000
def F_ravelinlaw10_IntentRedoes (a : Int) (putsp : Option Addr) (putsl : Nat) (putsc : Nat) (epoch : Int) (w : World) (R : Value → World → Prop) : Prop :=
  Req ((3 : Int) ≠ 0) (DoQ Try.prog (Instr.build 74 #[(0, .int .i64 (IntKind.wrap .i64 ((IntKind.wrap .i64 (Int.tmod a 3)) + 4))), (1, .int .i64 1), (2, .int .i64 3)]) (At
  w) fun v => OpA 3 v fun cs => Alc 74 (zc Try.prog 74) w fun b w => StA 3 b 0 cs w fun w => CallV Try.prog 10 #[] w fun v1 w => OpN v1 fun b1 o => LdA 3 b 0 (At w) fun cs1
  => CallV Try.prog 33 #[.agg cs1, .pointer (some ⟨b1, o, none⟩)] w fun v2 w => T2 v2 fun v3 v4 => OpA 4 v3 fun cs2 => OpI .i64 v4 fun n => Alc 77 (zc Try.prog 77) w fun b2
  w => StA 4 b2 0 cs2 w fun w => CallV Try.prog 11 #[.int .i64 60000, .pointer (some ⟨b1, o, none⟩)] w fun v5 w => T2 v5 fun v6 v7 => OpN v6 fun b3 o1 => OpI .i64 v7 fun n1
  => CallV Try.prog 17 #[] w fun v8 w => OpB v8 fun g => Req ((!g) = (!g)) (Req ((!g) = (!g)) (Req ((cond (!g) true (n != 0)) = (cond (!g) true (n != 0))) (Req ((cond (!g)
  true (n != 0)) = (cond (!g) true (n != 0))) (Cb (cond (cond (!g) true (n != 0)) true (n1 != 0)) (Ret [] (R (.bool false) w)) (DoV Try.prog (Instr.buildSlice 49 0 #[]) w
  fun v9 w => OpS v9 fun p l c => LoopC (σ := (Option Addr × Nat × Nat) × Int × Unit) (fun _ s1 w K1 => Req ((decide (s1.2.1 < ((putsl : Nat) : Int))) = (decide (s1.2.1 <
  ((putsl : Nat) : Int)))) (Req ((decide (s1.2.1 < ((putsl : Nat) : Int))) = (decide (s1.2.1 < ((putsl : Nat) : Int)))) (Cb (cond (decide (s1.2.1 < ((putsl : Nat) : Int)))
  (decide (s1.2.1 < 200)) false) (IdxS putsp putsl s1.2.1 19 fun b4 o2 => LdA 19 b4 o2 (At w) fun cs3 => Alc 85 (zc Try.prog 85) w fun b5 w => StA 19 b5 0 cs3 w fun w => LdV
  b5 0 (At w) fun v10 => OpI .i64 v10 fun n2 => Cb (decide (n2 ≥ 0)) (LdV b5 0 (At w) fun v11 => OpI .i64 v11 fun n3 => LdV b 0 (At w) fun v12 => OpI .i64 v12 fun n4 => Cb
  (decide (n3 < n4)) (LdV b5 1 (At w) fun v13 => OpI .i64 v13 fun n5 => Cb (decide (n5 ≥ 0)) (LdV b5 1 (At w) fun v14 => OpI .i64 v14 fun n6 => Cb (decide (n6 < 3)) (LdA 19
  b5 0 (At w) fun cs4 => DoV Try.prog (Instr.buildSlice 49 1 #[(0, .agg cs4)]) w fun v15 w => OpS v15 fun p1 l1 c1 => DoV Try.prog (Builtin.append_ #[49, 49] 49 #[.slice
  s1.1.1 s1.1.2.1 s1.1.2.2, .slice p1 l1 c1]) w fun v16 w => OpS v16 fun p2 l2 c2 => K1 ((p2, l2, c2), (IntKind.wrap .i64 (s1.2.1 + 1), ())) w) (K1 ((s1.1.1, s1.1.2.1,
  s1.1.2.2), (IntKind.wrap .i64 (s1.2.1 + 1), ())) w)) (K1 ((s1.1.1, s1.1.2.1, s1.1.2.2), (IntKind.wrap .i64 (s1.2.1 + 1), ())) w)) (K1 ((s1.1.1, s1.1.2.1, s1.1.2.2),
  (IntKind.wrap .i64 (s1.2.1 + 1), ())) w)) (K1 ((s1.1.1, s1.1.2.1, s1.1.2.2), (IntKind.wrap .i64 (s1.2.1 + 1), ())) w)) (DoV Try.prog (Instr.buildSlice 50 1 #[(0, .pointer
  (some ⟨b3, o1, none⟩))]) w fun v17 w => OpS v17 fun p3 l3 c3 => HeldR w fun S w => CallV Try.prog 20 #[.slice p3 l3 c3, .int .u64 5, .slice s1.1.1 s1.1.2.1 s1.1.2.2] w fun
  v18 w => OpI .i64 v18 fun n7 => Hld (S w) (Cb (n7 != 0) (Hld (S w) (Hld (S w) (Hld (S w) (Hld (S w) (Hld (S w) (Hld (S w) (Ret [] (R (.bool false) w)))))))) (LdA 4 b2 0 S
  fun cs5 => CallV Try.prog 16 #[.pointer (some ⟨b3, o1, none⟩)] w fun v19 w => OpS v19 fun p4 l4 c4 => Hld (S w) (DoV Try.prog (Instr.buildSlice 43 1 #[(0, .slice p4 l4
  c4)]) w fun v20 w => OpS v20 fun p5 l5 c5 => Hld (S w) (CallV Try.prog 34 #[.agg cs5, .int .u32 epoch, .slice p5 l5 c5] w fun v21 w => OpI .i64 v21 fun n8 => Hld (S w) (Cb
  (n8 != 0) (Hld (S w) (Hld (S w) (Hld (S w) (Ret [] (R (.bool false) w))))) (LdA 4 b2 0 S fun cs6 => CallV Try.prog 16 #[.pointer (some ⟨b3, o1, none⟩)] w fun v22 w => OpS
  v22 fun p6 l6 c6 => Hld (S w) (DoV Try.prog (Instr.buildSlice 43 1 #[(0, .slice p6 l6 c6)]) w fun v23 w => OpS v23 fun p7 l7 c7 => Hld (S w) (CallV Try.prog 34 #[.agg cs6,
  .int .u32 epoch, .slice p7 l7 c7] w fun v24 w => OpI .i64 v24 fun n9 => Hld (S w) (Cb (n9 != 0) (Ret [] (R (.bool false) w)) (LoopC (σ := Int × Unit) (fun _ s2 w K2 => Cb
  (decide (s2.1 < ((s1.1.2.1 : Nat) : Int))) (IdxS s1.1.1 s1.1.2.1 s2.1 19 fun b6 o3 => LdA 16 b6 (o3 + 2) (At w) fun cs7 => Alc 40 (zc Try.prog 40) w fun b7 w => StA 16 b7
  0 cs7 w fun w => LoopC (σ := Int × Unit) (fun _ s3 w K3 => Cb (decide (s3.1 < ((s1.1.2.1 : Nat) : Int))) (IdxS s1.1.1 s1.1.2.1 s3.1 19 fun b8 o4 => LdA 2 b8 o4 (At w) fun
  cs8 => IdxS s1.1.1 s1.1.2.1 s2.1 19 fun b9 o5 => LdA 2 b9 o5 (At w) fun cs9 => EqB Try.prog .eql 81 (.tmp 141) (.tmp 146) (.agg cs8 : Value) (.agg cs9 : Value) (At w) fun
  g1 => Drw w fun w => Cb g1 (IdxS s1.1.1 s1.1.2.1 s3.1 19 fun b10 o6 => LdA 16 b10 (o6 + 2) (At w) fun cs10 => StA 16 b7 0 cs10 w fun w => K3 (IntKind.wrap .i64 (s3.1 + 1),
  ()) w) (K3 (IntKind.wrap .i64 (s3.1 + 1), ()) w)) (HeldR w fun S w => LdV b2 3 S fun v25 => OpS v25 fun p8 l8 c8 => IdxS s1.1.1 s1.1.2.1 s2.1 19 fun b11 o7 => LdV b11 o7 S
  fun v26 => OpI .i64 v26 fun n10 => IdxS p8 l8 n10 1 fun b12 o8 => LdV b12 o8 S fun v27 => OpN v27 fun b13 o9 => IdxS s1.1.1 s1.1.2.1 s2.1 19 fun b14 o10 => LdV b14 (o10 +
  1) S fun v28 => OpI .i64 v28 fun n11 => (CallV Try.prog 35 #[.pointer (some ⟨b13, o9, none⟩), .int .i64 n11] w fun v29 w => T2 v29 fun v30 v31 => OpA 17 v30 fun cs11 =>
  OpI .i64 v31 fun n12 => Hld (S w) (Alc 83 (zc Try.prog 83) w fun b15 w => Hld (S w) (StA 17 b15 0 cs11 w fun w => Hld (S w) (Cb (n12 != 0) (Ret [] (R (.bool false) w))
  (LdA 16 b15 0 (At w) fun cs12 => LdA 16 b7 0 (At w) fun cs13 => EqB Try.prog .neq 40 (.tmp 178) (.tmp 179) (.agg cs12 : Value) (.agg cs13 : Value) (At w) fun g2 => Cb g2
  (Ret [] (R (.bool false) w)) (K2 (IntKind.wrap .i64 (s2.1 + 1), ()) w)))))) ∧ (Alc 83 (zc Try.prog 83) w fun b16 w => Hld (S w) (CallV Try.prog 35 #[.pointer (some ⟨b13,
  o9, none⟩), .int .i64 n11] w fun v32 w => T2 v32 fun v33 v34 => OpA 17 v33 fun cs14 => OpI .i64 v34 fun n13 => Hld (S w) (StA 17 b16 0 cs14 w fun w => Hld (S w) (Cb (n13
  != 0) (Ret [] (R (.bool false) w)) (LdA 16 b16 0 (At w) fun cs15 => LdA 16 b7 0 (At w) fun cs16 => EqB Try.prog .neq 40 (.tmp 178) (.tmp 179) (.agg cs15 : Value) (.agg
  cs16 : Value) (At w) fun g3 => Cb g3 (Ret [] (R (.bool false) w)) (K2 (IntKind.wrap .i64 (s2.1 + 1), ()) w)))))))) (IntKind.wrap .i64 (s2.1 + 1), ()) w) (CallV Try.prog 27
  #[.pointer (some ⟨b1, o, none⟩)] w fun v35 w => OpI .i64 v35 fun n14 => HeldR w fun S w => CallV Try.prog 22 #[.slice p3 l3 c3, .int .u64 5] w fun v36 w => OpI .i64 v36
  fun n15 => Hld (S w) (Cb (n15 != 0) (Hld (S w) (Hld (S w) (Hld (S w) (Ret [] (R (.bool false) w))))) (LdA 4 b2 0 S fun cs17 => CallV Try.prog 16 #[.pointer (some ⟨b3, o1,
  none⟩)] w fun v37 w => OpS v37 fun p9 l9 c9 => Hld (S w) (DoV Try.prog (Instr.buildSlice 43 1 #[(0, .slice p9 l9 c9)]) w fun v38 w => OpS v38 fun p10 l10 c10 => Hld (S w)
  (CallV Try.prog 34 #[.agg cs17, .int .u32 epoch, .slice p10 l10 c10] w fun v39 w => OpI .i64 v39 fun n16 => Hld (S w) (Cb (n16 != 0) (Ret [] (R (.bool false) w)) (CallV
  Try.prog 27 #[.pointer (some ⟨b1, o, none⟩)] w fun v40 w => OpI .i64 v40 fun n17 => Ret [] (R (.bool (n17 == (IntKind.wrap .i64 (n14 + 1)))) w))))))))) (0, ())
  w)))))))))))))) ((p, l, c), (0, ())) w))))))
theorem C_ravelinlaw10_IntentRedoes {a : Int} {putsp : Option Addr} {putsl : Nat} {putsc : Nat} {epoch : Int} {w : World} {R : Value → World → Prop} (h : F_ravelinlaw10_IntentRedoes a putsp putsl putsc epoch w R) : CallV Try.prog 7 #[.int .u8 a, .slice putsp putsl putsc, .int .u32 epoch] w R := by
  exact calls_of_F (args := [.int .u8 a, .slice putsp putsl putsc, .int .u32 epoch]) (mkAnn [(9, [(13, .slice), (14, (.int .i64))]), (18, [(17, (.int .i64))]), (22, [(19, (.int .i64))])] [] [] [] [97, 103, 105, 112, 114, 171, 185, 191, 193, 100028, 100037]) Try_mixed Try.func7 rfl rfl (by kernel_rfl) h
end Go.Proofs
