/- PRINTED BY pr.py (own program): what the evaluator of <Name>Ev makes of the code of some functions. -/
import Derived.Test.YtjikegaipldnhaaChecked
import Derived.Test.YtjikegaipldnhaaEv
import Derived.Test.YtjikegaipldnhaaMix
namespace Go.Proofs
open Go.Ev
set_option linter.unusedVariables false
set_option maxRecDepth 100000
def F_ravelinlaw12_MirrorBoth (lbasp : Option Addr) (lbasl : Nat) (lbasc : Nat) (from_p : Option Addr) (from_l : Nat) (from_c : Nat) (cut : Int) (drop : Bool) (w : World) (R : Value → World → Prop) : Prop :=
  CallV Try.prog 9 #[] w fun v w => OpB v fun g => Cb (!g) (Ret [] (R (.bool false) w)) (CallV Try.prog 10 #[] w fun v1 w => OpN v1 fun b o => CallV Try.prog 11 #[.int .i64
  30000, .pointer (some ⟨b, o, none⟩)] w fun v2 w => T2 v2 fun v3 v4 => OpN v3 fun b1 o1 => OpI .i64 v4 fun n => CallV Try.prog 11 #[.int .i64 30000, .pointer (some ⟨b, o,
  none⟩)] w fun v5 w => T2 v5 fun v6 v7 => OpN v6 fun b2 o2 => OpI .i64 v7 fun n1 => CallV Try.prog 12 #[.pointer (some ⟨b1, o1, none⟩), .pointer (some ⟨b2, o2, none⟩), .int
  .i64 64] w fun v8 w => T2 v8 fun v9 v10 => OpN v9 fun b3 o3 => OpI .i64 v10 fun n2 => Req ((n2 != 0) = (n2 != 0)) (Req ((n2 != 0) = (n2 != 0)) (Cb (cond (n2 != 0) true
  false) (Ret [] (R (.bool false) w)) (CallV Try.prog 13 #[.pointer (some ⟨b, o, none⟩), .int .i64 (IntKind.wrap .i64 cut)] w fun v11 w => OpI .i64 v11 fun n3 => Cb (n3 !=
  0) (Ret [] (R (.bool false) w)) (DoV Try.prog (Instr.makeSlice 35 (.int .i64 64) (.int .i64 64)) w fun v12 w => OpS v12 fun p l c => LoopC (σ := Int × Int × Unit) (fun _
  s1 w K1 => Req ((decide (s1.2.1 < ((lbasl : Nat) : Int))) = (decide (s1.2.1 < ((lbasl : Nat) : Int)))) (Req ((decide (s1.2.1 < ((lbasl : Nat) : Int))) = (decide (s1.2.1 <
  ((lbasl : Nat) : Int)))) (Req ((cond (decide (s1.2.1 < ((lbasl : Nat) : Int))) (decide (s1.2.1 < 200)) false) = (cond (decide (s1.2.1 < ((lbasl : Nat) : Int))) (decide
  (s1.2.1 < 200)) false)) (Req ((cond (decide (s1.2.1 < ((lbasl : Nat) : Int))) (decide (s1.2.1 < 200)) false) = (cond (decide (s1.2.1 < ((lbasl : Nat) : Int))) (decide
  (s1.2.1 < 200)) false)) (Cb (cond (cond (decide (s1.2.1 < ((lbasl : Nat) : Int))) (decide (s1.2.1 < 200)) false) (decide (s1.1 < 0)) false) (Cb (decide (s1.2.1 < ((from_l
  : Nat) : Int))) (IdxS from_p from_l s1.2.1 1 fun b4 o4 => LdV b4 o4 (At w) fun v13 => OpB v13 fun g1 => JoinC (σ := Int × Unit) (fun J2 => Cb g1 (J2 (1, ()) w) (J2 (0, ())
  w)) (fun _ s2 w => IdxS lbasp lbasl s1.2.1 1 fun b5 o5 => LdV b5 o5 (At w) fun v14 => OpI .u8 v14 fun n4 => Req ((64 : Int) ≠ 0) (DoQ Try.prog (Instr.build 40 #[(0, .int
  .u8 (IntKind.wrap .u8 s1.2.1)), (1, .int .u8 (IntKind.wrap .u8 (Int.tmod (IntKind.wrap .i64 n4) 64)))]) (At w) fun v15 => OpA 16 v15 fun cs => CallV Try.prog 14 #[.pointer
  (some ⟨b3, o3, none⟩), .int .i64 s2.1, .int .i64 (Int.tmod (IntKind.wrap .i64 n4) 64), .agg cs] w fun v16 w => T2 v16 fun v17 v18 => OpI .u64 v17 fun n5 => OpI .i64 v18
  fun n6 => Cb (n6 == 0) (IdxS p l (Int.tmod (IntKind.wrap .i64 n4) 64) 1 fun b6 o6 => StV b6 o6 (.int .i64 (IntKind.wrap .i64 (s1.2.1 + 1))) w fun w => K1 (s1.1,
  (IntKind.wrap .i64 (s1.2.1 + 1), ())) w) (K1 (s1.2.1, (IntKind.wrap .i64 (s1.2.1 + 1), ())) w)))) (JoinC (σ := Int × Unit) (fun J3 => J3 (0, ()) w) (fun _ s3 w => IdxS
  lbasp lbasl s1.2.1 1 fun b7 o7 => LdV b7 o7 (At w) fun v19 => OpI .u8 v19 fun n7 => Req ((64 : Int) ≠ 0) (DoQ Try.prog (Instr.build 40 #[(0, .int .u8 (IntKind.wrap .u8
  s1.2.1)), (1, .int .u8 (IntKind.wrap .u8 (Int.tmod (IntKind.wrap .i64 n7) 64)))]) (At w) fun v20 => OpA 16 v20 fun cs1 => CallV Try.prog 14 #[.pointer (some ⟨b3, o3,
  none⟩), .int .i64 s3.1, .int .i64 (Int.tmod (IntKind.wrap .i64 n7) 64), .agg cs1] w fun v21 w => T2 v21 fun v22 v23 => OpI .u64 v22 fun n8 => OpI .i64 v23 fun n9 => Cb (n9
  == 0) (IdxS p l (Int.tmod (IntKind.wrap .i64 n7) 64) 1 fun b8 o8 => StV b8 o8 (.int .i64 (IntKind.wrap .i64 (s1.2.1 + 1))) w fun w => K1 (s1.1, (IntKind.wrap .i64 (s1.2.1
  + 1), ())) w) (K1 (s1.2.1, (IntKind.wrap .i64 (s1.2.1 + 1), ())) w))))) (CallV Try.prog 15 #[.pointer (some ⟨b, o, none⟩)] w fun v24 w => CallV Try.prog 16 #[.pointer
  (some ⟨b1, o1, none⟩)] w fun v25 w => OpS v25 fun p1 l1 c1 => CallV Try.prog 16 #[.pointer (some ⟨b2, o2, none⟩)] w fun v26 w => OpS v26 fun p2 l2 c2 => DoV Try.prog
  (Instr.buildSlice 43 2 #[(0, .slice p1 l1 c1), (1, .slice p2 l2 c2)]) w fun v27 w => OpS v27 fun p3 l3 c3 => JoinC (σ := (Option Addr × Nat × Nat) × Unit) (fun J4 => Cb
  drop (Slc l3 c3 none (some 1) none fun l4 h m => J4 ((slcP 1 l4 m p3, h - l4, m - l4), ()) w) (J4 ((p3, l3, c3), ()) w)) (fun _ s4 w => DoV Try.prog (Instr.makeSlice 35
  (.int .i64 64) (.int .i64 64)) w fun v28 w => OpS v28 fun p4 l5 c4 => DoV Try.prog (Instr.makeSlice 44 (.int .i64 64) (.int .i64 64)) w fun v29 w => OpS v29 fun p5 l6 c5
  => LoopC (σ := Int × Unit) (fun _ s5 w K5 => Cb (decide (s5.1 < ((s4.1.2.1 : Nat) : Int))) (LoopC (σ := Int × Unit) (fun _ s6 w K6 => IdxS s4.1.1 s4.1.2.1 s5.1 1 fun b9 o9
  => LdV b9 o9 (At w) fun v30 => OpS v30 fun p6 l7 c6 => Cb (decide (s6.1 < ((l7 : Nat) : Int))) (IdxS s4.1.1 s4.1.2.1 s5.1 1 fun b10 o10 => LdV b10 o10 (At w) fun v31 =>
  OpS v31 fun p7 l8 c7 => IdxS p7 l8 s6.1 19 fun b11 o11 => LdA 19 b11 o11 (At w) fun cs2 => Alc 46 (zc Try.prog 46) w fun b12 w => StA 19 b12 0 cs2 w fun w => LdV b12 0 (At
  w) fun v32 => OpI .i64 v32 fun n10 => Cb (n10 != 1) (Ret [] (R (.bool false) w)) (LdV b12 2 (At w) fun v33 => OpI .i64 v33 fun n11 => Cb (decide (n11 < 0)) (Ret [] (R
  (.bool false) w)) (LdV b12 2 (At w) fun v34 => OpI .i64 v34 fun n12 => Cb (decide (n12 > 63)) (Ret [] (R (.bool false) w)) (LdV b12 1 (At w) fun v35 => OpI .u64 v35 fun
  n13 => LdV b12 2 (At w) fun v36 => OpI .i64 v36 fun n14 => IdxS p5 l6 n14 1 fun b13 o12 => LdV b13 o12 (At w) fun v37 => OpI .u64 v37 fun n15 => Drw w fun w => Cb (decide
  (n13 ≥ n15)) (LdV b12 2 (At w) fun v38 => OpI .i64 v38 fun n16 => LdV b12 1 (At w) fun v39 => OpI .u64 v39 fun n17 => IdxS p5 l6 n16 1 fun b14 o13 => StV b14 o13 (.int
  .u64 n17) w fun w => LdV b12 2 (At w) fun v40 => OpI .i64 v40 fun n18 => Req (0 ≤ (0 : Int) ∧ (0 : Int) < 16) (LdV b12 (3 + Int.toNat 0 * 1) (At w) fun v41 => OpI .u8 v41
  fun n19 => IdxS p4 l5 n18 1 fun b15 o14 => StV b15 o14 (.int .i64 (IntKind.wrap .i64 ((IntKind.wrap .i64 n19) + 1))) w fun w => K6 (IntKind.wrap .i64 (s6.1 + 1), ()) w))
  (K6 (IntKind.wrap .i64 (s6.1 + 1), ()) w))))) (K5 (IntKind.wrap .i64 (s5.1 + 1), ()) w)) (0, ()) w) (LoopC (σ := Int × Unit) (fun _ s7 w K7 => Cb (decide (s7.1 < 64)) (Cb
  (decide (s1.1 ≥ 0)) (IdxS lbasp lbasl s1.1 1 fun b16 o15 => LdV b16 o15 (At w) fun v42 => OpI .u8 v42 fun n20 => Req ((64 : Int) ≠ 0) (Cb (Int.tmod (IntKind.wrap .i64 n20)
  64 == s7.1) (IdxS p4 l5 s7.1 1 fun b17 o16 => LdV b17 o16 (At w) fun v43 => OpI .i64 v43 fun n21 => IdxS p4 l5 s7.1 1 fun b18 o17 => LdV b18 o17 (At w) fun v44 => OpI .i64
  v44 fun n22 => IdxS p l s7.1 1 fun b19 o18 => LdV b19 o18 (At w) fun v45 => OpI .i64 v45 fun n23 => Req ((n22 != n23) = (n22 != n23)) (Req ((n22 != n23) = (n22 != n23))
  (Drw w fun w => Cb (cond (n22 != n23) (!(n21 == (IntKind.wrap .i64 (s1.1 + 1)))) false) (Ret [] (R (.bool false) w)) (K7 (IntKind.wrap .i64 (s7.1 + 1), ()) w)))) (IdxS p4
  l5 s7.1 1 fun b20 o19 => LdV b20 o19 (At w) fun v46 => OpI .i64 v46 fun n24 => IdxS p l s7.1 1 fun b21 o20 => LdV b21 o20 (At w) fun v47 => OpI .i64 v47 fun n25 => Req
  ((n24 != n25) = (n24 != n25)) (Req ((n24 != n25) = (n24 != n25)) (Drw w fun w => Cb (cond (n24 != n25) (!false) false) (Ret [] (R (.bool false) w)) (K7 (IntKind.wrap .i64
  (s7.1 + 1), ()) w)))))) (IdxS p4 l5 s7.1 1 fun b22 o21 => LdV b22 o21 (At w) fun v48 => OpI .i64 v48 fun n26 => IdxS p l s7.1 1 fun b23 o22 => LdV b23 o22 (At w) fun v49
  => OpI .i64 v49 fun n27 => Req ((n26 != n27) = (n26 != n27)) (Req ((n26 != n27) = (n26 != n27)) (Drw w fun w => Cb (cond (n26 != n27) (!false) false) (Ret [] (R (.bool
  false) w)) (K7 (IntKind.wrap .i64 (s7.1 + 1), ()) w))))) (Ret [] (R (.bool true) w))) (0, ()) w)) (0, ()) w))))))) ((-1), (0, ())) w)))))
theorem C_ravelinlaw12_MirrorBoth {lbasp : Option Addr} {lbasl : Nat} {lbasc : Nat} {from_p : Option Addr} {from_l : Nat} {from_c : Nat} {cut : Int} {drop : Bool} {w : World} {R : Value → World → Prop} (h : F_ravelinlaw12_MirrorBoth lbasp lbasl lbasc from_p from_l from_c cut drop w R) : CallV Try.prog 3 #[.slice lbasp lbasl lbasc, .slice from_p from_l from_c, .int .u8 cut, .bool drop] w R := by
  exact calls_of_F (args := [.slice lbasp lbasl lbasc, .slice from_p from_l from_c, .int .u8 cut, .bool drop]) (mkAnn [(12, [(17, (.int .i64)), (18, (.int .i64))]), (29, [(26, (.int .i64))]), (32, [(27, (.int .i64))]), (41, [(29, (.int .i64))])] [] [(16, [(19, (.int .i64))]), (25, [(23, .slice)])] [] [100033, 100036, 100041, 100047]) Try_mixed Try.func3 rfl rfl (by kernel_rfl) h
end Go.Proofs
