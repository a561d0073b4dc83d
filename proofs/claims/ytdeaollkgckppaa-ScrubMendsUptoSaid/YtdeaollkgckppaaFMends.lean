/- PRINTED BY pr.py (own program): what the evaluator of <Name>Ev makes of the code of some functions. -/
import Derived.Test.YtdeaollkgckppaaChecked
import Derived.Test.YtdeaollkgckppaaEv
import Derived.Test.YtdeaollkgckppaaMix
namespace Go.Proofs
open Go.Ev
set_option linter.unusedVariables false
set_option maxRecDepth 100000
def F_ravelinlaw16_ScrubMends (a : Int) (b : Int) (c : Int) (lbasp : Option Addr) (lbasl : Nat) (lbasc : Nat) (hurtp : Option Addr) (hurtl : Nat) (hurtc : Nat) (w : World) (R : Value → World → Prop) : Prop :=
  CallV Try.prog 35 #[.int .u8 a, .int .u8 b, .int .u8 c] w fun v w => OpA 3 v fun cs => Alc 25 (zc Try.prog 25) w fun b1 w => StA 3 b1 0 cs w fun w => CallV Try.prog 30 #[]
  w fun v1 w => OpN v1 fun b2 o => LdA 3 b1 0 (At w) fun cs1 => CallV Try.prog 31 #[.agg cs1, .pointer (some ⟨b2, o, none⟩)] w fun v2 w => T2 v2 fun v3 v4 => OpA 4 v3 fun
  cs2 => OpI .i64 v4 fun n => Alc 29 (zc Try.prog 29) w fun b3 w => StA 4 b3 0 cs2 w fun w => CallV Try.prog 36 #[] w fun v5 w => OpB v5 fun g => Req ((!g) = (!g)) (Req
  ((!g) = (!g)) (Cb (cond (!g) true (n != 0)) (Ret [] (R (.bool false) w)) (LdV b3 3 (At w) fun v6 => OpS v6 fun p l c1 => LdV b1 0 (At w) fun v7 => OpI .i64 v7 fun n1 => Cb
  (((l : Nat) : Int) != n1) (Ret [] (R (.bool false) w)) (LdA 3 b1 0 (At w) fun cs3 => CallV Try.prog 15 #[.agg cs3] w fun v8 w => T2 v8 fun v9 v10 => OpI .i64 v9 fun n2 =>
  OpI .i64 v10 fun n3 => LdV b1 1 (At w) fun v11 => OpI .i64 v11 fun n4 => LdV b1 2 (At w) fun v12 => OpI .i64 v12 fun n5 => DoV Try.prog (Instr.makeSlice 67 (.int .i64 n2)
  (.int .i64 n2)) w fun v13 w => OpS v13 fun p1 l1 c2 => LoopC (σ := Int × Unit) (fun _ s1 w K1 => Req ((decide (s1.1 < ((lbasl : Nat) : Int))) = (decide (s1.1 < ((lbasl :
  Nat) : Int)))) (Req ((decide (s1.1 < ((lbasl : Nat) : Int))) = (decide (s1.1 < ((lbasl : Nat) : Int)))) (Cb (cond (decide (s1.1 < ((lbasl : Nat) : Int))) (decide (s1.1 <
  30)) false) (IdxS lbasp lbasl s1.1 1 fun b4 o1 => LdV b4 o1 (At w) fun v14 => OpI .u8 v14 fun n6 => Req (n2 ≠ 0) (LdA 4 b3 0 (At w) fun cs4 => DoQ Try.prog (Instr.build 23
  #[(0, .int .u8 (IntKind.wrap .u8 (IntKind.wrap .i64 (s1.1 + 1))))]) (At w) fun v15 => OpA 16 v15 fun cs5 => CallV Try.prog 17 #[.agg cs4, .int .i64 (Int.tmod (IntKind.wrap
  .i64 n6) n2), .agg cs5] w fun v16 w => T2 v16 fun v17 v18 => OpS v17 fun p2 l2 c3 => OpI .i64 v18 fun n7 => JoinC (σ := Bool × Unit) (fun J2 => Cb (n7 != 0) (J2 (true, ())
  w) (LdA 4 b3 0 (At w) fun cs6 => CallV Try.prog 18 #[.agg cs6, .slice p2 l2 c3, .int .u32 0] w fun v19 w => OpI .i64 v19 fun n8 => J2 (n8 != 0, ()) w)) (fun _ s2 w => Cb
  s2.1 (Ret [] (R (.bool false) w)) (DoQ Try.prog (Instr.build 23 #[(0, .int .u8 (IntKind.wrap .u8 (IntKind.wrap .i64 (s1.1 + 1))))]) (At w) fun v20 => OpA 16 v20 fun cs7 =>
  IdxS p1 l1 (Int.tmod (IntKind.wrap .i64 n6) n2) 16 fun b5 o2 => StA 16 b5 o2 cs7 w fun w => K1 (IntKind.wrap .i64 (s1.1 + 1), ()) w)))) (DoV Try.prog (Instr.makeSlice 68
  (.int .i64 (IntKind.wrap .i64 (n4 * n5))) (.int .i64 (IntKind.wrap .i64 (n4 * n5)))) w fun v21 w => OpS v21 fun p3 l3 c4 => LoopC (σ := Int × Unit) (fun _ s3 w K3 => Cb
  (decide (s3.1 < ((hurtl : Nat) : Int))) (IdxS hurtp hurtl s3.1 1 fun b6 o3 => LdV b6 o3 (At w) fun v22 => OpI .u16 v22 fun n9 => Req (IntKind.wrap .i64 (n4 * n5) ≠ 0)
  (IdxS hurtp hurtl s3.1 1 fun b7 o4 => LdV b7 o4 (At w) fun v23 => OpI .u16 v23 fun n10 => Req ((64 : Int) ≠ 0) (LdV b1 0 (At w) fun v24 => OpI .i64 v24 fun n11 => Req (n11
  ≠ 0) (Drw w fun w => IdxS p3 l3 (Int.tmod (IntKind.wrap .i64 n9) (IntKind.wrap .i64 (n4 * n5))) 1 fun b8 o5 => LdV b8 o5 (At w) fun v25 => OpI .i64 v25 fun n12 => Cb (n12
  == 2) (K3 (IntKind.wrap .i64 (s3.1 + 1), ()) w) (IdxS p3 l3 (Int.tmod (IntKind.wrap .i64 n9) (IntKind.wrap .i64 (n4 * n5))) 1 fun b9 o6 => LdV b9 o6 (At w) fun v26 => OpI
  .i64 v26 fun n13 => IdxS p3 l3 (Int.tmod (IntKind.wrap .i64 n9) (IntKind.wrap .i64 (n4 * n5))) 1 fun b10 o7 => StV b10 o7 (.int .i64 (IntKind.wrap .i64 (n13 + 1))) w fun w
  => IdxS hurtp hurtl s3.1 1 fun b11 o8 => LdV b11 o8 (At w) fun v27 => OpI .u16 v27 fun n14 => Req ((2 : Int) ≠ 0) (Cb (Int.tmod n14 2 == 0) (LdV b3 3 (At w) fun v28 => OpS
  v28 fun p4 l4 c5 => IdxS p4 l4 (Int.tmod (IntKind.wrap .i64 (IntKind.wrap .u16 (Int.tdiv n10 64))) n11) 1 fun b12 o9 => LdV b12 o9 (At w) fun v29 => OpN v29 fun b13 o10 =>
  CallV Try.prog 26 #[.pointer (some ⟨b13, o10, none⟩), .int .i64 (Int.tmod (IntKind.wrap .i64 n9) (IntKind.wrap .i64 (n4 * n5)))] w fun v30 w => OpI .i64 v30 fun n15 => K3
  (IntKind.wrap .i64 (s3.1 + 1), ()) w) (HeldR w fun S w => LdV b3 3 S fun v31 => OpS v31 fun p5 l5 c6 => IdxS p5 l5 (Int.tmod (IntKind.wrap .i64 (IntKind.wrap .u16
  (Int.tdiv n10 64))) n11) 1 fun b14 o11 => LdV b14 o11 (At w) fun v32 => OpN v32 fun b15 o12 => IdxS hurtp hurtl s3.1 1 fun b16 o13 => LdV b16 o13 S fun v33 => OpI .u16 v33
  fun n16 => Req ((128 : Int) ≠ 0) (CallV Try.prog 37 #[.pointer (some ⟨b15, o12, none⟩), .int .i64 (Int.tmod (IntKind.wrap .i64 n9) (IntKind.wrap .i64 (n4 * n5))), .int
  .i64 (Int.tmod (IntKind.wrap .i64 n16) 128)] w fun v34 w => OpI .i64 v34 fun n17 => Hld (S w) (K3 (IntKind.wrap .i64 (s3.1 + 1), ()) w))))))))) (LoopC (σ := Int × Unit)
  (fun _ s4 w K4 => LdV b1 2 (At w) fun v35 => OpI .i64 v35 fun n18 => Cb (decide (s4.1 < n18)) (LdA 4 b3 0 (At w) fun cs8 => CallV Try.prog 38 #[.agg cs8, .int .i64 s4.1,
  .int .u32 0] w fun v36 w => T2 v36 fun v37 v38 => OpA 4 v37 fun cs9 => OpI .i64 v38 fun n19 => Alc 97 (zc Try.prog 97) w fun b17 w => StA 4 b17 0 cs9 w fun w => JoinC (σ
  := Bool × Unit) (fun J5 => Cb (n19 != 0) (J5 (true, ()) w) (LdV b17 3 (At w) fun v39 => OpI .i64 v39 fun n20 => Cb (n20 != 0) (J5 (true, ()) w) (LdV b17 0 (At w) fun v40
  => OpI .i64 v40 fun n21 => LdV b1 1 (At w) fun v41 => OpI .i64 v41 fun n22 => Cb (n21 != n22) (J5 (true, ()) w) (LdV b17 1 (At w) fun v42 => OpI .i64 v42 fun n23 => LdV
  b17 2 (At w) fun v43 => OpI .i64 v43 fun n24 => J5 (n23 != n24, ()) w)))) (fun _ s5 w => Cb s5.1 (Ret [] (R (.bool false) w)) (K4 (IntKind.wrap .i64 (s4.1 + 1), ()) w)))
  (LdA 4 b3 0 (At w) fun cs10 => CallV Try.prog 39 #[.agg cs10] w fun v44 w => T2 v44 fun v45 v46 => OpB v45 fun g1 => OpI .i64 v46 fun n25 => JoinC (σ := Bool × Unit) (fun
  J6 => Req ((n25 != 0) = (n25 != 0)) (Req ((n25 != 0) = (n25 != 0)) (J6 (cond (n25 != 0) true (!g1), ()) w))) (fun _ s6 w => Cb s6.1 (Ret [] (R (.bool false) w)) (LoopC (σ
  := Int × Unit) (fun _ s7 w K7 => Cb (decide (s7.1 < n2)) (LdA 4 b3 0 (At w) fun cs11 => CallV Try.prog 25 #[.agg cs11, .int .i64 s7.1] w fun v47 w => T2 v47 fun v48 v49 =>
  OpA 16 v48 fun cs12 => OpI .i64 v49 fun n26 => Alc 23 (zc Try.prog 23) w fun b18 w => StA 16 b18 0 cs12 w fun w => Cb (n26 != 0) (Drw w fun w => Ret [] (R (.bool false)
  w)) (LdA 16 b18 0 (At w) fun cs13 => IdxS p1 l1 s7.1 16 fun b19 o14 => LdA 16 b19 o14 (At w) fun cs14 => EqB Try.prog .neq 23 (.tmp 232) (.tmp 236) (.agg cs13 : Value)
  (.agg cs14 : Value) (At w) fun g2 => Drw w fun w => Cb g2 (Ret [] (R (.bool false) w)) (K7 (IntKind.wrap .i64 (s7.1 + 1), ()) w))) (Ret [] (R (.bool true) w))) (0, ())
  w)))) (0, ()) w)) (0, ()) w)))) (0, ()) w))))
theorem C_ravelinlaw16_ScrubMends {a : Int} {b : Int} {c : Int} {lbasp : Option Addr} {lbasl : Nat} {lbasc : Nat} {hurtp : Option Addr} {hurtl : Nat} {hurtc : Nat} {w : World} {R : Value → World → Prop} (h : F_ravelinlaw16_ScrubMends a b c lbasp lbasl lbasc hurtp hurtl hurtc w R) : CallV Try.prog 9 #[.int .u8 a, .int .u8 b, .int .u8 c, .slice lbasp lbasl lbasc, .slice hurtp hurtl hurtc] w R := by
  exact calls_of_F (args := [.int .u8 a, .int .u8 b, .int .u8 c, .slice lbasp lbasl lbasc, .slice hurtp hurtl hurtc]) (mkAnnR [(10, [(19, (.int .i64))]), (19, [(24, (.int .i64))]), (28, [(27, (.int .i64))]), (37, [(31, (.int .i64))])] [] [] [] [173, 100038] [] [(14, [(105, .bool)]), (31, [(206, .bool)]), (34, [(217, .bool)])]) Try_mixed Try.func9 rfl rfl (by kernel_rfl) h
end Go.Proofs
