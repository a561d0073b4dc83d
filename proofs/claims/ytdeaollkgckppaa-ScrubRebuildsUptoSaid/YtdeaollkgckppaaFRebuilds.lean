/- PRINTED BY pr.py (own program): what the evaluator of <Name>Ev makes of the code of some functions. -/
import Derived.Test.YtdeaollkgckppaaChecked
import Derived.Test.YtdeaollkgckppaaEv
import Derived.Test.YtdeaollkgckppaaMix
namespace Go.Proofs
open Go.Ev
set_option linter.unusedVariables false
set_option maxRecDepth 100000
def F_ravelinlaw16_ScrubRebuilds (a : Int) (b : Int) (c : Int) (lbasp : Option Addr) (lbasl : Nat) (lbasc : Nat) (d : Int) (gone : Int) (piecesp : Option Addr) (piecesl : Nat) (piecesc : Nat) (w : World) (R : Value → World → Prop) : Prop :=
  CallV Try.prog 35 #[.int .u8 a, .int .u8 b, .int .u8 c] w fun v w => OpA 3 v fun cs => Alc 25 (zc Try.prog 25) w fun b1 w => StA 3 b1 0 cs w fun w => JoinC (σ := (Nat ×
  Nat) × Int × Unit) (fun J1 => HeldR w fun S w => LdA 3 b1 0 S fun cs1 => (CallV Try.prog 30 #[] w fun v1 w => OpN v1 fun b2 o => Hld (S w) ((CallV Try.prog 31 #[.agg cs1,
  .pointer (some ⟨b2, o, none⟩)] w fun v2 w => T2 v2 fun v3 v4 => OpA 4 v3 fun cs2 => OpI .i64 v4 fun n => Hld (S w) (Alc 29 (zc Try.prog 29) w fun b3 w => Hld (S w) (StA 4
  b3 0 cs2 w fun w => Hld (S w) (J1 ((b3, 0), (n, ())) w)))) ∧ (Alc 29 (zc Try.prog 29) w fun b4 w => Hld (S w) (CallV Try.prog 31 #[.agg cs1, .pointer (some ⟨b2, o, none⟩)]
  w fun v5 w => T2 v5 fun v6 v7 => OpA 4 v6 fun cs3 => OpI .i64 v7 fun n1 => Hld (S w) (StA 4 b4 0 cs3 w fun w => Hld (S w) (J1 ((b4, 0), (n1, ())) w)))))) ∧ (Alc 29 (zc
  Try.prog 29) w fun b5 w => Hld (S w) (CallV Try.prog 30 #[] w fun v8 w => OpN v8 fun b6 o1 => Hld (S w) (CallV Try.prog 31 #[.agg cs1, .pointer (some ⟨b6, o1, none⟩)] w
  fun v9 w => T2 v9 fun v10 v11 => OpA 4 v10 fun cs4 => OpI .i64 v11 fun n2 => Hld (S w) (StA 4 b5 0 cs4 w fun w => Hld (S w) (J1 ((b5, 0), (n2, ())) w)))))) (fun _ s1 w =>
  CallV Try.prog 36 #[] w fun v12 w => OpB v12 fun g => Req ((!g) = (!g)) (Req ((!g) = (!g)) (Cb (cond (!g) true (s1.2.1 != 0)) (Ret [] (R (.bool false) w)) (LdV s1.1.1
  (s1.1.2 + 3) (At w) fun v13 => OpS v13 fun p l c1 => LdV b1 0 (At w) fun v14 => OpI .i64 v14 fun n3 => Cb (((l : Nat) : Int) != n3) (Ret [] (R (.bool false) w)) (LdA 3 b1
  0 (At w) fun cs5 => CallV Try.prog 15 #[.agg cs5] w fun v15 w => T2 v15 fun v16 v17 => OpI .i64 v16 fun n4 => OpI .i64 v17 fun n5 => LdV b1 1 (At w) fun v18 => OpI .i64
  v18 fun n6 => LdV b1 2 (At w) fun v19 => OpI .i64 v19 fun n7 => DoV Try.prog (Instr.makeSlice 67 (.int .i64 n4) (.int .i64 n4)) w fun v20 w => OpS v20 fun p1 l1 c2 =>
  LoopC (σ := Int × Unit) (fun _ s2 w K2 => Req ((decide (s2.1 < ((lbasl : Nat) : Int))) = (decide (s2.1 < ((lbasl : Nat) : Int)))) (Req ((decide (s2.1 < ((lbasl : Nat) :
  Int))) = (decide (s2.1 < ((lbasl : Nat) : Int)))) (Cb (cond (decide (s2.1 < ((lbasl : Nat) : Int))) (decide (s2.1 < 30)) false) (IdxS lbasp lbasl s2.1 1 fun b7 o2 => LdV
  b7 o2 (At w) fun v21 => OpI .u8 v21 fun n8 => Req (n4 ≠ 0) (LdA 4 s1.1.1 s1.1.2 (At w) fun cs6 => DoQ Try.prog (Instr.build 23 #[(0, .int .u8 (IntKind.wrap .u8
  (IntKind.wrap .i64 (s2.1 + 1)))), (1, .int .u8 9)]) (At w) fun v22 => OpA 16 v22 fun cs7 => CallV Try.prog 17 #[.agg cs6, .int .i64 (Int.tmod (IntKind.wrap .i64 n8) n4),
  .agg cs7] w fun v23 w => T2 v23 fun v24 v25 => OpS v24 fun p2 l2 c3 => OpI .i64 v25 fun n9 => Cb (n9 != 0) (Ret [] (R (.bool false) w)) (LdA 4 s1.1.1 s1.1.2 (At w) fun cs8
  => CallV Try.prog 18 #[.agg cs8, .slice p2 l2 c3, .int .u32 0] w fun v26 w => OpI .i64 v26 fun n10 => Cb (n10 != 0) (Ret [] (R (.bool false) w)) (DoQ Try.prog (Instr.build
  23 #[(0, .int .u8 (IntKind.wrap .u8 (IntKind.wrap .i64 (s2.1 + 1)))), (1, .int .u8 9)]) (At w) fun v27 => OpA 16 v27 fun cs9 => IdxS p1 l1 (Int.tmod (IntKind.wrap .i64 n8)
  n4) 16 fun b8 o3 => StA 16 b8 o3 cs9 w fun w => K2 (IntKind.wrap .i64 (s2.1 + 1), ()) w)))) (LdV b1 0 (At w) fun v28 => OpI .i64 v28 fun n11 => Req (n11 ≠ 0) (LdV b1 0 (At
  w) fun v29 => OpI .i64 v29 fun n12 => Req (n12 ≠ 0) (Drw w fun w => LdV s1.1.1 (s1.1.2 + 3) (At w) fun v30 => OpS v30 fun p3 l3 c4 => IdxS p3 l3 (Int.tmod (IntKind.wrap
  .i64 gone) n12) 1 fun b9 o4 => LdV b9 o4 (At w) fun v31 => OpN v31 fun b10 o5 => CallV Try.prog 24 #[.pointer (some ⟨b10, o5, none⟩)] w fun v32 w => LdV s1.1.1 (s1.1.2 +
  3) (At w) fun v33 => OpS v33 fun p4 l4 c5 => IdxS p4 l4 (Int.tmod (IntKind.wrap .i64 d) n11) 1 fun b11 o6 => LdV b11 o6 (At w) fun v34 => OpN v34 fun b12 o7 => CallV
  Try.prog 40 #[.pointer (some ⟨b12, o7, none⟩)] w fun v35 w => LoopC (σ := Int × Int × Unit) (fun _ s3 w K3 => Req ((decide (s3.2.1 < ((piecesl : Nat) : Int))) = (decide
  (s3.2.1 < ((piecesl : Nat) : Int)))) (Req ((decide (s3.2.1 < ((piecesl : Nat) : Int))) = (decide (s3.2.1 < ((piecesl : Nat) : Int)))) (Req ((decide (s3.2.1 < ((piecesl :
  Nat) : Int))) = (decide (s3.2.1 < ((piecesl : Nat) : Int)))) (Cb (cond (decide (s3.2.1 < ((piecesl : Nat) : Int))) (decide (s3.1 < IntKind.wrap .i64 (n6 * n7))) false)
  (IdxS piecesp piecesl s3.2.1 1 fun b13 o8 => LdV b13 o8 (At w) fun v36 => OpI .u8 v36 fun n13 => Req ((4 : Int) ≠ 0) (LdA 4 s1.1.1 s1.1.2 (At w) fun cs10 => CallV Try.prog
  41 #[.agg cs10, .int .i64 (Int.tmod (IntKind.wrap .i64 d) n11), .int .i64 s3.1, .int .i64 (IntKind.wrap .i64 (Int.tmod n13 4)), .int .u32 0] w fun v37 w => T2 v37 fun v38
  v39 => OpI .i64 v38 fun n14 => OpI .i64 v39 fun n15 => JoinC (σ := Bool × Unit) (fun J4 => Cb (n15 != 0) (J4 (true, ()) w) (DoQ Try.prog (Builtin.min_ #[3, 3] 3 #[.int
  .i64 (IntKind.wrap .i64 (n6 * n7)), .int .i64 (IntKind.wrap .i64 (s3.1 + (IntKind.wrap .i64 (Int.tmod n13 4))))]) (At w) fun v40 => OpI .i64 v40 fun n16 => J4 (n14 != n16,
  ()) w)) (fun _ s4 w => Cb s4.1 (Ret [] (R (.bool false) w)) (K3 (n14, (IntKind.wrap .i64 (s3.2.1 + 1), ())) w)))) (LdA 4 s1.1.1 s1.1.2 (At w) fun cs11 => CallV Try.prog 41
  #[.agg cs11, .int .i64 (Int.tmod (IntKind.wrap .i64 d) n11), .int .i64 s3.1, .int .i64 (IntKind.wrap .i64 (n6 * n7)), .int .u32 0] w fun v41 w => T2 v41 fun v42 v43 => OpI
  .i64 v42 fun n17 => OpI .i64 v43 fun n18 => JoinC (σ := Bool × Unit) (fun J5 => Req ((n18 != 0) = (n18 != 0)) (Req ((n18 != 0) = (n18 != 0)) (Req ((n18 != 0) = (n18 != 0))
  (J5 (cond (n18 != 0) true (n17 != (IntKind.wrap .i64 (n6 * n7))), ()) w)))) (fun _ s5 w => Cb s5.1 (Ret [] (R (.bool false) w)) (LdV b1 0 (At w) fun v44 => OpI .i64 v44
  fun n19 => Req (n19 ≠ 0) (JoinC (σ := Int × Unit) (fun J6 => Cb (Int.tmod (IntKind.wrap .i64 ((Int.tmod (IntKind.wrap .i64 d) n11) + 1)) n19 == (Int.tmod (IntKind.wrap
  .i64 gone) n12)) (LdV b1 0 (At w) fun v45 => OpI .i64 v45 fun n20 => Req (n20 ≠ 0) (J6 (Int.tmod (IntKind.wrap .i64 ((Int.tmod (IntKind.wrap .i64 d) n11) + 2)) n20, ())
  w)) (J6 (Int.tmod (IntKind.wrap .i64 ((Int.tmod (IntKind.wrap .i64 d) n11) + 1)) n19, ()) w)) (fun _ s6 w => LdV s1.1.1 (s1.1.2 + 3) (At w) fun v46 => OpS v46 fun p5 l5 c6
  => IdxS p5 l5 (Int.tmod (IntKind.wrap .i64 gone) n12) 1 fun b14 o9 => LdV b14 o9 (At w) fun v47 => OpN v47 fun b15 o10 => CallV Try.prog 24 #[.pointer (some ⟨b15, o10,
  none⟩)] w fun v48 w => LdV s1.1.1 (s1.1.2 + 3) (At w) fun v49 => OpS v49 fun p6 l6 c7 => IdxS p6 l6 s6.1 1 fun b16 o11 => LdV b16 o11 (At w) fun v50 => OpN v50 fun b17 o12
  => CallV Try.prog 24 #[.pointer (some ⟨b17, o12, none⟩)] w fun v51 w => Cb (Int.tmod (IntKind.wrap .i64 d) n11 == (Int.tmod (IntKind.wrap .i64 gone) n12)) (LdV s1.1.1
  (s1.1.2 + 3) (At w) fun v52 => OpS v52 fun p7 l7 c8 => IdxS p7 l7 (Int.tmod (IntKind.wrap .i64 d) n11) 1 fun b18 o13 => LdV b18 o13 (At w) fun v53 => OpN v53 fun b19 o14
  => Ret [] (R (.bool true) w)) (LoopC (σ := Int × Unit) (fun _ s7 w K7 => Cb (decide (s7.1 < n4)) (LdA 4 s1.1.1 s1.1.2 (At w) fun cs12 => CallV Try.prog 25 #[.agg cs12,
  .int .i64 s7.1] w fun v54 w => T2 v54 fun v55 v56 => OpA 16 v55 fun cs13 => OpI .i64 v56 fun n21 => Alc 23 (zc Try.prog 23) w fun b20 w => StA 16 b20 0 cs13 w fun w => Cb
  (n21 != 0) (Drw w fun w => Ret [] (R (.bool false) w)) (LdA 16 b20 0 (At w) fun cs14 => IdxS p1 l1 s7.1 16 fun b21 o15 => LdA 16 b21 o15 (At w) fun cs15 => EqB Try.prog
  .neq 23 (.tmp 237) (.tmp 241) (.agg cs14 : Value) (.agg cs15 : Value) (At w) fun g1 => Drw w fun w => Cb g1 (Ret [] (R (.bool false) w)) (K7 (IntKind.wrap .i64 (s7.1 + 1),
  ()) w))) (Ret [] (R (.bool true) w))) (0, ()) w)))))))))) (0, (0, ())) w)))))) (0, ()) w)))))
theorem C_ravelinlaw16_ScrubRebuilds {a : Int} {b : Int} {c : Int} {lbasp : Option Addr} {lbasl : Nat} {lbasc : Nat} {d : Int} {gone : Int} {piecesp : Option Addr} {piecesl : Nat} {piecesc : Nat} {w : World} {R : Value → World → Prop} (h : F_ravelinlaw16_ScrubRebuilds a b c lbasp lbasl lbasc d gone piecesp piecesl piecesc w R) : CallV Try.prog 10 #[.int .u8 a, .int .u8 b, .int .u8 c, .slice lbasp lbasl lbasc, .int .u8 d, .int .u8 gone, .slice piecesp piecesl piecesc] w R := by
  exact calls_of_F (args := [.int .u8 a, .int .u8 b, .int .u8 c, .slice lbasp lbasl lbasc, .int .u8 d, .int .u8 gone, .slice piecesp piecesl piecesc]) (mkAnnR [(9, [(22, (.int .i64))]), (21, [(28, (.int .i64)), (29, (.int .i64))]), (39, [(34, (.int .i64))])] [] [(33, [(33, (.int .i64))])] [] [43, 44, 100043] [] [(2, [(16, .ptr), (17, (.int .i64))]), (25, [(172, .bool)]), (29, [(188, .bool)])]) Try_mixed Try.func10 rfl rfl (by kernel_rfl) h
end Go.Proofs
