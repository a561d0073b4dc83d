/- PRINTED BY pr.py (own program): what the evaluator of <Name>Ev makes of the code of some functions. -/
import Derived.Test.YtacnieopbkeoiaaChecked
import Derived.Test.YtacnieopbkeoiaaEv
import Derived.Test.YtacnieopbkeoiaaMix
namespace Go.Proofs
open Go.Ev
set_option linter.unusedVariables false
set_option maxRecDepth 100000
def F_ravelinlaw11_CachePlays (room : Int) (scriptp : Option Addr) (scriptl : Nat) (scriptc : Nat) (w : World) (R : Value → World → Prop) : Prop :=
  CallV Try.prog 13 #[] w fun v w => OpB v fun g => Cb (!g) (Ret [] (R (.bool false) w)) (CallV Try.prog 12 #[.int .i64 room] w fun v1 w => T2 v1 fun v2 v3 => OpP v2 (OpI
  .i64 v3 fun n => Req ((decide (room < 1)) = (decide (room < 1))) (Req ((decide (room < 1)) = (decide (room < 1))) (Cb (cond (decide (room < 1)) true (decide (room > 64)))
  (Req ((n == 2) = (n == 2)) (Req ((n == 2) = (n == 2)) (Ret [] (R (.bool (cond (n == 2) true false)) w)))) (Req ((n != 0) = (n != 0)) (Req ((n != 0) = (n != 0)) (Cb (cond
  (n != 0) true true) (Ret [] (R (.bool false) w)) (DoQ Try.prog (Instr.build 57 #[(0, .int .i64 room)]) (At w) fun v4 => OpA 2 v4 fun cs => Alc 57 (zc Try.prog 57) w fun b
  w => StA 2 b 0 cs w fun w => LoopC (σ := Int × Unit) (fun _ s1 w K1 => Cb (decide (s1.1 < ((scriptl : Nat) : Int))) (IdxS scriptp scriptl s1.1 19 fun b1 o => LdA 19 b1 o
  (At w) fun cs1 => Alc 59 (zc Try.prog 59) w fun b2 w => StA 19 b2 0 cs1 w fun w => LdV b2 0 (At w) fun v5 => OpI .i64 v5 fun n1 => JoinC (σ := Int × Int × Unit) (fun J2 =>
  Cb (n1 == 1) (LdV b2 1 (At w) fun v6 => OpI .i64 v6 fun n2 => LdA 16 b2 3 (At w) fun cs2 => LdV b2 2 (At w) fun v7 => OpI .u64 v7 fun n3 => CallV Try.prog 14 #[.pointer
  none, .int .i64 n2, .agg cs2, .int .u64 n3] w fun v8 w => OpI .i64 v8 fun n4 => LdA 2 b 0 (At w) fun cs3 => LdV b2 1 (At w) fun v9 => OpI .i64 v9 fun n5 => LdA 16 b2 3 (At
  w) fun cs4 => LdV b2 2 (At w) fun v10 => OpI .u64 v10 fun n6 => CallV Try.prog 27 #[.agg cs3, .int .i64 n5, .agg cs4, .int .u64 n6] w fun v11 w => T2 v11 fun v12 v13 =>
  OpI .i64 v12 fun n7 => OpA 2 v13 fun cs5 => StA 2 b 0 cs5 w fun w => J2 (n4, (n7, ())) w) (Cb (n1 == 2) (LdV b2 1 (At w) fun v14 => OpI .i64 v14 fun n8 => LdV b2 2 (At w)
  fun v15 => OpI .u64 v15 fun n9 => CallV Try.prog 28 #[.pointer none, .int .i64 n8, .int .u64 n9] w fun v16 w => OpI .i64 v16 fun n10 => LdA 2 b 0 (At w) fun cs6 => LdV b2
  1 (At w) fun v17 => OpI .i64 v17 fun n11 => LdV b2 2 (At w) fun v18 => OpI .u64 v18 fun n12 => CallV Try.prog 29 #[.agg cs6, .int .i64 n11, .int .u64 n12] w fun v19 w =>
  T2 v19 fun v20 v21 => OpI .i64 v20 fun n13 => OpA 2 v21 fun cs7 => StA 2 b 0 cs7 w fun w => J2 (n10, (n13, ())) w) (Cb (n1 == 3) (LdV b2 1 (At w) fun v22 => OpI .i64 v22
  fun n14 => CallV Try.prog 15 #[.pointer none, .int .i64 n14] w fun v23 w => T3 v23 fun v24 v25 v26 => OpA 16 v24 fun cs8 => OpI .u64 v25 fun n15 => OpI .i64 v26 fun n16 =>
  Alc 31 (zc Try.prog 31) w fun b3 w => StA 16 b3 0 cs8 w fun w => LdA 2 b 0 (At w) fun cs9 => LdV b2 1 (At w) fun v27 => OpI .i64 v27 fun n17 => CallV Try.prog 30 #[.agg
  cs9, .int .i64 n17] w fun v28 w => T3 v28 fun v29 v30 v31 => OpA 16 v29 fun cs10 => OpI .u64 v30 fun n18 => OpI .i64 v31 fun n19 => Alc 31 (zc Try.prog 31) w fun b4 w =>
  StA 16 b4 0 cs10 w fun w => LdA 16 b3 0 (At w) fun cs11 => LdA 16 b4 0 (At w) fun cs12 => EqB Try.prog .neq 31 (.tmp 115) (.tmp 116) (.agg cs11 : Value) (.agg cs12 :
  Value) (At w) fun g1 => Req (g1 = g1) (Req (g1 = g1) (Req (g1 = g1) (Cb (cond g1 true (n15 != n18)) (Ret [] (R (.bool false) w)) (J2 (n16, (n19, ())) w))))) (Cb (n1 == 4)
  (CallV Try.prog 31 #[.pointer none] w fun v32 w => T2 v32 fun v33 v34 => OpA 19 v33 fun cs13 => OpI .i64 v34 fun n20 => Alc 42 (zc Try.prog 42) w fun b5 w => StA 19 b5 0
  cs13 w fun w => LdV b 1 (At w) fun v35 => OpS v35 fun p l c => Cb (!((n20 == 10) == (((l : Nat) : Int) == 0))) (Drw w fun w => Ret [] (R (.bool false) w)) (Cb (n20 == 0)
  (LdA 19 b5 0 (At w) fun cs14 => LdV b 1 (At w) fun v36 => OpS v36 fun p1 l1 c1 => IdxS p1 l1 0 19 fun b6 o1 => LdA 19 b6 o1 (At w) fun cs15 => EqB Try.prog .neq 42 (.tmp
  143) (.tmp 147) (.agg cs14 : Value) (.agg cs15 : Value) (At w) fun g2 => Cb g2 (Drw w fun w => Ret [] (R (.bool false) w)) (Cb (n20 != 0) (Cb (n20 != 10) (Drw w fun w =>
  Ret [] (R (.bool false) w)) (LdA 19 b5 0 (At w) fun cs16 => DoQ Try.prog (Instr.build 42 #[]) (At w) fun v37 => OpA 19 v37 fun cs17 => EqB Try.prog .neq 42 (.tmp 158)
  (.tmp 159) (.agg cs16 : Value) (.agg cs17 : Value) (At w) fun g3 => Drw w fun w => Cb g3 (Ret [] (R (.bool false) w)) (J2 (0, (0, ())) w))) (Drw w fun w => J2 (0, (0, ()))
  w))) (Cb (n20 != 0) (Cb (n20 != 10) (Drw w fun w => Ret [] (R (.bool false) w)) (LdA 19 b5 0 (At w) fun cs18 => DoQ Try.prog (Instr.build 42 #[]) (At w) fun v38 => OpA 19
  v38 fun cs19 => EqB Try.prog .neq 42 (.tmp 158) (.tmp 159) (.agg cs18 : Value) (.agg cs19 : Value) (At w) fun g4 => Drw w fun w => Cb g4 (Ret [] (R (.bool false) w)) (J2
  (0, (0, ())) w))) (Drw w fun w => J2 (0, (0, ())) w)))) (J2 (0, (0, ())) w))))) (fun _ s2 w => HeldR w fun S w => Cb (s2.1 != s2.2.1) (Hld (S w) (Hld (S w) (Hld (S w) (Hld
  (S w) (Ret [] (R (.bool false) w)))))) (LdV b 1 S fun v39 => OpS v39 fun p2 l2 c2 => CallV Try.prog 32 #[.pointer none] w fun v40 w => OpS v40 fun p3 l3 c3 => Hld (S w)
  (CallV Try.prog 21 #[.slice p3 l3 c3, .slice p2 l2 c2] w fun v41 w => OpB v41 fun g5 => Hld (S w) (Cb (!g5) (Hld (S w) (Hld (S w) (Ret [] (R (.bool false) w)))) (LdV b 1 S
  fun v42 => OpS v42 fun p4 l4 c4 => CallV Try.prog 16 #[.pointer none] w fun v43 w => OpI .i64 v43 fun n21 => Hld (S w) (Cb (n21 != ((l4 : Nat) : Int)) (Hld (S w) (Ret []
  (R (.bool false) w))) (LdV b 1 S fun v44 => OpS v44 fun p5 l5 c5 => CallV Try.prog 17 #[.pointer none] w fun v45 w => OpB v45 fun g6 => Hld (S w) (Cb (!(g6 == (((l5 : Nat)
  : Int) == room))) (Ret [] (R (.bool false) w)) (K1 (IntKind.wrap .i64 (s1.1 + 1), ()) w)))))))))) (Ret [] (R (.bool true) w))) (0, ()) w))))))) fun b7 o2 => OpI .i64 v3
  fun n22 => Req ((decide (room < 1)) = (decide (room < 1))) (Req ((decide (room < 1)) = (decide (room < 1))) (Cb (cond (decide (room < 1)) true (decide (room > 64))) (Req
  ((n22 == 2) = (n22 == 2)) (Req ((n22 == 2) = (n22 == 2)) (Ret [] (R (.bool (cond (n22 == 2) false false)) w)))) (Req ((n22 != 0) = (n22 != 0)) (Req ((n22 != 0) = (n22 !=
  0)) (Cb (cond (n22 != 0) true false) (Ret [] (R (.bool false) w)) (DoQ Try.prog (Instr.build 57 #[(0, .int .i64 room)]) (At w) fun v46 => OpA 2 v46 fun cs20 => Alc 57 (zc
  Try.prog 57) w fun b8 w => StA 2 b8 0 cs20 w fun w => LoopC (σ := Int × Unit) (fun _ s3 w K3 => Cb (decide (s3.1 < ((scriptl : Nat) : Int))) (IdxS scriptp scriptl s3.1 19
  fun b9 o3 => LdA 19 b9 o3 (At w) fun cs21 => Alc 59 (zc Try.prog 59) w fun b10 w => StA 19 b10 0 cs21 w fun w => LdV b10 0 (At w) fun v47 => OpI .i64 v47 fun n23 => JoinC
  (σ := Int × Int × Unit) (fun J4 => Cb (n23 == 1) (LdV b10 1 (At w) fun v48 => OpI .i64 v48 fun n24 => LdA 16 b10 3 (At w) fun cs22 => LdV b10 2 (At w) fun v49 => OpI .u64
  v49 fun n25 => CallV Try.prog 14 #[.pointer (some ⟨b7, o2, none⟩), .int .i64 n24, .agg cs22, .int .u64 n25] w fun v50 w => OpI .i64 v50 fun n26 => LdA 2 b8 0 (At w) fun
  cs23 => LdV b10 1 (At w) fun v51 => OpI .i64 v51 fun n27 => LdA 16 b10 3 (At w) fun cs24 => LdV b10 2 (At w) fun v52 => OpI .u64 v52 fun n28 => CallV Try.prog 27 #[.agg
  cs23, .int .i64 n27, .agg cs24, .int .u64 n28] w fun v53 w => T2 v53 fun v54 v55 => OpI .i64 v54 fun n29 => OpA 2 v55 fun cs25 => StA 2 b8 0 cs25 w fun w => J4 (n26, (n29,
  ())) w) (Cb (n23 == 2) (LdV b10 1 (At w) fun v56 => OpI .i64 v56 fun n30 => LdV b10 2 (At w) fun v57 => OpI .u64 v57 fun n31 => CallV Try.prog 28 #[.pointer (some ⟨b7, o2,
  none⟩), .int .i64 n30, .int .u64 n31] w fun v58 w => OpI .i64 v58 fun n32 => LdA 2 b8 0 (At w) fun cs26 => LdV b10 1 (At w) fun v59 => OpI .i64 v59 fun n33 => LdV b10 2
  (At w) fun v60 => OpI .u64 v60 fun n34 => CallV Try.prog 29 #[.agg cs26, .int .i64 n33, .int .u64 n34] w fun v61 w => T2 v61 fun v62 v63 => OpI .i64 v62 fun n35 => OpA 2
  v63 fun cs27 => StA 2 b8 0 cs27 w fun w => J4 (n32, (n35, ())) w) (Cb (n23 == 3) (LdV b10 1 (At w) fun v64 => OpI .i64 v64 fun n36 => CallV Try.prog 15 #[.pointer (some
  ⟨b7, o2, none⟩), .int .i64 n36] w fun v65 w => T3 v65 fun v66 v67 v68 => OpA 16 v66 fun cs28 => OpI .u64 v67 fun n37 => OpI .i64 v68 fun n38 => Alc 31 (zc Try.prog 31) w
  fun b11 w => StA 16 b11 0 cs28 w fun w => LdA 2 b8 0 (At w) fun cs29 => LdV b10 1 (At w) fun v69 => OpI .i64 v69 fun n39 => CallV Try.prog 30 #[.agg cs29, .int .i64 n39] w
  fun v70 w => T3 v70 fun v71 v72 v73 => OpA 16 v71 fun cs30 => OpI .u64 v72 fun n40 => OpI .i64 v73 fun n41 => Alc 31 (zc Try.prog 31) w fun b12 w => StA 16 b12 0 cs30 w
  fun w => LdA 16 b11 0 (At w) fun cs31 => LdA 16 b12 0 (At w) fun cs32 => EqB Try.prog .neq 31 (.tmp 115) (.tmp 116) (.agg cs31 : Value) (.agg cs32 : Value) (At w) fun g7
  => Req (g7 = g7) (Req (g7 = g7) (Req (g7 = g7) (Cb (cond g7 true (n37 != n40)) (Ret [] (R (.bool false) w)) (J4 (n38, (n41, ())) w))))) (Cb (n23 == 4) (CallV Try.prog 31
  #[.pointer (some ⟨b7, o2, none⟩)] w fun v74 w => T2 v74 fun v75 v76 => OpA 19 v75 fun cs33 => OpI .i64 v76 fun n42 => Alc 42 (zc Try.prog 42) w fun b13 w => StA 19 b13 0
  cs33 w fun w => LdV b8 1 (At w) fun v77 => OpS v77 fun p6 l6 c6 => Cb (!((n42 == 10) == (((l6 : Nat) : Int) == 0))) (Drw w fun w => Ret [] (R (.bool false) w)) (Cb (n42 ==
  0) (LdA 19 b13 0 (At w) fun cs34 => LdV b8 1 (At w) fun v78 => OpS v78 fun p7 l7 c7 => IdxS p7 l7 0 19 fun b14 o4 => LdA 19 b14 o4 (At w) fun cs35 => EqB Try.prog .neq 42
  (.tmp 143) (.tmp 147) (.agg cs34 : Value) (.agg cs35 : Value) (At w) fun g8 => Cb g8 (Drw w fun w => Ret [] (R (.bool false) w)) (Cb (n42 != 0) (Cb (n42 != 10) (Drw w fun
  w => Ret [] (R (.bool false) w)) (LdA 19 b13 0 (At w) fun cs36 => DoQ Try.prog (Instr.build 42 #[]) (At w) fun v79 => OpA 19 v79 fun cs37 => EqB Try.prog .neq 42 (.tmp
  158) (.tmp 159) (.agg cs36 : Value) (.agg cs37 : Value) (At w) fun g9 => Drw w fun w => Cb g9 (Ret [] (R (.bool false) w)) (J4 (0, (0, ())) w))) (Drw w fun w => J4 (0, (0,
  ())) w))) (Cb (n42 != 0) (Cb (n42 != 10) (Drw w fun w => Ret [] (R (.bool false) w)) (LdA 19 b13 0 (At w) fun cs38 => DoQ Try.prog (Instr.build 42 #[]) (At w) fun v80 =>
  OpA 19 v80 fun cs39 => EqB Try.prog .neq 42 (.tmp 158) (.tmp 159) (.agg cs38 : Value) (.agg cs39 : Value) (At w) fun g10 => Drw w fun w => Cb g10 (Ret [] (R (.bool false)
  w)) (J4 (0, (0, ())) w))) (Drw w fun w => J4 (0, (0, ())) w)))) (J4 (0, (0, ())) w))))) (fun _ s4 w => HeldR w fun S w => Cb (s4.1 != s4.2.1) (Hld (S w) (Hld (S w) (Hld (S
  w) (Hld (S w) (Ret [] (R (.bool false) w)))))) (LdV b8 1 S fun v81 => OpS v81 fun p8 l8 c8 => CallV Try.prog 32 #[.pointer (some ⟨b7, o2, none⟩)] w fun v82 w => OpS v82
  fun p9 l9 c9 => Hld (S w) (CallV Try.prog 21 #[.slice p9 l9 c9, .slice p8 l8 c8] w fun v83 w => OpB v83 fun g11 => Hld (S w) (Cb (!g11) (Hld (S w) (Hld (S w) (Ret [] (R
  (.bool false) w)))) (LdV b8 1 S fun v84 => OpS v84 fun p10 l10 c10 => CallV Try.prog 16 #[.pointer (some ⟨b7, o2, none⟩)] w fun v85 w => OpI .i64 v85 fun n43 => Hld (S w)
  (Cb (n43 != ((l10 : Nat) : Int)) (Hld (S w) (Ret [] (R (.bool false) w))) (LdV b8 1 S fun v86 => OpS v86 fun p11 l11 c11 => CallV Try.prog 17 #[.pointer (some ⟨b7, o2,
  none⟩)] w fun v87 w => OpB v87 fun g12 => Hld (S w) (Cb (!(g12 == (((l11 : Nat) : Int) == room))) (Ret [] (R (.bool false) w)) (K3 (IntKind.wrap .i64 (s3.1 + 1), ())
  w)))))))))) (Ret [] (R (.bool true) w))) (0, ()) w)))))))
theorem C_ravelinlaw11_CachePlays {room : Int} {scriptp : Option Addr} {scriptl : Nat} {scriptc : Nat} {w : World} {R : Value → World → Prop} (h : F_ravelinlaw11_CachePlays room scriptp scriptl scriptc w R) : CallV Try.prog 8 #[.int .i64 room, .slice scriptp scriptl scriptc] w R := by
  exact calls_of_F (args := [.int .i64 room, .slice scriptp scriptl scriptc]) (mkAnn [(10, [(8, (.int .i64))])] [(2, [(10, (.int .i64)), (11, (.int .i64))])] [] [] [169]) Try_mixed Try.func8 rfl rfl (by kernel_rfl) h
end Go.Proofs
