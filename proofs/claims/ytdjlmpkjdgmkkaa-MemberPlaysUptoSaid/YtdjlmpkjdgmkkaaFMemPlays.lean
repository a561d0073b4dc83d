/- PRINTED BY pr.py (own program): what the evaluator of <Name>Ev makes of the code of some functions. -/
import Derived.Test.YtdjlmpkjdgmkkaaChecked
import Derived.Test.YtdjlmpkjdgmkkaaEv
import Derived.Test.YtdjlmpkjdgmkkaaMix
namespace Go.Proofs
open Go.Ev
set_option linter.unusedVariables false
set_option maxRecDepth 100000
def F_ravelinlaw15_MemberPlays (disks : Int) (scriptp : Option Addr) (scriptl : Nat) (scriptc : Nat) (w : World) (R : Value → World → Prop) : Prop :=
  CallV Try.prog 18 #[] w fun v w => OpB v fun g => Cb (!g) (Ret [] (R (.bool false) w)) (CallV Try.prog 17 #[.int .i64 disks] w fun v1 w => T2 v1 fun v2 v3 => OpP v2 (OpI
  .i64 v3 fun n => Req ((decide (disks < 1)) = (decide (disks < 1))) (Req ((decide (disks < 1)) = (decide (disks < 1))) (Cb (cond (decide (disks < 1)) true (decide (disks >
  32))) (Req ((n == 2) = (n == 2)) (Req ((n == 2) = (n == 2)) (Ret [] (R (.bool (cond (n == 2) true false)) w)))) (Req ((n != 0) = (n != 0)) (Req ((n != 0) = (n != 0)) (Cb
  (cond (n != 0) true true) (Ret [] (R (.bool false) w)) (CallV Try.prog 27 #[.int .i64 disks] w fun v4 w => OpA 7 v4 fun cs => Alc 50 (zc Try.prog 50) w fun b w => StA 7 b
  0 cs w fun w => LoopC (σ := Int × Unit) (fun _ s1 w K1 => Cb (decide (s1.1 < ((scriptl : Nat) : Int))) (IdxS scriptp scriptl s1.1 3 fun b1 o => LdA 3 b1 o (At w) fun cs1
  => Alc 53 (zc Try.prog 53) w fun b2 w => StA 3 b2 0 cs1 w fun w => LdV b2 0 (At w) fun v5 => OpI .i64 v5 fun n1 => JoinC (σ := Int × Int × Int × Int × Unit) (fun J2 => Cb
  (n1 == 1) (LdV b2 1 (At w) fun v6 => OpI .i64 v6 fun n2 => CallV Try.prog 23 #[.pointer none, .int .i64 n2] w fun v7 w => OpI .i64 v7 fun n3 => LdA 7 b 0 (At w) fun cs2 =>
  LdV b2 1 (At w) fun v8 => OpI .i64 v8 fun n4 => CallV Try.prog 28 #[.agg cs2, .int .i64 n4] w fun v9 w => T2 v9 fun v10 v11 => OpI .i64 v10 fun n5 => OpA 7 v11 fun cs3 =>
  StA 7 b 0 cs3 w fun w => J2 (n3, (n5, (0, (0, ())))) w) (Cb (n1 == 10) (LoopC (σ := Int × Int × Int × Unit) (fun _ s3 w K3 => Cb (decide (s3.2.2.1 < 5)) (LdV b2 1 (At w)
  fun v12 => OpI .i64 v12 fun n6 => CallV Try.prog 23 #[.pointer none, .int .i64 n6] w fun v13 w => OpI .i64 v13 fun n7 => LdA 7 b 0 (At w) fun cs4 => LdV b2 1 (At w) fun
  v14 => OpI .i64 v14 fun n8 => CallV Try.prog 28 #[.agg cs4, .int .i64 n8] w fun v15 w => T2 v15 fun v16 v17 => OpI .i64 v16 fun n9 => OpA 7 v17 fun cs5 => StA 7 b 0 cs5 w
  fun w => K3 (n7, (n9, (IntKind.wrap .i64 (s3.2.2.1 + 1), ()))) w) (J2 (s3.1, (s3.2.1, (0, (0, ())))) w)) (0, (0, (0, ()))) w) (Cb (n1 == 2) (LdV b2 1 (At w) fun v18 => OpI
  .i64 v18 fun n10 => CallV Try.prog 21 #[.pointer none, .int .i64 n10] w fun v19 w => OpI .i64 v19 fun n11 => LdA 7 b 0 (At w) fun cs6 => LdV b2 1 (At w) fun v20 => OpI
  .i64 v20 fun n12 => CallV Try.prog 29 #[.agg cs6, .int .i64 n12] w fun v21 w => T2 v21 fun v22 v23 => OpI .i64 v22 fun n13 => OpA 7 v23 fun cs7 => StA 7 b 0 cs7 w fun w =>
  J2 (n11, (n13, (0, (0, ())))) w) (Cb (n1 == 3) (LdV b2 1 (At w) fun v24 => OpI .i64 v24 fun n14 => CallV Try.prog 24 #[.pointer none, .int .i64 n14] w fun v25 w => T2 v25
  fun v26 v27 => OpI .u32 v26 fun n15 => OpI .i64 v27 fun n16 => LdA 7 b 0 (At w) fun cs8 => LdV b2 1 (At w) fun v28 => OpI .i64 v28 fun n17 => CallV Try.prog 30 #[.agg cs8,
  .int .i64 n17] w fun v29 w => T3 v29 fun v30 v31 v32 => OpI .u32 v30 fun n18 => OpI .i64 v31 fun n19 => OpA 7 v32 fun cs9 => StA 7 b 0 cs9 w fun w => J2 (n16, (n19, (n15,
  (n18, ())))) w) (Cb (n1 == 4) (LdV b2 1 (At w) fun v33 => OpI .i64 v33 fun n20 => CallV Try.prog 22 #[.pointer none, .int .i64 n20] w fun v34 w => OpI .i64 v34 fun n21 =>
  LdA 7 b 0 (At w) fun cs10 => LdV b2 1 (At w) fun v35 => OpI .i64 v35 fun n22 => CallV Try.prog 31 #[.agg cs10, .int .i64 n22] w fun v36 w => T2 v36 fun v37 v38 => OpI .i64
  v37 fun n23 => OpA 7 v38 fun cs11 => StA 7 b 0 cs11 w fun w => J2 (n21, (n23, (0, (0, ())))) w) (Cb (n1 == 5) (LdV b2 1 (At w) fun v39 => OpI .i64 v39 fun n24 => LdV b2 2
  (At w) fun v40 => OpI .i64 v40 fun n25 => CallV Try.prog 32 #[.pointer none, .int .i64 n24, .int .i64 n25] w fun v41 w => OpI .i64 v41 fun n26 => LdA 7 b 0 (At w) fun cs12
  => LdV b2 1 (At w) fun v42 => OpI .i64 v42 fun n27 => LdV b2 2 (At w) fun v43 => OpI .i64 v43 fun n28 => CallV Try.prog 33 #[.agg cs12, .int .i64 n27, .int .i64 n28] w fun
  v44 w => OpI .i64 v44 fun n29 => J2 (n26, (n29, (0, (0, ())))) w) (Cb (n1 == 6) (LdV b2 1 (At w) fun v45 => OpI .i64 v45 fun n30 => CallV Try.prog 19 #[.pointer none, .int
  .i64 n30] w fun v46 w => OpI .i64 v46 fun n31 => LdA 7 b 0 (At w) fun cs13 => LdV b2 1 (At w) fun v47 => OpI .i64 v47 fun n32 => CallV Try.prog 34 #[.agg cs13, .int .i64
  n32] w fun v48 w => T2 v48 fun v49 v50 => OpI .i64 v49 fun n33 => OpA 7 v50 fun cs14 => StA 7 b 0 cs14 w fun w => J2 (n31, (n33, (0, (0, ())))) w) (Cb (n1 == 7) (LdV b2 1
  (At w) fun v51 => OpI .i64 v51 fun n34 => CallV Try.prog 25 #[.pointer none, .int .i64 n34] w fun v52 w => OpI .i64 v52 fun n35 => LdA 7 b 0 (At w) fun cs15 => LdV b2 1
  (At w) fun v53 => OpI .i64 v53 fun n36 => CallV Try.prog 35 #[.agg cs15, .int .i64 n36] w fun v54 w => T2 v54 fun v55 v56 => OpI .i64 v55 fun n37 => OpA 7 v56 fun cs16 =>
  StA 7 b 0 cs16 w fun w => J2 (n35, (n37, (0, (0, ())))) w) (Cb (n1 == 8) (LdV b2 1 (At w) fun v57 => OpI .i64 v57 fun n38 => CallV Try.prog 36 #[.pointer none, .int .i64
  n38] w fun v58 w => OpI .i64 v58 fun n39 => LdA 7 b 0 (At w) fun cs17 => LdV b2 1 (At w) fun v59 => OpI .i64 v59 fun n40 => CallV Try.prog 37 #[.agg cs17, .int .i64 n40] w
  fun v60 w => T2 v60 fun v61 v62 => OpI .i64 v61 fun n41 => OpA 7 v62 fun cs18 => StA 7 b 0 cs18 w fun w => J2 (n39, (n41, (0, (0, ())))) w) (Cb (n1 == 9) (LdV b2 1 (At w)
  fun v63 => OpI .i64 v63 fun n42 => CallV Try.prog 38 #[.pointer none, .int .i64 n42] w fun v64 w => OpI .i64 v64 fun n43 => LdA 7 b 0 (At w) fun cs19 => LdV b2 1 (At w)
  fun v65 => OpI .i64 v65 fun n44 => CallV Try.prog 39 #[.agg cs19, .int .i64 n44] w fun v66 w => T2 v66 fun v67 v68 => OpI .i64 v67 fun n45 => OpA 7 v68 fun cs20 => StA 7 b
  0 cs20 w fun w => J2 (n43, (n45, (0, (0, ())))) w) (J2 (0, (0, (0, (0, ())))) w))))))))))) (fun _ s2 w => Req ((s2.2.2.1 != s2.2.2.2.1) = (s2.2.2.1 != s2.2.2.2.1)) (Req
  ((s2.2.2.1 != s2.2.2.2.1) = (s2.2.2.1 != s2.2.2.2.1)) (Req ((s2.2.2.1 != s2.2.2.2.1) = (s2.2.2.1 != s2.2.2.2.1)) (Cb (cond (s2.2.2.1 != s2.2.2.2.1) true (s2.1 != s2.2.1))
  (Ret [] (R (.bool false) w)) (LoopC (σ := Int × Unit) (fun _ s4 w K4 => Cb (decide (s4.1 ≤ 2)) (CallV Try.prog 40 #[.pointer none, .int .i64 s4.1] w fun v69 w => T2 v69
  fun v70 v71 => OpI .u32 v70 fun n46 => OpI .i64 v71 fun n47 => HeldR w fun S w => LdA 7 b 0 S fun cs21 => CallV Try.prog 20 #[.pointer none, .int .i64 s4.1] w fun v72 w =>
  OpB v72 fun g1 => Hld (S w) (CallV Try.prog 41 #[.agg cs21, .int .i64 s4.1] w fun v73 w => OpB v73 fun g2 => Hld (S w) (Cb (!(g1 == g2)) (Hld (S w) (Hld (S w) (Ret [] (R
  (.bool false) w)))) (LdA 7 b 0 S fun cs22 => CallV Try.prog 26 #[.pointer none, .int .i64 s4.1] w fun v74 w => OpB v74 fun g3 => Hld (S w) (CallV Try.prog 42 #[.agg cs22,
  .int .i64 s4.1] w fun v75 w => OpB v75 fun g4 => Hld (S w) (Cb (!(g3 == g4)) (Ret [] (R (.bool false) w)) (Cb (s4.1 == 0) (Cb (!((n47 == 0) == true)) (Ret [] (R (.bool
  false) w)) (Cb (n47 == 0) (Req (0 ≤ s4.1 ∧ s4.1 < 2) (LdV b (0 + Int.toNat s4.1 * 3 + 1) (At w) fun v76 => OpI .u32 v76 fun n48 => Cb (n46 != n48) (Ret [] (R (.bool false)
  w)) (Cb (n47 != 0) (Cb (n46 != 0) (Ret [] (R (.bool false) w)) (Cb (n47 != 2) (Ret [] (R (.bool false) w)) (K4 (IntKind.wrap .i64 (s4.1 + 1), ()) w))) (K4 (IntKind.wrap
  .i64 (s4.1 + 1), ()) w)))) (Cb (n47 != 0) (Cb (n46 != 0) (Ret [] (R (.bool false) w)) (Cb (n47 != 2) (Ret [] (R (.bool false) w)) (K4 (IntKind.wrap .i64 (s4.1 + 1), ())
  w))) (K4 (IntKind.wrap .i64 (s4.1 + 1), ()) w)))) (Cb (!((n47 == 0) == (s4.1 == 1))) (Ret [] (R (.bool false) w)) (Cb (n47 == 0) (Req (0 ≤ s4.1 ∧ s4.1 < 2) (LdV b (0 +
  Int.toNat s4.1 * 3 + 1) (At w) fun v77 => OpI .u32 v77 fun n49 => Cb (n46 != n49) (Ret [] (R (.bool false) w)) (Cb (n47 != 0) (Cb (n46 != 0) (Ret [] (R (.bool false) w))
  (Cb (n47 != 2) (Ret [] (R (.bool false) w)) (K4 (IntKind.wrap .i64 (s4.1 + 1), ()) w))) (K4 (IntKind.wrap .i64 (s4.1 + 1), ()) w)))) (Cb (n47 != 0) (Cb (n46 != 0) (Ret []
  (R (.bool false) w)) (Cb (n47 != 2) (Ret [] (R (.bool false) w)) (K4 (IntKind.wrap .i64 (s4.1 + 1), ()) w))) (K4 (IntKind.wrap .i64 (s4.1 + 1), ()) w))))))))))) (K1
  (IntKind.wrap .i64 (s1.1 + 1), ()) w)) ((-1), ()) w)))))) (Ret [] (R (.bool true) w))) (0, ()) w))))))) fun b3 o1 => OpI .i64 v3 fun n50 => Req ((decide (disks < 1)) =
  (decide (disks < 1))) (Req ((decide (disks < 1)) = (decide (disks < 1))) (Cb (cond (decide (disks < 1)) true (decide (disks > 32))) (Req ((n50 == 2) = (n50 == 2)) (Req
  ((n50 == 2) = (n50 == 2)) (Ret [] (R (.bool (cond (n50 == 2) false false)) w)))) (Req ((n50 != 0) = (n50 != 0)) (Req ((n50 != 0) = (n50 != 0)) (Cb (cond (n50 != 0) true
  false) (Ret [] (R (.bool false) w)) (CallV Try.prog 27 #[.int .i64 disks] w fun v78 w => OpA 7 v78 fun cs23 => Alc 50 (zc Try.prog 50) w fun b4 w => StA 7 b4 0 cs23 w fun
  w => LoopC (σ := Int × Unit) (fun _ s5 w K5 => Cb (decide (s5.1 < ((scriptl : Nat) : Int))) (IdxS scriptp scriptl s5.1 3 fun b5 o2 => LdA 3 b5 o2 (At w) fun cs24 => Alc 53
  (zc Try.prog 53) w fun b6 w => StA 3 b6 0 cs24 w fun w => LdV b6 0 (At w) fun v79 => OpI .i64 v79 fun n51 => JoinC (σ := Int × Int × Int × Int × Unit) (fun J6 => Cb (n51
  == 1) (LdV b6 1 (At w) fun v80 => OpI .i64 v80 fun n52 => CallV Try.prog 23 #[.pointer (some ⟨b3, o1, none⟩), .int .i64 n52] w fun v81 w => OpI .i64 v81 fun n53 => LdA 7
  b4 0 (At w) fun cs25 => LdV b6 1 (At w) fun v82 => OpI .i64 v82 fun n54 => CallV Try.prog 28 #[.agg cs25, .int .i64 n54] w fun v83 w => T2 v83 fun v84 v85 => OpI .i64 v84
  fun n55 => OpA 7 v85 fun cs26 => StA 7 b4 0 cs26 w fun w => J6 (n53, (n55, (0, (0, ())))) w) (Cb (n51 == 10) (LoopC (σ := Int × Int × Int × Unit) (fun _ s7 w K7 => Cb
  (decide (s7.2.2.1 < 5)) (LdV b6 1 (At w) fun v86 => OpI .i64 v86 fun n56 => CallV Try.prog 23 #[.pointer (some ⟨b3, o1, none⟩), .int .i64 n56] w fun v87 w => OpI .i64 v87
  fun n57 => LdA 7 b4 0 (At w) fun cs27 => LdV b6 1 (At w) fun v88 => OpI .i64 v88 fun n58 => CallV Try.prog 28 #[.agg cs27, .int .i64 n58] w fun v89 w => T2 v89 fun v90 v91
  => OpI .i64 v90 fun n59 => OpA 7 v91 fun cs28 => StA 7 b4 0 cs28 w fun w => K7 (n57, (n59, (IntKind.wrap .i64 (s7.2.2.1 + 1), ()))) w) (J6 (s7.1, (s7.2.1, (0, (0, ()))))
  w)) (0, (0, (0, ()))) w) (Cb (n51 == 2) (LdV b6 1 (At w) fun v92 => OpI .i64 v92 fun n60 => CallV Try.prog 21 #[.pointer (some ⟨b3, o1, none⟩), .int .i64 n60] w fun v93 w
  => OpI .i64 v93 fun n61 => LdA 7 b4 0 (At w) fun cs29 => LdV b6 1 (At w) fun v94 => OpI .i64 v94 fun n62 => CallV Try.prog 29 #[.agg cs29, .int .i64 n62] w fun v95 w => T2
  v95 fun v96 v97 => OpI .i64 v96 fun n63 => OpA 7 v97 fun cs30 => StA 7 b4 0 cs30 w fun w => J6 (n61, (n63, (0, (0, ())))) w) (Cb (n51 == 3) (LdV b6 1 (At w) fun v98 => OpI
  .i64 v98 fun n64 => CallV Try.prog 24 #[.pointer (some ⟨b3, o1, none⟩), .int .i64 n64] w fun v99 w => T2 v99 fun v100 v101 => OpI .u32 v100 fun n65 => OpI .i64 v101 fun
  n66 => LdA 7 b4 0 (At w) fun cs31 => LdV b6 1 (At w) fun v102 => OpI .i64 v102 fun n67 => CallV Try.prog 30 #[.agg cs31, .int .i64 n67] w fun v103 w => T3 v103 fun v104
  v105 v106 => OpI .u32 v104 fun n68 => OpI .i64 v105 fun n69 => OpA 7 v106 fun cs32 => StA 7 b4 0 cs32 w fun w => J6 (n66, (n69, (n65, (n68, ())))) w) (Cb (n51 == 4) (LdV
  b6 1 (At w) fun v107 => OpI .i64 v107 fun n70 => CallV Try.prog 22 #[.pointer (some ⟨b3, o1, none⟩), .int .i64 n70] w fun v108 w => OpI .i64 v108 fun n71 => LdA 7 b4 0 (At
  w) fun cs33 => LdV b6 1 (At w) fun v109 => OpI .i64 v109 fun n72 => CallV Try.prog 31 #[.agg cs33, .int .i64 n72] w fun v110 w => T2 v110 fun v111 v112 => OpI .i64 v111
  fun n73 => OpA 7 v112 fun cs34 => StA 7 b4 0 cs34 w fun w => J6 (n71, (n73, (0, (0, ())))) w) (Cb (n51 == 5) (LdV b6 1 (At w) fun v113 => OpI .i64 v113 fun n74 => LdV b6 2
  (At w) fun v114 => OpI .i64 v114 fun n75 => CallV Try.prog 32 #[.pointer (some ⟨b3, o1, none⟩), .int .i64 n74, .int .i64 n75] w fun v115 w => OpI .i64 v115 fun n76 => LdA
  7 b4 0 (At w) fun cs35 => LdV b6 1 (At w) fun v116 => OpI .i64 v116 fun n77 => LdV b6 2 (At w) fun v117 => OpI .i64 v117 fun n78 => CallV Try.prog 33 #[.agg cs35, .int
  .i64 n77, .int .i64 n78] w fun v118 w => OpI .i64 v118 fun n79 => J6 (n76, (n79, (0, (0, ())))) w) (Cb (n51 == 6) (LdV b6 1 (At w) fun v119 => OpI .i64 v119 fun n80 =>
  CallV Try.prog 19 #[.pointer (some ⟨b3, o1, none⟩), .int .i64 n80] w fun v120 w => OpI .i64 v120 fun n81 => LdA 7 b4 0 (At w) fun cs36 => LdV b6 1 (At w) fun v121 => OpI
  .i64 v121 fun n82 => CallV Try.prog 34 #[.agg cs36, .int .i64 n82] w fun v122 w => T2 v122 fun v123 v124 => OpI .i64 v123 fun n83 => OpA 7 v124 fun cs37 => StA 7 b4 0 cs37
  w fun w => J6 (n81, (n83, (0, (0, ())))) w) (Cb (n51 == 7) (LdV b6 1 (At w) fun v125 => OpI .i64 v125 fun n84 => CallV Try.prog 25 #[.pointer (some ⟨b3, o1, none⟩), .int
  .i64 n84] w fun v126 w => OpI .i64 v126 fun n85 => LdA 7 b4 0 (At w) fun cs38 => LdV b6 1 (At w) fun v127 => OpI .i64 v127 fun n86 => CallV Try.prog 35 #[.agg cs38, .int
  .i64 n86] w fun v128 w => T2 v128 fun v129 v130 => OpI .i64 v129 fun n87 => OpA 7 v130 fun cs39 => StA 7 b4 0 cs39 w fun w => J6 (n85, (n87, (0, (0, ())))) w) (Cb (n51 ==
  8) (LdV b6 1 (At w) fun v131 => OpI .i64 v131 fun n88 => CallV Try.prog 36 #[.pointer (some ⟨b3, o1, none⟩), .int .i64 n88] w fun v132 w => OpI .i64 v132 fun n89 => LdA 7
  b4 0 (At w) fun cs40 => LdV b6 1 (At w) fun v133 => OpI .i64 v133 fun n90 => CallV Try.prog 37 #[.agg cs40, .int .i64 n90] w fun v134 w => T2 v134 fun v135 v136 => OpI
  .i64 v135 fun n91 => OpA 7 v136 fun cs41 => StA 7 b4 0 cs41 w fun w => J6 (n89, (n91, (0, (0, ())))) w) (Cb (n51 == 9) (LdV b6 1 (At w) fun v137 => OpI .i64 v137 fun n92
  => CallV Try.prog 38 #[.pointer (some ⟨b3, o1, none⟩), .int .i64 n92] w fun v138 w => OpI .i64 v138 fun n93 => LdA 7 b4 0 (At w) fun cs42 => LdV b6 1 (At w) fun v139 =>
  OpI .i64 v139 fun n94 => CallV Try.prog 39 #[.agg cs42, .int .i64 n94] w fun v140 w => T2 v140 fun v141 v142 => OpI .i64 v141 fun n95 => OpA 7 v142 fun cs43 => StA 7 b4 0
  cs43 w fun w => J6 (n93, (n95, (0, (0, ())))) w) (J6 (0, (0, (0, (0, ())))) w))))))))))) (fun _ s6 w => Req ((s6.2.2.1 != s6.2.2.2.1) = (s6.2.2.1 != s6.2.2.2.1)) (Req
  ((s6.2.2.1 != s6.2.2.2.1) = (s6.2.2.1 != s6.2.2.2.1)) (Req ((s6.2.2.1 != s6.2.2.2.1) = (s6.2.2.1 != s6.2.2.2.1)) (Cb (cond (s6.2.2.1 != s6.2.2.2.1) true (s6.1 != s6.2.1))
  (Ret [] (R (.bool false) w)) (LoopC (σ := Int × Unit) (fun _ s8 w K8 => Cb (decide (s8.1 ≤ 2)) (CallV Try.prog 40 #[.pointer (some ⟨b3, o1, none⟩), .int .i64 s8.1] w fun
  v143 w => T2 v143 fun v144 v145 => OpI .u32 v144 fun n96 => OpI .i64 v145 fun n97 => HeldR w fun S w => LdA 7 b4 0 S fun cs44 => CallV Try.prog 20 #[.pointer (some ⟨b3,
  o1, none⟩), .int .i64 s8.1] w fun v146 w => OpB v146 fun g5 => Hld (S w) (CallV Try.prog 41 #[.agg cs44, .int .i64 s8.1] w fun v147 w => OpB v147 fun g6 => Hld (S w) (Cb
  (!(g5 == g6)) (Hld (S w) (Hld (S w) (Ret [] (R (.bool false) w)))) (LdA 7 b4 0 S fun cs45 => CallV Try.prog 26 #[.pointer (some ⟨b3, o1, none⟩), .int .i64 s8.1] w fun v148
  w => OpB v148 fun g7 => Hld (S w) (CallV Try.prog 42 #[.agg cs45, .int .i64 s8.1] w fun v149 w => OpB v149 fun g8 => Hld (S w) (Cb (!(g7 == g8)) (Ret [] (R (.bool false)
  w)) (Cb (s8.1 == 0) (Cb (!((n97 == 0) == true)) (Ret [] (R (.bool false) w)) (Cb (n97 == 0) (Req (0 ≤ s8.1 ∧ s8.1 < 2) (LdV b4 (0 + Int.toNat s8.1 * 3 + 1) (At w) fun v150
  => OpI .u32 v150 fun n98 => Cb (n96 != n98) (Ret [] (R (.bool false) w)) (Cb (n97 != 0) (Cb (n96 != 0) (Ret [] (R (.bool false) w)) (Cb (n97 != 2) (Ret [] (R (.bool false)
  w)) (K8 (IntKind.wrap .i64 (s8.1 + 1), ()) w))) (K8 (IntKind.wrap .i64 (s8.1 + 1), ()) w)))) (Cb (n97 != 0) (Cb (n96 != 0) (Ret [] (R (.bool false) w)) (Cb (n97 != 2) (Ret
  [] (R (.bool false) w)) (K8 (IntKind.wrap .i64 (s8.1 + 1), ()) w))) (K8 (IntKind.wrap .i64 (s8.1 + 1), ()) w)))) (Cb (!((n97 == 0) == (s8.1 == 1))) (Ret [] (R (.bool
  false) w)) (Cb (n97 == 0) (Req (0 ≤ s8.1 ∧ s8.1 < 2) (LdV b4 (0 + Int.toNat s8.1 * 3 + 1) (At w) fun v151 => OpI .u32 v151 fun n99 => Cb (n96 != n99) (Ret [] (R (.bool
  false) w)) (Cb (n97 != 0) (Cb (n96 != 0) (Ret [] (R (.bool false) w)) (Cb (n97 != 2) (Ret [] (R (.bool false) w)) (K8 (IntKind.wrap .i64 (s8.1 + 1), ()) w))) (K8
  (IntKind.wrap .i64 (s8.1 + 1), ()) w)))) (Cb (n97 != 0) (Cb (n96 != 0) (Ret [] (R (.bool false) w)) (Cb (n97 != 2) (Ret [] (R (.bool false) w)) (K8 (IntKind.wrap .i64
  (s8.1 + 1), ()) w))) (K8 (IntKind.wrap .i64 (s8.1 + 1), ()) w))))))))))) (K5 (IntKind.wrap .i64 (s5.1 + 1), ()) w)) ((-1), ()) w)))))) (Ret [] (R (.bool true) w))) (0, ())
  w)))))))
theorem C_ravelinlaw15_MemberPlays {disks : Int} {scriptp : Option Addr} {scriptl : Nat} {scriptc : Nat} {w : World} {R : Value → World → Prop} (h : F_ravelinlaw15_MemberPlays disks scriptp scriptl scriptc w R) : CallV Try.prog 6 #[.int .i64 disks, .slice scriptp scriptl scriptc] w R := by
  exact calls_of_F (args := [.int .i64 disks, .slice scriptp scriptl scriptc]) (mkAnn [(10, [(8, (.int .i64))]), (21, [(10, (.int .i64)), (11, (.int .i64)), (14, (.int .i64))]), (52, [(15, (.int .i64))])] [(2, [(10, (.int .i64)), (11, (.int .i64)), (12, (.int .u32)), (13, (.int .u32))])] [] [] [216, 219, 227]) Try_mixed Try.func6 rfl rfl (by kernel_rfl) h
end Go.Proofs
