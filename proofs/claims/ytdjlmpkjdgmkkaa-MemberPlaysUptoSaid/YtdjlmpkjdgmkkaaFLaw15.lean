/- PRINTED BY pr.py (own program): what the evaluator of <Name>Ev makes of the code of some functions. -/
import Derived.Test.YtdjlmpkjdgmkkaaChecked
import Derived.Test.YtdjlmpkjdgmkkaaEv
import Derived.Test.YtdjlmpkjdgmkkaaMix
namespace Go.Proofs
open Go.Ev
set_option linter.unusedVariables false
set_option maxRecDepth 100000
def F_ravelinlaw15_awake  (w : World) (R : Value → World → Prop) : Prop :=
  CallV Try.prog 17 #[.int .i64 3] w fun v w => T2 v fun v1 v2 => OpP v1 (OpI .i64 v2 fun n => Req ((n != 0) = (n != 0)) (Req ((n != 0) = (n != 0)) (Cb (cond (n != 0) true
  true) (Ret [] (R (.bool false) w)) (LoopC (σ := Int × Unit) (fun _ s1 w K1 => Cb (decide (s1.1 < 3)) (CallV Try.prog 23 #[.pointer none, .int .i64 0] w fun v3 w => OpI
  .i64 v3 fun n1 => K1 (IntKind.wrap .i64 (s1.1 + 1), ()) w) (CallV Try.prog 24 #[.pointer none, .int .i64 0] w fun v4 w => T2 v4 fun v5 v6 => OpI .u32 v5 fun n2 => OpI .i64
  v6 fun n3 => Req ((n3 == 0) = (n3 == 0)) (Req ((n3 == 0) = (n3 == 0)) (Cb (cond (n3 == 0) (n2 == 2) false) (CallV Try.prog 20 #[.pointer none, .int .i64 1] w fun v7 w =>
  OpB v7 fun g => Cb (!g) (CallV Try.prog 32 #[.pointer none, .int .i64 1, .int .i64 2] w fun v8 w => OpI .i64 v8 fun n4 => Ret [] (R (.bool (n4 == 6)) w)) (Ret [] (R (.bool
  false) w))) (Ret [] (R (.bool false) w)))))) (0, ()) w)))) fun b o => OpI .i64 v2 fun n5 => Req ((n5 != 0) = (n5 != 0)) (Req ((n5 != 0) = (n5 != 0)) (Cb (cond (n5 != 0)
  true false) (Ret [] (R (.bool false) w)) (LoopC (σ := Int × Unit) (fun _ s2 w K2 => Cb (decide (s2.1 < 3)) (CallV Try.prog 23 #[.pointer (some ⟨b, o, none⟩), .int .i64 0]
  w fun v9 w => OpI .i64 v9 fun n6 => K2 (IntKind.wrap .i64 (s2.1 + 1), ()) w) (CallV Try.prog 24 #[.pointer (some ⟨b, o, none⟩), .int .i64 0] w fun v10 w => T2 v10 fun v11
  v12 => OpI .u32 v11 fun n7 => OpI .i64 v12 fun n8 => Req ((n8 == 0) = (n8 == 0)) (Req ((n8 == 0) = (n8 == 0)) (Cb (cond (n8 == 0) (n7 == 2) false) (CallV Try.prog 20
  #[.pointer (some ⟨b, o, none⟩), .int .i64 1] w fun v13 w => OpB v13 fun g1 => Cb (!g1) (CallV Try.prog 32 #[.pointer (some ⟨b, o, none⟩), .int .i64 1, .int .i64 2] w fun
  v14 w => OpI .i64 v14 fun n9 => Ret [] (R (.bool (n9 == 6)) w)) (Ret [] (R (.bool false) w))) (Ret [] (R (.bool false) w)))))) (0, ()) w)))
theorem C_ravelinlaw15_awake  {w : World} {R : Value → World → Prop} (h : F_ravelinlaw15_awake  w R) : CallV Try.prog 18 #[] w R := by
  exact calls_of_F (args := []) (mkAnn [(5, [(3, (.int .i64))])] [] [] [] []) Try_mixed Try.func18 rfl rfl (by kernel_rfl) h
def F_ravelinlaw15_MemberBack (disks : Int) (side : Bool) (claimed : Bool) (w : World) (R : Value → World → Prop) : Prop :=
  Req ((32 : Int) ≠ 0) (CallV Try.prog 17 #[.int .i64 (IntKind.wrap .i64 ((Int.tmod (IntKind.wrap .i64 disks) 32) + 1))] w fun v w => T2 v fun v1 v2 => OpP v1 (OpI .i64 v2
  fun n => CallV Try.prog 18 #[] w fun v3 w => OpB v3 fun g => Req ((!g) = (!g)) (Req ((!g) = (!g)) (Req ((cond (!g) true (n != 0)) = (cond (!g) true (n != 0))) (Req ((cond
  (!g) true (n != 0)) = (cond (!g) true (n != 0))) (Cb (cond (cond (!g) true (n != 0)) true true) (Ret [] (R (.bool false) w)) (Cb side (CallV Try.prog 19 #[.pointer none,
  .int .i64 1] w fun v4 w => OpI .i64 v4 fun n1 => Cb (n1 != 0) (Ret [] (R (.bool false) w)) (CallV Try.prog 20 #[.pointer none, .int .i64 1] w fun v5 w => OpB v5 fun g1 =>
  Cb g1 (Ret [] (R (.bool false) w)) (CallV Try.prog 21 #[.pointer none, .int .i64 1] w fun v6 w => OpI .i64 v6 fun n2 => Cb (n2 != 13) (Ret [] (R (.bool false) w)) (CallV
  Try.prog 21 #[.pointer none, .int .i64 (IntKind.wrap .i64 (1 - 1))] w fun v7 w => OpI .i64 v7 fun n3 => Cb (n3 != 13) (Ret [] (R (.bool false) w)) (CallV Try.prog 22
  #[.pointer none, .int .i64 1] w fun v8 w => OpI .i64 v8 fun n4 => Cb (n4 != 13) (Ret [] (R (.bool false) w)) (LoopC (σ := Int × Unit) (fun _ s1 w K1 => Req ((decide (s1.1
  < 3)) = (decide (s1.1 < 3))) (Cb (cond (decide (s1.1 < 3)) claimed false) (CallV Try.prog 23 #[.pointer none, .int .i64 (IntKind.wrap .i64 (1 - 1))] w fun v9 w => OpI .i64
  v9 fun n5 => Cb (n5 != 0) (Ret [] (R (.bool false) w)) (K1 (IntKind.wrap .i64 (s1.1 + 1), ()) w)) (CallV Try.prog 24 #[.pointer none, .int .i64 (IntKind.wrap .i64 (1 -
  1))] w fun v10 w => T2 v10 fun v11 v12 => OpI .u32 v11 fun n6 => OpI .i64 v12 fun n7 => Cb (!(claimed == (n7 == 0))) (Ret [] (R (.bool false) w)) (Cb (!claimed) (Cb (n7 !=
  12) (Ret [] (R (.bool false) w)) (CallV Try.prog 25 #[.pointer none, .int .i64 1] w fun v13 w => OpI .i64 v13 fun n8 => Cb (n8 != 0) (Ret [] (R (.bool false) w)) (CallV
  Try.prog 20 #[.pointer none, .int .i64 1] w fun v14 w => OpB v14 fun g2 => Cb (g2 == claimed) (Ret [] (R (.bool false) w)) (CallV Try.prog 26 #[.pointer none, .int .i64 1]
  w fun v15 w => OpB v15 fun g3 => Cb g3 (Ret [] (R (.bool false) w)) (CallV Try.prog 22 #[.pointer none, .int .i64 1] w fun v16 w => OpI .i64 v16 fun n9 => CallV Try.prog
  20 #[.pointer none, .int .i64 1] w fun v17 w => OpB v17 fun g4 => Cb g4 (CallV Try.prog 20 #[.pointer none, .int .i64 (IntKind.wrap .i64 (1 - 1))] w fun v18 w => OpB v18
  fun g5 => Req (g5 = g5) (Req (g5 = g5) (Req (g5 = g5) (Req (g5 = g5) (Cb (cond g5 ((n9 == 0) == claimed) false) (Cb claimed (Ret [] (R (.bool true) w)) (Ret [] (R (.bool
  (n9 == 11)) w))) (Ret [] (R (.bool false) w))))))) (Req (false = false) (Req (false = false) (Req (false = false) (Req (false = false) (Ret [] (R (.bool false)
  w))))))))))) (CallV Try.prog 25 #[.pointer none, .int .i64 1] w fun v19 w => OpI .i64 v19 fun n10 => Cb (n10 != 0) (Ret [] (R (.bool false) w)) (CallV Try.prog 20
  #[.pointer none, .int .i64 1] w fun v20 w => OpB v20 fun g6 => Cb (g6 == claimed) (Ret [] (R (.bool false) w)) (CallV Try.prog 26 #[.pointer none, .int .i64 1] w fun v21 w
  => OpB v21 fun g7 => Cb g7 (Ret [] (R (.bool false) w)) (CallV Try.prog 22 #[.pointer none, .int .i64 1] w fun v22 w => OpI .i64 v22 fun n11 => CallV Try.prog 20
  #[.pointer none, .int .i64 1] w fun v23 w => OpB v23 fun g8 => Cb g8 (CallV Try.prog 20 #[.pointer none, .int .i64 (IntKind.wrap .i64 (1 - 1))] w fun v24 w => OpB v24 fun
  g9 => Req (g9 = g9) (Req (g9 = g9) (Req (g9 = g9) (Req (g9 = g9) (Cb (cond g9 ((n11 == 0) == claimed) false) (Cb claimed (Ret [] (R (.bool true) w)) (Ret [] (R (.bool (n11
  == 11)) w))) (Ret [] (R (.bool false) w))))))) (Req (false = false) (Req (false = false) (Req (false = false) (Req (false = false) (Ret [] (R (.bool false) w))))))))))))))
  (0, ()) w)))))) (CallV Try.prog 19 #[.pointer none, .int .i64 0] w fun v25 w => OpI .i64 v25 fun n12 => Cb (n12 != 0) (Ret [] (R (.bool false) w)) (CallV Try.prog 20
  #[.pointer none, .int .i64 0] w fun v26 w => OpB v26 fun g10 => Cb g10 (Ret [] (R (.bool false) w)) (CallV Try.prog 21 #[.pointer none, .int .i64 0] w fun v27 w => OpI
  .i64 v27 fun n13 => Cb (n13 != 13) (Ret [] (R (.bool false) w)) (CallV Try.prog 21 #[.pointer none, .int .i64 (IntKind.wrap .i64 (1 - 0))] w fun v28 w => OpI .i64 v28 fun
  n14 => Cb (n14 != 13) (Ret [] (R (.bool false) w)) (CallV Try.prog 22 #[.pointer none, .int .i64 0] w fun v29 w => OpI .i64 v29 fun n15 => Cb (n15 != 13) (Ret [] (R (.bool
  false) w)) (LoopC (σ := Int × Unit) (fun _ s2 w K2 => Req ((decide (s2.1 < 3)) = (decide (s2.1 < 3))) (Cb (cond (decide (s2.1 < 3)) claimed false) (CallV Try.prog 23
  #[.pointer none, .int .i64 (IntKind.wrap .i64 (1 - 0))] w fun v30 w => OpI .i64 v30 fun n16 => Cb (n16 != 0) (Ret [] (R (.bool false) w)) (K2 (IntKind.wrap .i64 (s2.1 +
  1), ()) w)) (CallV Try.prog 24 #[.pointer none, .int .i64 (IntKind.wrap .i64 (1 - 0))] w fun v31 w => T2 v31 fun v32 v33 => OpI .u32 v32 fun n17 => OpI .i64 v33 fun n18 =>
  Cb (!(claimed == (n18 == 0))) (Ret [] (R (.bool false) w)) (Cb (!claimed) (Cb (n18 != 12) (Ret [] (R (.bool false) w)) (CallV Try.prog 25 #[.pointer none, .int .i64 0] w
  fun v34 w => OpI .i64 v34 fun n19 => Cb (n19 != 0) (Ret [] (R (.bool false) w)) (CallV Try.prog 20 #[.pointer none, .int .i64 0] w fun v35 w => OpB v35 fun g11 => Cb (g11
  == claimed) (Ret [] (R (.bool false) w)) (CallV Try.prog 26 #[.pointer none, .int .i64 0] w fun v36 w => OpB v36 fun g12 => Cb g12 (Ret [] (R (.bool false) w)) (CallV
  Try.prog 22 #[.pointer none, .int .i64 0] w fun v37 w => OpI .i64 v37 fun n20 => CallV Try.prog 20 #[.pointer none, .int .i64 0] w fun v38 w => OpB v38 fun g13 => Cb g13
  (CallV Try.prog 20 #[.pointer none, .int .i64 (IntKind.wrap .i64 (1 - 0))] w fun v39 w => OpB v39 fun g14 => Req (g14 = g14) (Req (g14 = g14) (Req (g14 = g14) (Req (g14 =
  g14) (Cb (cond g14 ((n20 == 0) == claimed) false) (Cb claimed (Ret [] (R (.bool true) w)) (Ret [] (R (.bool (n20 == 11)) w))) (Ret [] (R (.bool false) w))))))) (Req (false
  = false) (Req (false = false) (Req (false = false) (Req (false = false) (Ret [] (R (.bool false) w))))))))))) (CallV Try.prog 25 #[.pointer none, .int .i64 0] w fun v40 w
  => OpI .i64 v40 fun n21 => Cb (n21 != 0) (Ret [] (R (.bool false) w)) (CallV Try.prog 20 #[.pointer none, .int .i64 0] w fun v41 w => OpB v41 fun g15 => Cb (g15 ==
  claimed) (Ret [] (R (.bool false) w)) (CallV Try.prog 26 #[.pointer none, .int .i64 0] w fun v42 w => OpB v42 fun g16 => Cb g16 (Ret [] (R (.bool false) w)) (CallV
  Try.prog 22 #[.pointer none, .int .i64 0] w fun v43 w => OpI .i64 v43 fun n22 => CallV Try.prog 20 #[.pointer none, .int .i64 0] w fun v44 w => OpB v44 fun g17 => Cb g17
  (CallV Try.prog 20 #[.pointer none, .int .i64 (IntKind.wrap .i64 (1 - 0))] w fun v45 w => OpB v45 fun g18 => Req (g18 = g18) (Req (g18 = g18) (Req (g18 = g18) (Req (g18 =
  g18) (Cb (cond g18 ((n22 == 0) == claimed) false) (Cb claimed (Ret [] (R (.bool true) w)) (Ret [] (R (.bool (n22 == 11)) w))) (Ret [] (R (.bool false) w))))))) (Req (false
  = false) (Req (false = false) (Req (false = false) (Req (false = false) (Ret [] (R (.bool false) w)))))))))))))) (0, ()) w)))))))))))) fun b o => OpI .i64 v2 fun n23 =>
  CallV Try.prog 18 #[] w fun v46 w => OpB v46 fun g19 => Req ((!g19) = (!g19)) (Req ((!g19) = (!g19)) (Req ((cond (!g19) true (n23 != 0)) = (cond (!g19) true (n23 != 0)))
  (Req ((cond (!g19) true (n23 != 0)) = (cond (!g19) true (n23 != 0))) (Cb (cond (cond (!g19) true (n23 != 0)) true false) (Ret [] (R (.bool false) w)) (Cb side (CallV
  Try.prog 19 #[.pointer (some ⟨b, o, none⟩), .int .i64 1] w fun v47 w => OpI .i64 v47 fun n24 => Cb (n24 != 0) (Ret [] (R (.bool false) w)) (CallV Try.prog 20 #[.pointer
  (some ⟨b, o, none⟩), .int .i64 1] w fun v48 w => OpB v48 fun g20 => Cb g20 (Ret [] (R (.bool false) w)) (CallV Try.prog 21 #[.pointer (some ⟨b, o, none⟩), .int .i64 1] w
  fun v49 w => OpI .i64 v49 fun n25 => Cb (n25 != 13) (Ret [] (R (.bool false) w)) (CallV Try.prog 21 #[.pointer (some ⟨b, o, none⟩), .int .i64 (IntKind.wrap .i64 (1 - 1))]
  w fun v50 w => OpI .i64 v50 fun n26 => Cb (n26 != 13) (Ret [] (R (.bool false) w)) (CallV Try.prog 22 #[.pointer (some ⟨b, o, none⟩), .int .i64 1] w fun v51 w => OpI .i64
  v51 fun n27 => Cb (n27 != 13) (Ret [] (R (.bool false) w)) (LoopC (σ := Int × Unit) (fun _ s3 w K3 => Req ((decide (s3.1 < 3)) = (decide (s3.1 < 3))) (Cb (cond (decide
  (s3.1 < 3)) claimed false) (CallV Try.prog 23 #[.pointer (some ⟨b, o, none⟩), .int .i64 (IntKind.wrap .i64 (1 - 1))] w fun v52 w => OpI .i64 v52 fun n28 => Cb (n28 != 0)
  (Ret [] (R (.bool false) w)) (K3 (IntKind.wrap .i64 (s3.1 + 1), ()) w)) (CallV Try.prog 24 #[.pointer (some ⟨b, o, none⟩), .int .i64 (IntKind.wrap .i64 (1 - 1))] w fun v53
  w => T2 v53 fun v54 v55 => OpI .u32 v54 fun n29 => OpI .i64 v55 fun n30 => Cb (!(claimed == (n30 == 0))) (Ret [] (R (.bool false) w)) (Cb (!claimed) (Cb (n30 != 12) (Ret
  [] (R (.bool false) w)) (CallV Try.prog 25 #[.pointer (some ⟨b, o, none⟩), .int .i64 1] w fun v56 w => OpI .i64 v56 fun n31 => Cb (n31 != 0) (Ret [] (R (.bool false) w))
  (CallV Try.prog 20 #[.pointer (some ⟨b, o, none⟩), .int .i64 1] w fun v57 w => OpB v57 fun g21 => Cb (g21 == claimed) (Ret [] (R (.bool false) w)) (CallV Try.prog 26
  #[.pointer (some ⟨b, o, none⟩), .int .i64 1] w fun v58 w => OpB v58 fun g22 => Cb g22 (Ret [] (R (.bool false) w)) (CallV Try.prog 22 #[.pointer (some ⟨b, o, none⟩), .int
  .i64 1] w fun v59 w => OpI .i64 v59 fun n32 => CallV Try.prog 20 #[.pointer (some ⟨b, o, none⟩), .int .i64 1] w fun v60 w => OpB v60 fun g23 => Cb g23 (CallV Try.prog 20
  #[.pointer (some ⟨b, o, none⟩), .int .i64 (IntKind.wrap .i64 (1 - 1))] w fun v61 w => OpB v61 fun g24 => Req (g24 = g24) (Req (g24 = g24) (Req (g24 = g24) (Req (g24 = g24)
  (Cb (cond g24 ((n32 == 0) == claimed) false) (Cb claimed (Ret [] (R (.bool true) w)) (Ret [] (R (.bool (n32 == 11)) w))) (Ret [] (R (.bool false) w))))))) (Req (false =
  false) (Req (false = false) (Req (false = false) (Req (false = false) (Ret [] (R (.bool false) w))))))))))) (CallV Try.prog 25 #[.pointer (some ⟨b, o, none⟩), .int .i64 1]
  w fun v62 w => OpI .i64 v62 fun n33 => Cb (n33 != 0) (Ret [] (R (.bool false) w)) (CallV Try.prog 20 #[.pointer (some ⟨b, o, none⟩), .int .i64 1] w fun v63 w => OpB v63
  fun g25 => Cb (g25 == claimed) (Ret [] (R (.bool false) w)) (CallV Try.prog 26 #[.pointer (some ⟨b, o, none⟩), .int .i64 1] w fun v64 w => OpB v64 fun g26 => Cb g26 (Ret
  [] (R (.bool false) w)) (CallV Try.prog 22 #[.pointer (some ⟨b, o, none⟩), .int .i64 1] w fun v65 w => OpI .i64 v65 fun n34 => CallV Try.prog 20 #[.pointer (some ⟨b, o,
  none⟩), .int .i64 1] w fun v66 w => OpB v66 fun g27 => Cb g27 (CallV Try.prog 20 #[.pointer (some ⟨b, o, none⟩), .int .i64 (IntKind.wrap .i64 (1 - 1))] w fun v67 w => OpB
  v67 fun g28 => Req (g28 = g28) (Req (g28 = g28) (Req (g28 = g28) (Req (g28 = g28) (Cb (cond g28 ((n34 == 0) == claimed) false) (Cb claimed (Ret [] (R (.bool true) w)) (Ret
  [] (R (.bool (n34 == 11)) w))) (Ret [] (R (.bool false) w))))))) (Req (false = false) (Req (false = false) (Req (false = false) (Req (false = false) (Ret [] (R (.bool
  false) w)))))))))))))) (0, ()) w)))))) (CallV Try.prog 19 #[.pointer (some ⟨b, o, none⟩), .int .i64 0] w fun v68 w => OpI .i64 v68 fun n35 => Cb (n35 != 0) (Ret [] (R
  (.bool false) w)) (CallV Try.prog 20 #[.pointer (some ⟨b, o, none⟩), .int .i64 0] w fun v69 w => OpB v69 fun g29 => Cb g29 (Ret [] (R (.bool false) w)) (CallV Try.prog 21
  #[.pointer (some ⟨b, o, none⟩), .int .i64 0] w fun v70 w => OpI .i64 v70 fun n36 => Cb (n36 != 13) (Ret [] (R (.bool false) w)) (CallV Try.prog 21 #[.pointer (some ⟨b, o,
  none⟩), .int .i64 (IntKind.wrap .i64 (1 - 0))] w fun v71 w => OpI .i64 v71 fun n37 => Cb (n37 != 13) (Ret [] (R (.bool false) w)) (CallV Try.prog 22 #[.pointer (some ⟨b,
  o, none⟩), .int .i64 0] w fun v72 w => OpI .i64 v72 fun n38 => Cb (n38 != 13) (Ret [] (R (.bool false) w)) (LoopC (σ := Int × Unit) (fun _ s4 w K4 => Req ((decide (s4.1 <
  3)) = (decide (s4.1 < 3))) (Cb (cond (decide (s4.1 < 3)) claimed false) (CallV Try.prog 23 #[.pointer (some ⟨b, o, none⟩), .int .i64 (IntKind.wrap .i64 (1 - 0))] w fun v73
  w => OpI .i64 v73 fun n39 => Cb (n39 != 0) (Ret [] (R (.bool false) w)) (K4 (IntKind.wrap .i64 (s4.1 + 1), ()) w)) (CallV Try.prog 24 #[.pointer (some ⟨b, o, none⟩), .int
  .i64 (IntKind.wrap .i64 (1 - 0))] w fun v74 w => T2 v74 fun v75 v76 => OpI .u32 v75 fun n40 => OpI .i64 v76 fun n41 => Cb (!(claimed == (n41 == 0))) (Ret [] (R (.bool
  false) w)) (Cb (!claimed) (Cb (n41 != 12) (Ret [] (R (.bool false) w)) (CallV Try.prog 25 #[.pointer (some ⟨b, o, none⟩), .int .i64 0] w fun v77 w => OpI .i64 v77 fun n42
  => Cb (n42 != 0) (Ret [] (R (.bool false) w)) (CallV Try.prog 20 #[.pointer (some ⟨b, o, none⟩), .int .i64 0] w fun v78 w => OpB v78 fun g30 => Cb (g30 == claimed) (Ret []
  (R (.bool false) w)) (CallV Try.prog 26 #[.pointer (some ⟨b, o, none⟩), .int .i64 0] w fun v79 w => OpB v79 fun g31 => Cb g31 (Ret [] (R (.bool false) w)) (CallV Try.prog
  22 #[.pointer (some ⟨b, o, none⟩), .int .i64 0] w fun v80 w => OpI .i64 v80 fun n43 => CallV Try.prog 20 #[.pointer (some ⟨b, o, none⟩), .int .i64 0] w fun v81 w => OpB
  v81 fun g32 => Cb g32 (CallV Try.prog 20 #[.pointer (some ⟨b, o, none⟩), .int .i64 (IntKind.wrap .i64 (1 - 0))] w fun v82 w => OpB v82 fun g33 => Req (g33 = g33) (Req (g33
  = g33) (Req (g33 = g33) (Req (g33 = g33) (Cb (cond g33 ((n43 == 0) == claimed) false) (Cb claimed (Ret [] (R (.bool true) w)) (Ret [] (R (.bool (n43 == 11)) w))) (Ret []
  (R (.bool false) w))))))) (Req (false = false) (Req (false = false) (Req (false = false) (Req (false = false) (Ret [] (R (.bool false) w))))))))))) (CallV Try.prog 25
  #[.pointer (some ⟨b, o, none⟩), .int .i64 0] w fun v83 w => OpI .i64 v83 fun n44 => Cb (n44 != 0) (Ret [] (R (.bool false) w)) (CallV Try.prog 20 #[.pointer (some ⟨b, o,
  none⟩), .int .i64 0] w fun v84 w => OpB v84 fun g34 => Cb (g34 == claimed) (Ret [] (R (.bool false) w)) (CallV Try.prog 26 #[.pointer (some ⟨b, o, none⟩), .int .i64 0] w
  fun v85 w => OpB v85 fun g35 => Cb g35 (Ret [] (R (.bool false) w)) (CallV Try.prog 22 #[.pointer (some ⟨b, o, none⟩), .int .i64 0] w fun v86 w => OpI .i64 v86 fun n45 =>
  CallV Try.prog 20 #[.pointer (some ⟨b, o, none⟩), .int .i64 0] w fun v87 w => OpB v87 fun g36 => Cb g36 (CallV Try.prog 20 #[.pointer (some ⟨b, o, none⟩), .int .i64
  (IntKind.wrap .i64 (1 - 0))] w fun v88 w => OpB v88 fun g37 => Req (g37 = g37) (Req (g37 = g37) (Req (g37 = g37) (Req (g37 = g37) (Cb (cond g37 ((n45 == 0) == claimed)
  false) (Cb claimed (Ret [] (R (.bool true) w)) (Ret [] (R (.bool (n45 == 11)) w))) (Ret [] (R (.bool false) w))))))) (Req (false = false) (Req (false = false) (Req (false
  = false) (Req (false = false) (Ret [] (R (.bool false) w)))))))))))))) (0, ()) w))))))))))))
theorem C_ravelinlaw15_MemberBack {disks : Int} {side : Bool} {claimed : Bool} {w : World} {R : Value → World → Prop} (h : F_ravelinlaw15_MemberBack disks side claimed w R) : CallV Try.prog 5 #[.int .u8 disks, .bool side, .bool claimed] w R := by
  exact calls_of_F (args := [.int .u8 disks, .bool side, .bool claimed]) (mkAnn [(10, [(10, (.int .i64))])] [] [] [] []) Try_mixed Try.func5 rfl rfl (by kernel_rfl) h
def F_ravelinlaw15_MemberNil (a : Int) (b : Int) (w : World) (R : Value → World → Prop) : Prop :=
  CallV Try.prog 24 #[.pointer none, .int .i64 a] w fun v w => T2 v fun v1 v2 => OpI .u32 v1 fun n => OpI .i64 v2 fun n1 => CallV Try.prog 40 #[.pointer none, .int .i64 a] w
  fun v3 w => T2 v3 fun v4 v5 => OpI .u32 v4 fun n2 => OpI .i64 v5 fun n3 => CallV Try.prog 18 #[] w fun v6 w => OpB v6 fun g => Req (g = g) (Req (g = g) (Req ((cond g (n1
  == 2) false) = (cond g (n1 == 2) false)) (Req ((cond g (n1 == 2) false) = (cond g (n1 == 2) false)) (Cb (cond (cond g (n1 == 2) false) (n3 == 2) false) (CallV Try.prog 23
  #[.pointer none, .int .i64 a] w fun v7 w => OpI .i64 v7 fun n4 => Cb (n4 == 2) (CallV Try.prog 21 #[.pointer none, .int .i64 a] w fun v8 w => OpI .i64 v8 fun n5 => Cb (n5
  == 2) (CallV Try.prog 26 #[.pointer none, .int .i64 a] w fun v9 w => OpB v9 fun g1 => Cb (!g1) (CallV Try.prog 20 #[.pointer none, .int .i64 a] w fun v10 w => OpB v10 fun
  g2 => Cb (!g2) (CallV Try.prog 22 #[.pointer none, .int .i64 a] w fun v11 w => OpI .i64 v11 fun n6 => Cb (n6 == 2) (CallV Try.prog 32 #[.pointer none, .int .i64 a, .int
  .i64 b] w fun v12 w => OpI .i64 v12 fun n7 => Cb (n7 == 2) (CallV Try.prog 19 #[.pointer none, .int .i64 a] w fun v13 w => OpI .i64 v13 fun n8 => Cb (n8 == 2) (CallV
  Try.prog 25 #[.pointer none, .int .i64 a] w fun v14 w => OpI .i64 v14 fun n9 => Cb (n9 == 2) (CallV Try.prog 36 #[.pointer none, .int .i64 b] w fun v15 w => OpI .i64 v15
  fun n10 => Cb (n10 == 2) (CallV Try.prog 38 #[.pointer none, .int .i64 b] w fun v16 w => OpI .i64 v16 fun n11 => Ret [] (R (.bool (n11 == 2)) w)) (Ret [] (R (.bool false)
  w))) (Ret [] (R (.bool false) w))) (Ret [] (R (.bool false) w))) (Ret [] (R (.bool false) w))) (Ret [] (R (.bool false) w))) (Ret [] (R (.bool false) w))) (Ret [] (R
  (.bool false) w))) (Ret [] (R (.bool false) w))) (Ret [] (R (.bool false) w))) (Ret [] (R (.bool false) w))))))
theorem C_ravelinlaw15_MemberNil {a : Int} {b : Int} {w : World} {R : Value → World → Prop} (h : F_ravelinlaw15_MemberNil a b w R) : CallV Try.prog 7 #[.int .i64 a, .int .i64 b] w R := by
  exact calls_of_F (args := [.int .i64 a, .int .i64 b]) (mkAnn [] [] [] [] []) Try_mixed Try.func7 rfl rfl (by kernel_rfl) h
end Go.Proofs
