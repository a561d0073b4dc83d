/- PRINTED BY pr.py (own program): what the evaluator of <Name>Ev makes of the code of some functions. -/
import Derived.Test.YtacnieopbkeoiaaChecked
import Derived.Test.YtacnieopbkeoiaaEv
import Derived.Test.YtacnieopbkeoiaaMix
namespace Go.Proofs
open Go.Ev
set_option linter.unusedVariables false
set_option maxRecDepth 100000
def F_ravelinlaw11_CacheDrains (lbasp : Option Addr) (lbasl : Nat) (lbasc : Nat) (w : World) (R : Value → World → Prop) : Prop :=
  CallV Try.prog 12 #[.int .i64 64] w fun v w => T2 v fun v1 v2 => OpP v1 (OpI .i64 v2 fun n => CallV Try.prog 13 #[] w fun v3 w => OpB v3 fun g => Req ((!g) = (!g)) (Req
  ((!g) = (!g)) (Req ((cond (!g) true (n != 0)) = (cond (!g) true (n != 0))) (Req ((cond (!g) true (n != 0)) = (cond (!g) true (n != 0))) (Cb (cond (cond (!g) true (n != 0))
  true true) (Ret [] (R (.bool false) w)) (DoV Try.prog (Instr.makeSlice 69 (.int .i64 256) (.int .i64 256)) w fun v4 w => OpS v4 fun p l c => JoinC (σ := Int × Unit) (fun
  J1 => LoopC (σ := Int × Int × Unit) (fun _ s2 w K2 => Cb (decide (s2.2.1 < ((lbasl : Nat) : Int))) (HeldR w fun S w => IdxS lbasp lbasl s2.2.1 1 fun b o => LdV b o S fun
  v5 => OpI .u8 v5 fun n1 => IdxS lbasp lbasl s2.2.1 1 fun b1 o1 => LdV b1 o1 S fun v6 => OpI .u8 v6 fun n2 => DoQ Try.prog (Instr.build 31 #[(0, .int .u8 n2), (1, .int .u8
  (IntKind.wrap .u8 (IntKind.wrap .u64 ((IntKind.wrap .u64 s2.2.1) + 1))))]) S fun v7 => OpA 16 v7 fun cs => CallV Try.prog 14 #[.pointer none, .int .i64 (IntKind.wrap .i64
  n1), .agg cs, .int .u64 (IntKind.wrap .u64 ((IntKind.wrap .u64 s2.2.1) + 1))] w fun v8 w => OpI .i64 v8 fun n3 => Hld (S w) (Cb (n3 == 0) (IdxS lbasp lbasl s2.2.1 1 fun b2
  o2 => LdV b2 o2 (At w) fun v9 => OpI .u8 v9 fun n4 => IdxS p l n4 1 fun b3 o3 => LdV b3 o3 (At w) fun v10 => OpI .u64 v10 fun n5 => Cb (n5 == 0) (Cb (n3 == 0) (IdxS lbasp
  lbasl s2.2.1 1 fun b4 o4 => LdV b4 o4 (At w) fun v11 => OpI .u8 v11 fun n6 => IdxS p l n6 1 fun b5 o5 => StV b5 o5 (.int .u64 (IntKind.wrap .u64 ((IntKind.wrap .u64
  s2.2.1) + 1))) w fun w => Cb (n3 != 0) (Cb (n3 != 9) (Ret [] (R (.bool false) w)) (Cb (IntKind.wrap .i64 (s2.1 + 1) != 64) (Ret [] (R (.bool false) w)) (IdxS lbasp lbasl
  s2.2.1 1 fun b6 o6 => LdV b6 o6 (At w) fun v12 => OpI .u8 v12 fun n7 => IdxS p l n7 1 fun b7 o7 => LdV b7 o7 (At w) fun v13 => OpI .u64 v13 fun n8 => Cb (n8 != 0) (Ret []
  (R (.bool false) w)) (K2 (IntKind.wrap .i64 (s2.1 + 1), (IntKind.wrap .i64 (s2.2.1 + 1), ())) w)))) (K2 (IntKind.wrap .i64 (s2.1 + 1), (IntKind.wrap .i64 (s2.2.1 + 1),
  ())) w)) (Cb (n3 != 0) (Cb (n3 != 9) (Ret [] (R (.bool false) w)) (Cb (IntKind.wrap .i64 (s2.1 + 1) != 64) (Ret [] (R (.bool false) w)) (IdxS lbasp lbasl s2.2.1 1 fun b8
  o8 => LdV b8 o8 (At w) fun v14 => OpI .u8 v14 fun n9 => IdxS p l n9 1 fun b9 o9 => LdV b9 o9 (At w) fun v15 => OpI .u64 v15 fun n10 => Cb (n10 != 0) (Ret [] (R (.bool
  false) w)) (K2 (IntKind.wrap .i64 (s2.1 + 1), (IntKind.wrap .i64 (s2.2.1 + 1), ())) w)))) (K2 (IntKind.wrap .i64 (s2.1 + 1), (IntKind.wrap .i64 (s2.2.1 + 1), ())) w))) (Cb
  (n3 == 0) (IdxS lbasp lbasl s2.2.1 1 fun b10 o10 => LdV b10 o10 (At w) fun v16 => OpI .u8 v16 fun n11 => IdxS p l n11 1 fun b11 o11 => StV b11 o11 (.int .u64 (IntKind.wrap
  .u64 ((IntKind.wrap .u64 s2.2.1) + 1))) w fun w => Cb (n3 != 0) (Cb (n3 != 9) (Ret [] (R (.bool false) w)) (Cb (s2.1 != 64) (Ret [] (R (.bool false) w)) (IdxS lbasp lbasl
  s2.2.1 1 fun b12 o12 => LdV b12 o12 (At w) fun v17 => OpI .u8 v17 fun n12 => IdxS p l n12 1 fun b13 o13 => LdV b13 o13 (At w) fun v18 => OpI .u64 v18 fun n13 => Cb (n13 !=
  0) (Ret [] (R (.bool false) w)) (K2 (s2.1, (IntKind.wrap .i64 (s2.2.1 + 1), ())) w)))) (K2 (s2.1, (IntKind.wrap .i64 (s2.2.1 + 1), ())) w)) (Cb (n3 != 0) (Cb (n3 != 9)
  (Ret [] (R (.bool false) w)) (Cb (s2.1 != 64) (Ret [] (R (.bool false) w)) (IdxS lbasp lbasl s2.2.1 1 fun b14 o14 => LdV b14 o14 (At w) fun v19 => OpI .u8 v19 fun n14 =>
  IdxS p l n14 1 fun b15 o15 => LdV b15 o15 (At w) fun v20 => OpI .u64 v20 fun n15 => Cb (n15 != 0) (Ret [] (R (.bool false) w)) (K2 (s2.1, (IntKind.wrap .i64 (s2.2.1 + 1),
  ())) w)))) (K2 (s2.1, (IntKind.wrap .i64 (s2.2.1 + 1), ())) w)))) (Cb (n3 == 0) (IdxS lbasp lbasl s2.2.1 1 fun b16 o16 => LdV b16 o16 (At w) fun v21 => OpI .u8 v21 fun n16
  => IdxS p l n16 1 fun b17 o17 => StV b17 o17 (.int .u64 (IntKind.wrap .u64 ((IntKind.wrap .u64 s2.2.1) + 1))) w fun w => Cb (n3 != 0) (Cb (n3 != 9) (Ret [] (R (.bool
  false) w)) (Cb (s2.1 != 64) (Ret [] (R (.bool false) w)) (IdxS lbasp lbasl s2.2.1 1 fun b18 o18 => LdV b18 o18 (At w) fun v22 => OpI .u8 v22 fun n17 => IdxS p l n17 1 fun
  b19 o19 => LdV b19 o19 (At w) fun v23 => OpI .u64 v23 fun n18 => Cb (n18 != 0) (Ret [] (R (.bool false) w)) (K2 (s2.1, (IntKind.wrap .i64 (s2.2.1 + 1), ())) w)))) (K2
  (s2.1, (IntKind.wrap .i64 (s2.2.1 + 1), ())) w)) (Cb (n3 != 0) (Cb (n3 != 9) (Ret [] (R (.bool false) w)) (Cb (s2.1 != 64) (Ret [] (R (.bool false) w)) (IdxS lbasp lbasl
  s2.2.1 1 fun b20 o20 => LdV b20 o20 (At w) fun v24 => OpI .u8 v24 fun n19 => IdxS p l n19 1 fun b21 o21 => LdV b21 o21 (At w) fun v25 => OpI .u64 v25 fun n20 => Cb (n20 !=
  0) (Ret [] (R (.bool false) w)) (K2 (s2.1, (IntKind.wrap .i64 (s2.2.1 + 1), ())) w)))) (K2 (s2.1, (IntKind.wrap .i64 (s2.2.1 + 1), ())) w))))) (J1 (s2.1, ()) w)) (0, (0,
  ())) w) (fun _ s1 w => LoopC (σ := Int × Int × Unit) (fun _ s3 w K3 => Cb (decide (s3.2.1 < s1.1)) (CallV Try.prog 31 #[.pointer none] w fun v26 w => T2 v26 fun v27 v28 =>
  OpA 19 v27 fun cs1 => OpI .i64 v28 fun n21 => Alc 42 (zc Try.prog 42) w fun b22 w => StA 19 b22 0 cs1 w fun w => Cb (n21 != 0) (Drw w fun w => Ret [] (R (.bool false) w))
  (LdV b22 1 (At w) fun v29 => OpI .u64 v29 fun n22 => Cb (decide (n22 ≤ s3.1)) (Drw w fun w => Ret [] (R (.bool false) w)) (LdV b22 2 (At w) fun v30 => OpI .i64 v30 fun n23
  => Cb (decide (n23 < 0)) (Drw w fun w => Ret [] (R (.bool false) w)) (LdV b22 2 (At w) fun v31 => OpI .i64 v31 fun n24 => Cb (decide (n24 > 255)) (Drw w fun w => Ret [] (R
  (.bool false) w)) (LdV b22 2 (At w) fun v32 => OpI .i64 v32 fun n25 => IdxS p l n25 1 fun b23 o22 => LdV b23 o22 (At w) fun v33 => OpI .u64 v33 fun n26 => LdV b22 1 (At w)
  fun v34 => OpI .u64 v34 fun n27 => Cb (n26 != n27) (Drw w fun w => Ret [] (R (.bool false) w)) (LdV b22 0 (At w) fun v35 => OpI .i64 v35 fun n28 => Drw w fun w => Cb (n28
  != 1) (Ret [] (R (.bool false) w)) (LdV b22 2 (At w) fun v36 => OpI .i64 v36 fun n29 => LdV b22 1 (At w) fun v37 => OpI .u64 v37 fun n30 => DoQ Try.prog (Instr.build 31
  #[(0, .int .u8 (IntKind.wrap .u8 n29)), (1, .int .u8 (IntKind.wrap .u8 n30))]) (At w) fun v38 => OpA 16 v38 fun cs2 => Alc 31 (zc Try.prog 31) w fun b24 w => StA 16 b24 0
  cs2 w fun w => LdA 16 b22 3 (At w) fun cs3 => LdA 16 b24 0 (At w) fun cs4 => EqB Try.prog .neq 31 (.tmp 148) (.tmp 149) (.agg cs3 : Value) (.agg cs4 : Value) (At w) fun g1
  => Cb g1 (Ret [] (R (.bool false) w)) (LdV b22 2 (At w) fun v39 => OpI .i64 v39 fun n31 => LdV b22 1 (At w) fun v40 => OpI .u64 v40 fun n32 => CallV Try.prog 28 #[.pointer
  none, .int .i64 n31, .int .u64 n32] w fun v41 w => OpI .i64 v41 fun n33 => Cb (n33 != 0) (Ret [] (R (.bool false) w)) (LdV b22 1 (At w) fun v42 => OpI .u64 v42 fun n34 =>
  K3 (n34, (IntKind.wrap .i64 (s3.2.1 + 1), ())) w))))))))) (CallV Try.prog 16 #[.pointer none] w fun v43 w => OpI .i64 v43 fun n35 => Ret [] (R (.bool (n35 == 0)) w))) (0,
  (0, ())) w))))))) fun b25 o23 => OpI .i64 v2 fun n36 => CallV Try.prog 13 #[] w fun v44 w => OpB v44 fun g2 => Req ((!g2) = (!g2)) (Req ((!g2) = (!g2)) (Req ((cond (!g2)
  true (n36 != 0)) = (cond (!g2) true (n36 != 0))) (Req ((cond (!g2) true (n36 != 0)) = (cond (!g2) true (n36 != 0))) (Cb (cond (cond (!g2) true (n36 != 0)) true false) (Ret
  [] (R (.bool false) w)) (DoV Try.prog (Instr.makeSlice 69 (.int .i64 256) (.int .i64 256)) w fun v45 w => OpS v45 fun p1 l1 c1 => JoinC (σ := Int × Unit) (fun J4 => LoopC
  (σ := Int × Int × Unit) (fun _ s5 w K5 => Cb (decide (s5.2.1 < ((lbasl : Nat) : Int))) (HeldR w fun S w => IdxS lbasp lbasl s5.2.1 1 fun b26 o24 => LdV b26 o24 S fun v46
  => OpI .u8 v46 fun n37 => IdxS lbasp lbasl s5.2.1 1 fun b27 o25 => LdV b27 o25 S fun v47 => OpI .u8 v47 fun n38 => DoQ Try.prog (Instr.build 31 #[(0, .int .u8 n38), (1,
  .int .u8 (IntKind.wrap .u8 (IntKind.wrap .u64 ((IntKind.wrap .u64 s5.2.1) + 1))))]) S fun v48 => OpA 16 v48 fun cs5 => CallV Try.prog 14 #[.pointer (some ⟨b25, o23,
  none⟩), .int .i64 (IntKind.wrap .i64 n37), .agg cs5, .int .u64 (IntKind.wrap .u64 ((IntKind.wrap .u64 s5.2.1) + 1))] w fun v49 w => OpI .i64 v49 fun n39 => Hld (S w) (Cb
  (n39 == 0) (IdxS lbasp lbasl s5.2.1 1 fun b28 o26 => LdV b28 o26 (At w) fun v50 => OpI .u8 v50 fun n40 => IdxS p1 l1 n40 1 fun b29 o27 => LdV b29 o27 (At w) fun v51 => OpI
  .u64 v51 fun n41 => Cb (n41 == 0) (Cb (n39 == 0) (IdxS lbasp lbasl s5.2.1 1 fun b30 o28 => LdV b30 o28 (At w) fun v52 => OpI .u8 v52 fun n42 => IdxS p1 l1 n42 1 fun b31
  o29 => StV b31 o29 (.int .u64 (IntKind.wrap .u64 ((IntKind.wrap .u64 s5.2.1) + 1))) w fun w => Cb (n39 != 0) (Cb (n39 != 9) (Ret [] (R (.bool false) w)) (Cb (IntKind.wrap
  .i64 (s5.1 + 1) != 64) (Ret [] (R (.bool false) w)) (IdxS lbasp lbasl s5.2.1 1 fun b32 o30 => LdV b32 o30 (At w) fun v53 => OpI .u8 v53 fun n43 => IdxS p1 l1 n43 1 fun b33
  o31 => LdV b33 o31 (At w) fun v54 => OpI .u64 v54 fun n44 => Cb (n44 != 0) (Ret [] (R (.bool false) w)) (K5 (IntKind.wrap .i64 (s5.1 + 1), (IntKind.wrap .i64 (s5.2.1 + 1),
  ())) w)))) (K5 (IntKind.wrap .i64 (s5.1 + 1), (IntKind.wrap .i64 (s5.2.1 + 1), ())) w)) (Cb (n39 != 0) (Cb (n39 != 9) (Ret [] (R (.bool false) w)) (Cb (IntKind.wrap .i64
  (s5.1 + 1) != 64) (Ret [] (R (.bool false) w)) (IdxS lbasp lbasl s5.2.1 1 fun b34 o32 => LdV b34 o32 (At w) fun v55 => OpI .u8 v55 fun n45 => IdxS p1 l1 n45 1 fun b35 o33
  => LdV b35 o33 (At w) fun v56 => OpI .u64 v56 fun n46 => Cb (n46 != 0) (Ret [] (R (.bool false) w)) (K5 (IntKind.wrap .i64 (s5.1 + 1), (IntKind.wrap .i64 (s5.2.1 + 1),
  ())) w)))) (K5 (IntKind.wrap .i64 (s5.1 + 1), (IntKind.wrap .i64 (s5.2.1 + 1), ())) w))) (Cb (n39 == 0) (IdxS lbasp lbasl s5.2.1 1 fun b36 o34 => LdV b36 o34 (At w) fun
  v57 => OpI .u8 v57 fun n47 => IdxS p1 l1 n47 1 fun b37 o35 => StV b37 o35 (.int .u64 (IntKind.wrap .u64 ((IntKind.wrap .u64 s5.2.1) + 1))) w fun w => Cb (n39 != 0) (Cb
  (n39 != 9) (Ret [] (R (.bool false) w)) (Cb (s5.1 != 64) (Ret [] (R (.bool false) w)) (IdxS lbasp lbasl s5.2.1 1 fun b38 o36 => LdV b38 o36 (At w) fun v58 => OpI .u8 v58
  fun n48 => IdxS p1 l1 n48 1 fun b39 o37 => LdV b39 o37 (At w) fun v59 => OpI .u64 v59 fun n49 => Cb (n49 != 0) (Ret [] (R (.bool false) w)) (K5 (s5.1, (IntKind.wrap .i64
  (s5.2.1 + 1), ())) w)))) (K5 (s5.1, (IntKind.wrap .i64 (s5.2.1 + 1), ())) w)) (Cb (n39 != 0) (Cb (n39 != 9) (Ret [] (R (.bool false) w)) (Cb (s5.1 != 64) (Ret [] (R (.bool
  false) w)) (IdxS lbasp lbasl s5.2.1 1 fun b40 o38 => LdV b40 o38 (At w) fun v60 => OpI .u8 v60 fun n50 => IdxS p1 l1 n50 1 fun b41 o39 => LdV b41 o39 (At w) fun v61 => OpI
  .u64 v61 fun n51 => Cb (n51 != 0) (Ret [] (R (.bool false) w)) (K5 (s5.1, (IntKind.wrap .i64 (s5.2.1 + 1), ())) w)))) (K5 (s5.1, (IntKind.wrap .i64 (s5.2.1 + 1), ()))
  w)))) (Cb (n39 == 0) (IdxS lbasp lbasl s5.2.1 1 fun b42 o40 => LdV b42 o40 (At w) fun v62 => OpI .u8 v62 fun n52 => IdxS p1 l1 n52 1 fun b43 o41 => StV b43 o41 (.int .u64
  (IntKind.wrap .u64 ((IntKind.wrap .u64 s5.2.1) + 1))) w fun w => Cb (n39 != 0) (Cb (n39 != 9) (Ret [] (R (.bool false) w)) (Cb (s5.1 != 64) (Ret [] (R (.bool false) w))
  (IdxS lbasp lbasl s5.2.1 1 fun b44 o42 => LdV b44 o42 (At w) fun v63 => OpI .u8 v63 fun n53 => IdxS p1 l1 n53 1 fun b45 o43 => LdV b45 o43 (At w) fun v64 => OpI .u64 v64
  fun n54 => Cb (n54 != 0) (Ret [] (R (.bool false) w)) (K5 (s5.1, (IntKind.wrap .i64 (s5.2.1 + 1), ())) w)))) (K5 (s5.1, (IntKind.wrap .i64 (s5.2.1 + 1), ())) w)) (Cb (n39
  != 0) (Cb (n39 != 9) (Ret [] (R (.bool false) w)) (Cb (s5.1 != 64) (Ret [] (R (.bool false) w)) (IdxS lbasp lbasl s5.2.1 1 fun b46 o44 => LdV b46 o44 (At w) fun v65 => OpI
  .u8 v65 fun n55 => IdxS p1 l1 n55 1 fun b47 o45 => LdV b47 o45 (At w) fun v66 => OpI .u64 v66 fun n56 => Cb (n56 != 0) (Ret [] (R (.bool false) w)) (K5 (s5.1,
  (IntKind.wrap .i64 (s5.2.1 + 1), ())) w)))) (K5 (s5.1, (IntKind.wrap .i64 (s5.2.1 + 1), ())) w))))) (J4 (s5.1, ()) w)) (0, (0, ())) w) (fun _ s4 w => LoopC (σ := Int × Int
  × Unit) (fun _ s6 w K6 => Cb (decide (s6.2.1 < s4.1)) (CallV Try.prog 31 #[.pointer (some ⟨b25, o23, none⟩)] w fun v67 w => T2 v67 fun v68 v69 => OpA 19 v68 fun cs6 => OpI
  .i64 v69 fun n57 => Alc 42 (zc Try.prog 42) w fun b48 w => StA 19 b48 0 cs6 w fun w => Cb (n57 != 0) (Drw w fun w => Ret [] (R (.bool false) w)) (LdV b48 1 (At w) fun v70
  => OpI .u64 v70 fun n58 => Cb (decide (n58 ≤ s6.1)) (Drw w fun w => Ret [] (R (.bool false) w)) (LdV b48 2 (At w) fun v71 => OpI .i64 v71 fun n59 => Cb (decide (n59 < 0))
  (Drw w fun w => Ret [] (R (.bool false) w)) (LdV b48 2 (At w) fun v72 => OpI .i64 v72 fun n60 => Cb (decide (n60 > 255)) (Drw w fun w => Ret [] (R (.bool false) w)) (LdV
  b48 2 (At w) fun v73 => OpI .i64 v73 fun n61 => IdxS p1 l1 n61 1 fun b49 o46 => LdV b49 o46 (At w) fun v74 => OpI .u64 v74 fun n62 => LdV b48 1 (At w) fun v75 => OpI .u64
  v75 fun n63 => Cb (n62 != n63) (Drw w fun w => Ret [] (R (.bool false) w)) (LdV b48 0 (At w) fun v76 => OpI .i64 v76 fun n64 => Drw w fun w => Cb (n64 != 1) (Ret [] (R
  (.bool false) w)) (LdV b48 2 (At w) fun v77 => OpI .i64 v77 fun n65 => LdV b48 1 (At w) fun v78 => OpI .u64 v78 fun n66 => DoQ Try.prog (Instr.build 31 #[(0, .int .u8
  (IntKind.wrap .u8 n65)), (1, .int .u8 (IntKind.wrap .u8 n66))]) (At w) fun v79 => OpA 16 v79 fun cs7 => Alc 31 (zc Try.prog 31) w fun b50 w => StA 16 b50 0 cs7 w fun w =>
  LdA 16 b48 3 (At w) fun cs8 => LdA 16 b50 0 (At w) fun cs9 => EqB Try.prog .neq 31 (.tmp 148) (.tmp 149) (.agg cs8 : Value) (.agg cs9 : Value) (At w) fun g3 => Cb g3 (Ret
  [] (R (.bool false) w)) (LdV b48 2 (At w) fun v80 => OpI .i64 v80 fun n67 => LdV b48 1 (At w) fun v81 => OpI .u64 v81 fun n68 => CallV Try.prog 28 #[.pointer (some ⟨b25,
  o23, none⟩), .int .i64 n67, .int .u64 n68] w fun v82 w => OpI .i64 v82 fun n69 => Cb (n69 != 0) (Ret [] (R (.bool false) w)) (LdV b48 1 (At w) fun v83 => OpI .u64 v83 fun
  n70 => K6 (n70, (IntKind.wrap .i64 (s6.2.1 + 1), ())) w))))))))) (CallV Try.prog 16 #[.pointer (some ⟨b25, o23, none⟩)] w fun v84 w => OpI .i64 v84 fun n71 => Ret [] (R
  (.bool (n71 == 0)) w))) (0, (0, ())) w))))))
theorem C_ravelinlaw11_CacheDrains {lbasp : Option Addr} {lbasl : Nat} {lbasc : Nat} {w : World} {R : Value → World → Prop} (h : F_ravelinlaw11_CacheDrains lbasp lbasl lbasc w R) : CallV Try.prog 9 #[.slice lbasp lbasl lbasc] w R := by
  exact calls_of_F (args := [.slice lbasp lbasl lbasc]) (mkAnn [(7, [(6, (.int .i64)), (7, (.int .i64))]), (19, [(10, (.int .u64)), (11, (.int .i64))])] [(0, [(6, (.int .i64))])] [] [] [53]) Try_mixed Try.func9 rfl rfl (by kernel_rfl) h
end Go.Proofs
