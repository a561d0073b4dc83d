/- PRINTED BY pr.py (own program): what the evaluator of <Name>Ev makes of the code of some functions. -/
import Derived.Test.YtdeaollkgckppaaChecked
import Derived.Test.YtdeaollkgckppaaEv
import Derived.Test.YtdeaollkgckppaaMix
namespace Go.Proofs
open Go.Ev
set_option linter.unusedVariables false
set_option maxRecDepth 100000
def F_parity_Recover (colsp : Option Addr) (colsl : Nat) (colsc : Nat) (pp : Option Addr) (pl : Nat) (pc : Nat) (qp : Option Addr) (ql : Nat) (qc : Nat) (w : World) (R : Value → World → Prop) : Prop :=
  DoV Try.prog (Instr.buildSlice 111 2 #[(0, .slice pp pl pc), (1, .slice qp ql qc)]) w fun v w => OpS v fun p l c => CallV Try.prog 78 #[.slice colsp colsl colsc, .slice p
  l c] w fun v1 w => T2 v1 fun v2 v3 => OpI .i64 v2 fun n => OpI .i64 v3 fun n1 => Cb (n == 0) (Ret [] (R (.tuple #[.slice none 0 0, .slice none 0 0, .slice none 0 0, .int
  .i64 1]) w)) (Cb (decide (n1 > 2)) (Ret [] (R (.tuple #[.slice none 0 0, .slice none 0 0, .slice none 0 0, .int .i64 8]) w)) (LoopC (σ := (Option Addr × Nat × Nat) ×
  (Option Addr × Nat × Nat) × Int × Unit) (fun _ s1 w K1 => Cb (decide (s1.2.2.1 < ((colsl : Nat) : Int))) (IdxS colsp colsl s1.2.2.1 1 fun b o => LdV b o (At w) fun v4 =>
  OpS v4 fun p1 l1 c1 => CallV Try.prog 85 #[.slice p1 l1 c1] w fun v5 w => OpS v5 fun p2 l2 c2 => DoV Try.prog (Instr.buildSlice 111 1 #[(0, .slice p2 l2 c2)]) w fun v6 w
  => OpS v6 fun p3 l3 c3 => DoV Try.prog (Builtin.append_ #[111, 111] 111 #[.slice s1.1.1 s1.1.2.1 s1.1.2.2, .slice p3 l3 c3]) w fun v7 w => OpS v7 fun p4 l4 c4 => JoinC (σ
  := (Option Addr × Nat × Nat) × Unit) (fun J2 => Cb (((l1 : Nat) : Int) == 0) (DoV Try.prog (Instr.buildSlice 68 1 #[(0, .int .i64 s1.2.2.1)]) w fun v8 w => OpS v8 fun p5
  l5 c5 => DoV Try.prog (Builtin.append_ #[68, 68] 68 #[.slice s1.2.1.1 s1.2.1.2.1 s1.2.1.2.2, .slice p5 l5 c5]) w fun v9 w => OpS v9 fun p6 l6 c6 => J2 ((p6, l6, c6), ())
  w) (J2 ((s1.2.1.1, s1.2.1.2.1, s1.2.1.2.2), ()) w)) (fun _ s2 w => K1 ((p4, l4, c4), ((s2.1.1, s2.1.2.1, s2.1.2.2), (IntKind.wrap .i64 (s1.2.2.1 + 1), ()))) w)) (CallV
  Try.prog 79 #[.slice colsp colsl colsc, .int .i64 n] w fun v10 w => T2 v10 fun v11 v12 => OpS v11 fun p7 l7 c7 => OpS v12 fun p8 l8 c8 => CallV Try.prog 86 #[.slice p7 l7
  c7, .slice pp pl pc, .int .u8 1] w fun v13 w => CallV Try.prog 86 #[.slice p8 l8 c8, .slice qp ql qc, .int .u8 1] w fun v14 w => JoinC (σ := Unit) (fun J3 => Cb
  (((s1.2.1.2.1 : Nat) : Int) == 1) (Cb (decide (((pl : Nat) : Int) > 0)) (IdxS s1.2.1.1 s1.2.1.2.1 0 1 fun b1 o1 => LdV b1 o1 (At w) fun v15 => OpI .i64 v15 fun n2 => IdxS
  s1.1.1 s1.1.2.1 n2 1 fun b2 o2 => StV b2 o2 (.slice p7 l7 c7) w fun w => J3 () w) (Cb (((s1.2.1.2.1 : Nat) : Int) == 1) (IdxS s1.2.1.1 s1.2.1.2.1 0 1 fun b3 o3 => LdV b3
  o3 (At w) fun v16 => OpI .i64 v16 fun n3 => CallV Try.prog 88 #[.int .i64 n3] w fun v17 w => OpI .u8 v17 fun n4 => CallV Try.prog 87 #[.int .u8 n4] w fun v18 w => T2 v18
  fun v19 v20 => OpI .u8 v19 fun n5 => OpI .i64 v20 fun n6 => DoV Try.prog (Instr.makeSlice 72 (.int .i64 n) (.int .i64 n)) w fun v21 w => OpS v21 fun p9 l9 c9 => CallV
  Try.prog 86 #[.slice p9 l9 c9, .slice p8 l8 c8, .int .u8 n5] w fun v22 w => IdxS s1.2.1.1 s1.2.1.2.1 0 1 fun b4 o4 => LdV b4 o4 (At w) fun v23 => OpI .i64 v23 fun n7 =>
  IdxS s1.1.1 s1.1.2.1 n7 1 fun b5 o5 => StV b5 o5 (.slice p9 l9 c9) w fun w => J3 () w) (Cb (((s1.2.1.2.1 : Nat) : Int) == 2) (HeldR w fun S w => (DoV Try.prog
  (Instr.makeSlice 72 (.int .i64 n) (.int .i64 n)) w fun v24 w => OpS v24 fun p10 l10 c10 => Hld (S w) (DoV Try.prog (Instr.makeSlice 72 (.int .i64 n) (.int .i64 n)) w fun
  v25 w => OpS v25 fun p11 l11 c11 => Hld (S w) (LoopC (σ := Int × Unit) (fun _ s4 w K4 => Cb (decide (s4.1 < n)) (HeldR w fun S w => IdxS s1.2.1.1 s1.2.1.2.1 0 1 fun b6 o6
  => LdV b6 o6 S fun v26 => OpI .i64 v26 fun n8 => IdxS s1.2.1.1 s1.2.1.2.1 1 1 fun b7 o7 => LdV b7 o7 S fun v27 => OpI .i64 v27 fun n9 => IdxS p7 l7 s4.1 1 fun b8 o8 => LdV
  b8 o8 S fun v28 => OpI .u8 v28 fun n10 => IdxS p8 l8 s4.1 1 fun b9 o9 => LdV b9 o9 S fun v29 => OpI .u8 v29 fun n11 => CallV Try.prog 88 #[.int .i64 n8] w fun v30 w => OpI
  .u8 v30 fun n12 => Hld (S w) (CallV Try.prog 88 #[.int .i64 n9] w fun v31 w => OpI .u8 v31 fun n13 => Hld (S w) (CallV Try.prog 89 #[.int .u8 1, .int .u8 1, .int .u8 n12,
  .int .u8 n13, .int .u8 n10, .int .u8 n11] w fun v32 w => T3 v32 fun v33 v34 v35 => OpI .u8 v33 fun n14 => OpI .u8 v34 fun n15 => OpI .i64 v35 fun n16 => Hld (S w) (IdxS
  p10 l10 s4.1 1 fun b10 o10 => StV b10 o10 (.int .u8 n14) w fun w => Hld (S w) (IdxS p11 l11 s4.1 1 fun b11 o11 => StV b11 o11 (.int .u8 n15) w fun w => Hld (S w) (K4
  (IntKind.wrap .i64 (s4.1 + 1), ()) w)))))) (HeldR w fun S w => IdxS s1.2.1.1 s1.2.1.2.1 0 1 fun b12 o12 => LdV b12 o12 (At w) fun v36 => OpI .i64 v36 fun n17 => IdxS
  s1.2.1.1 s1.2.1.2.1 1 1 fun b13 o13 => LdV b13 o13 (At w) fun v37 => OpI .i64 v37 fun n18 => IdxS s1.1.1 s1.1.2.1 n17 1 fun b14 o14 => StV b14 o14 (.slice p10 l10 c10) w
  fun w => Hld (S w) (IdxS s1.1.1 s1.1.2.1 n18 1 fun b15 o15 => StV b15 o15 (.slice p11 l11 c11) w fun w => Hld (S w) (J3 () w)))) (0, ()) w))) ∧ (DoV Try.prog
  (Instr.makeSlice 72 (.int .i64 n) (.int .i64 n)) w fun v38 w => OpS v38 fun p12 l12 c12 => Hld (S w) (DoV Try.prog (Instr.makeSlice 72 (.int .i64 n) (.int .i64 n)) w fun
  v39 w => OpS v39 fun p13 l13 c13 => Hld (S w) (LoopC (σ := Int × Unit) (fun _ s5 w K5 => Cb (decide (s5.1 < n)) (HeldR w fun S w => IdxS s1.2.1.1 s1.2.1.2.1 0 1 fun b16
  o16 => LdV b16 o16 S fun v40 => OpI .i64 v40 fun n19 => IdxS s1.2.1.1 s1.2.1.2.1 1 1 fun b17 o17 => LdV b17 o17 S fun v41 => OpI .i64 v41 fun n20 => IdxS p7 l7 s5.1 1 fun
  b18 o18 => LdV b18 o18 S fun v42 => OpI .u8 v42 fun n21 => IdxS p8 l8 s5.1 1 fun b19 o19 => LdV b19 o19 S fun v43 => OpI .u8 v43 fun n22 => CallV Try.prog 88 #[.int .i64
  n19] w fun v44 w => OpI .u8 v44 fun n23 => Hld (S w) (CallV Try.prog 88 #[.int .i64 n20] w fun v45 w => OpI .u8 v45 fun n24 => Hld (S w) (CallV Try.prog 89 #[.int .u8 1,
  .int .u8 1, .int .u8 n23, .int .u8 n24, .int .u8 n21, .int .u8 n22] w fun v46 w => T3 v46 fun v47 v48 v49 => OpI .u8 v47 fun n25 => OpI .u8 v48 fun n26 => OpI .i64 v49 fun
  n27 => Hld (S w) (IdxS p13 l13 s5.1 1 fun b20 o20 => StV b20 o20 (.int .u8 n25) w fun w => Hld (S w) (IdxS p12 l12 s5.1 1 fun b21 o21 => StV b21 o21 (.int .u8 n26) w fun w
  => Hld (S w) (K5 (IntKind.wrap .i64 (s5.1 + 1), ()) w)))))) (HeldR w fun S w => IdxS s1.2.1.1 s1.2.1.2.1 0 1 fun b22 o22 => LdV b22 o22 (At w) fun v50 => OpI .i64 v50 fun
  n28 => IdxS s1.2.1.1 s1.2.1.2.1 1 1 fun b23 o23 => LdV b23 o23 (At w) fun v51 => OpI .i64 v51 fun n29 => IdxS s1.1.1 s1.1.2.1 n28 1 fun b24 o24 => StV b24 o24 (.slice p13
  l13 c13) w fun w => Hld (S w) (IdxS s1.1.1 s1.1.2.1 n29 1 fun b25 o25 => StV b25 o25 (.slice p12 l12 c12) w fun w => Hld (S w) (J3 () w)))) (0, ()) w)))) (J3 () w)))) (Cb
  (((s1.2.1.2.1 : Nat) : Int) == 1) (IdxS s1.2.1.1 s1.2.1.2.1 0 1 fun b26 o26 => LdV b26 o26 (At w) fun v52 => OpI .i64 v52 fun n30 => CallV Try.prog 88 #[.int .i64 n30] w
  fun v53 w => OpI .u8 v53 fun n31 => CallV Try.prog 87 #[.int .u8 n31] w fun v54 w => T2 v54 fun v55 v56 => OpI .u8 v55 fun n32 => OpI .i64 v56 fun n33 => DoV Try.prog
  (Instr.makeSlice 72 (.int .i64 n) (.int .i64 n)) w fun v57 w => OpS v57 fun p14 l14 c14 => CallV Try.prog 86 #[.slice p14 l14 c14, .slice p8 l8 c8, .int .u8 n32] w fun v58
  w => IdxS s1.2.1.1 s1.2.1.2.1 0 1 fun b27 o27 => LdV b27 o27 (At w) fun v59 => OpI .i64 v59 fun n34 => IdxS s1.1.1 s1.1.2.1 n34 1 fun b28 o28 => StV b28 o28 (.slice p14
  l14 c14) w fun w => J3 () w) (Cb (((s1.2.1.2.1 : Nat) : Int) == 2) (HeldR w fun S w => (DoV Try.prog (Instr.makeSlice 72 (.int .i64 n) (.int .i64 n)) w fun v60 w => OpS
  v60 fun p15 l15 c15 => Hld (S w) (DoV Try.prog (Instr.makeSlice 72 (.int .i64 n) (.int .i64 n)) w fun v61 w => OpS v61 fun p16 l16 c16 => Hld (S w) (LoopC (σ := Int ×
  Unit) (fun _ s6 w K6 => Cb (decide (s6.1 < n)) (HeldR w fun S w => IdxS s1.2.1.1 s1.2.1.2.1 0 1 fun b29 o29 => LdV b29 o29 S fun v62 => OpI .i64 v62 fun n35 => IdxS
  s1.2.1.1 s1.2.1.2.1 1 1 fun b30 o30 => LdV b30 o30 S fun v63 => OpI .i64 v63 fun n36 => IdxS p7 l7 s6.1 1 fun b31 o31 => LdV b31 o31 S fun v64 => OpI .u8 v64 fun n37 =>
  IdxS p8 l8 s6.1 1 fun b32 o32 => LdV b32 o32 S fun v65 => OpI .u8 v65 fun n38 => CallV Try.prog 88 #[.int .i64 n35] w fun v66 w => OpI .u8 v66 fun n39 => Hld (S w) (CallV
  Try.prog 88 #[.int .i64 n36] w fun v67 w => OpI .u8 v67 fun n40 => Hld (S w) (CallV Try.prog 89 #[.int .u8 1, .int .u8 1, .int .u8 n39, .int .u8 n40, .int .u8 n37, .int
  .u8 n38] w fun v68 w => T3 v68 fun v69 v70 v71 => OpI .u8 v69 fun n41 => OpI .u8 v70 fun n42 => OpI .i64 v71 fun n43 => Hld (S w) (IdxS p15 l15 s6.1 1 fun b33 o33 => StV
  b33 o33 (.int .u8 n41) w fun w => Hld (S w) (IdxS p16 l16 s6.1 1 fun b34 o34 => StV b34 o34 (.int .u8 n42) w fun w => Hld (S w) (K6 (IntKind.wrap .i64 (s6.1 + 1), ())
  w)))))) (HeldR w fun S w => IdxS s1.2.1.1 s1.2.1.2.1 0 1 fun b35 o35 => LdV b35 o35 (At w) fun v72 => OpI .i64 v72 fun n44 => IdxS s1.2.1.1 s1.2.1.2.1 1 1 fun b36 o36 =>
  LdV b36 o36 (At w) fun v73 => OpI .i64 v73 fun n45 => IdxS s1.1.1 s1.1.2.1 n44 1 fun b37 o37 => StV b37 o37 (.slice p15 l15 c15) w fun w => Hld (S w) (IdxS s1.1.1 s1.1.2.1
  n45 1 fun b38 o38 => StV b38 o38 (.slice p16 l16 c16) w fun w => Hld (S w) (J3 () w)))) (0, ()) w))) ∧ (DoV Try.prog (Instr.makeSlice 72 (.int .i64 n) (.int .i64 n)) w fun
  v74 w => OpS v74 fun p17 l17 c17 => Hld (S w) (DoV Try.prog (Instr.makeSlice 72 (.int .i64 n) (.int .i64 n)) w fun v75 w => OpS v75 fun p18 l18 c18 => Hld (S w) (LoopC (σ
  := Int × Unit) (fun _ s7 w K7 => Cb (decide (s7.1 < n)) (HeldR w fun S w => IdxS s1.2.1.1 s1.2.1.2.1 0 1 fun b39 o39 => LdV b39 o39 S fun v76 => OpI .i64 v76 fun n46 =>
  IdxS s1.2.1.1 s1.2.1.2.1 1 1 fun b40 o40 => LdV b40 o40 S fun v77 => OpI .i64 v77 fun n47 => IdxS p7 l7 s7.1 1 fun b41 o41 => LdV b41 o41 S fun v78 => OpI .u8 v78 fun n48
  => IdxS p8 l8 s7.1 1 fun b42 o42 => LdV b42 o42 S fun v79 => OpI .u8 v79 fun n49 => CallV Try.prog 88 #[.int .i64 n46] w fun v80 w => OpI .u8 v80 fun n50 => Hld (S w)
  (CallV Try.prog 88 #[.int .i64 n47] w fun v81 w => OpI .u8 v81 fun n51 => Hld (S w) (CallV Try.prog 89 #[.int .u8 1, .int .u8 1, .int .u8 n50, .int .u8 n51, .int .u8 n48,
  .int .u8 n49] w fun v82 w => T3 v82 fun v83 v84 v85 => OpI .u8 v83 fun n52 => OpI .u8 v84 fun n53 => OpI .i64 v85 fun n54 => Hld (S w) (IdxS p18 l18 s7.1 1 fun b43 o43 =>
  StV b43 o43 (.int .u8 n52) w fun w => Hld (S w) (IdxS p17 l17 s7.1 1 fun b44 o44 => StV b44 o44 (.int .u8 n53) w fun w => Hld (S w) (K7 (IntKind.wrap .i64 (s7.1 + 1), ())
  w)))))) (HeldR w fun S w => IdxS s1.2.1.1 s1.2.1.2.1 0 1 fun b45 o45 => LdV b45 o45 (At w) fun v86 => OpI .i64 v86 fun n55 => IdxS s1.2.1.1 s1.2.1.2.1 1 1 fun b46 o46 =>
  LdV b46 o46 (At w) fun v87 => OpI .i64 v87 fun n56 => IdxS s1.1.1 s1.1.2.1 n55 1 fun b47 o47 => StV b47 o47 (.slice p18 l18 c18) w fun w => Hld (S w) (IdxS s1.1.1 s1.1.2.1
  n56 1 fun b48 o48 => StV b48 o48 (.slice p17 l17 c17) w fun w => Hld (S w) (J3 () w)))) (0, ()) w)))) (J3 () w)))) (fun _ s3 w => CallV Try.prog 85 #[.slice pp pl pc] w
  fun v88 w => OpS v88 fun p19 l19 c19 => CallV Try.prog 85 #[.slice qp ql qc] w fun v89 w => OpS v89 fun p20 l20 c20 => CallV Try.prog 79 #[.slice s1.1.1 s1.1.2.1 s1.1.2.2,
  .int .i64 n] w fun v90 w => T2 v90 fun v91 v92 => OpS v91 fun p21 l21 c21 => OpS v92 fun p22 l22 c22 => JoinC (σ := (Option Addr × Nat × Nat) × Unit) (fun J8 => Cb (((pl :
  Nat) : Int) == 0) (J8 ((p21, l21, c21), ()) w) (J8 ((p19, l19, c19), ()) w)) (fun _ s8 w => JoinC (σ := (Option Addr × Nat × Nat) × Unit) (fun J9 => Cb (((ql : Nat) : Int)
  == 0) (J9 ((p22, l22, c22), ()) w) (J9 ((p20, l20, c20), ()) w)) (fun _ s9 w => Ret [] (R (.tuple #[.slice s1.1.1 s1.1.2.1 s1.1.2.2, .slice s8.1.1 s8.1.2.1 s8.1.2.2,
  .slice s9.1.1 s9.1.2.1 s9.1.2.2, .int .i64 0]) w)))))) ((none, 0, 0), ((none, 0, 0), (0, ()))) w))
theorem C_parity_Recover {colsp : Option Addr} {colsl : Nat} {colsc : Nat} {pp : Option Addr} {pl : Nat} {pc : Nat} {qp : Option Addr} {ql : Nat} {qc : Nat} {w : World} {R : Value → World → Prop} (h : F_parity_Recover colsp colsl colsc pp pl pc qp ql qc w R) : CallV Try.prog 56 #[.slice colsp colsl colsc, .slice pp pl pc, .slice qp ql qc] w R := by
  exact calls_of_F (args := [.slice colsp colsl colsc, .slice pp pl pc, .slice qp ql qc]) (mkAnn [(8, [(6, .slice), (12, .slice), (37, (.int .i64))]), (27, [(115, (.int .i64))])] [(2, [])] [(12, [(12, .slice)]), (35, [(7, .slice)]), (37, [(8, .slice)])] [] []) Try_mixed Try.func56 rfl rfl (by kernel_rfl) h
end Go.Proofs
