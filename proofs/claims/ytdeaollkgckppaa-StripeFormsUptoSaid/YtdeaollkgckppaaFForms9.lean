/- PRINTED BY pr.py (own program): what the evaluator of <Name>Ev makes of the code of some functions. -/
import Derived.Test.YtdeaollkgckppaaChecked
import Derived.Test.YtdeaollkgckppaaEv
import Derived.Test.YtdeaollkgckppaaMix
namespace Go.Proofs
open Go.Ev
set_option linter.unusedVariables false
set_option maxRecDepth 100000
def F_Forms9 (g : Array Value) (lba : Int) (drop : Int) (twice : Bool) (w : World) (R : Value → World → Prop) : Prop :=
  Alc 25 g w fun b w => CallV Try.prog 16 #[] w fun v w => OpB v fun g1 => Cb (!g1) (Ret [] (R (.bool false) w)) (CallV Try.prog 30 #[] w fun v1 w => OpN v1 fun b1 o => LdA
  3 b 0 (At w) fun cs => CallV Try.prog 31 #[.agg cs, .pointer (some ⟨b1, o, none⟩)] w fun v2 w => T2 v2 fun v3 v4 => OpA 4 v3 fun cs1 => OpI .i64 v4 fun n => Alc 29 (zc
  Try.prog 29) w fun b2 w => StA 4 b2 0 cs1 w fun w => LdA 3 b 0 (At w) fun cs2 => CallV Try.prog 31 #[.agg cs2, .pointer none] w fun v5 w => T2 v5 fun v6 v7 => OpA 4 v6 fun
  cs3 => OpI .i64 v7 fun n1 => Alc 29 (zc Try.prog 29) w fun b3 w => StA 4 b3 0 cs3 w fun w => LdA 3 b 0 (At w) fun cs4 => CallV Try.prog 32 #[.agg cs4] w fun v8 w => OpI
  .i64 v8 fun n2 => Cb (n2 != 0) (Req ((n == 1) = (n == 1)) (Req ((n == 1) = (n == 1)) (Req ((n == 1) = (n == 1)) (Cb (cond (n == 1) (n1 == n) false) (LdV b2 3 (At w) fun v9
  => OpS v9 fun p l c => Ret [] (R (.bool (((l : Nat) : Int) == 0)) w)) (Ret [] (R (.bool false) w)))))) (Req ((n != 0) = (n != 0)) (Req ((n != 0) = (n != 0)) (Cb (cond (n
  != 0) true (n1 != 2)) (Ret [] (R (.bool false) w)) (LdV b2 3 (At w) fun v10 => OpS v10 fun p1 l1 c1 => LdV b 0 (At w) fun v11 => OpI .i64 v11 fun n3 => Cb (((l1 : Nat) :
  Int) != n3) (Ret [] (R (.bool false) w)) (CallV Try.prog 19 #[.pointer (some ⟨b1, o, none⟩)] w fun v12 w => OpI .i64 v12 fun n4 => Cb (n4 != 0) (Ret [] (R (.bool false)
  w)) (JoinC (σ := (Nat × Nat) × Unit) (fun J1 => HeldR w fun S w => LdA 3 b 0 S fun cs5 => LdV b2 3 S fun v13 => OpS v13 fun p2 l2 c2 => (DoV Try.prog (Instr.buildSlice 27
  0 #[]) w fun v14 w => OpS v14 fun p3 l3 c3 => Hld (S w) ((DoV Try.prog (Builtin.append_ #[27, 27] 27 #[.slice p3 l3 c3, .slice p2 l2 c2]) w fun v15 w => OpS v15 fun p4 l4
  c4 => Hld (S w) (DoQ Try.prog (Instr.build 29 #[(0, .agg cs5), (1, .slice p4 l4 c4)]) S fun v16 => OpA 4 v16 fun cs6 => Alc 29 (zc Try.prog 29) w fun b4 w => Hld (S w)
  (StA 4 b4 0 cs6 w fun w => Hld (S w) (J1 ((b4, 0), ()) w)))) ∧ (Alc 29 (zc Try.prog 29) w fun b5 w => Hld (S w) (DoV Try.prog (Builtin.append_ #[27, 27] 27 #[.slice p3 l3
  c3, .slice p2 l2 c2]) w fun v17 w => OpS v17 fun p5 l5 c5 => Hld (S w) (DoQ Try.prog (Instr.build 29 #[(0, .agg cs5), (1, .slice p5 l5 c5)]) (At w) fun v18 => OpA 4 v18
  fun cs7 => StA 4 b5 0 cs7 w fun w => Hld (S w) (J1 ((b5, 0), ()) w)))))) ∧ (Alc 29 (zc Try.prog 29) w fun b6 w => Hld (S w) (DoV Try.prog (Instr.buildSlice 27 0 #[]) w fun
  v19 w => OpS v19 fun p6 l6 c6 => Hld (S w) (DoV Try.prog (Builtin.append_ #[27, 27] 27 #[.slice p6 l6 c6, .slice p2 l2 c2]) w fun v20 w => OpS v20 fun p7 l7 c7 => Hld (S
  w) (DoQ Try.prog (Instr.build 29 #[(0, .agg cs5), (1, .slice p7 l7 c7)]) (At w) fun v21 => OpA 4 v21 fun cs8 => StA 4 b6 0 cs8 w fun w => Hld (S w) (J1 ((b6, 0), ())
  w)))))) (fun _ s1 w => LdV b 0 (At w) fun v22 => OpI .i64 v22 fun n5 => Req (n5 ≠ 0) (LdV s1.1.1 (s1.1.2 + 3) (At w) fun v23 => OpS v23 fun p8 l8 c8 => IdxS p8 l8
  (Int.tmod (IntKind.wrap .i64 drop) n5) 1 fun b7 o1 => StV b7 o1 (.pointer none) w fun w => JoinC (σ := Unit) (fun J2 => Cb twice (Dr1 w fun w => LdV s1.1.1 (s1.1.2 + 3)
  (At w) fun v24 => OpS v24 fun p9 l9 c9 => LdV b2 3 (At w) fun v25 => OpS v25 fun p10 l10 c10 => LdV b 0 (At w) fun v26 => OpI .i64 v26 fun n6 => Req (n6 ≠ 0) (IdxS p10 l10
  (Int.tmod (IntKind.wrap .i64 ((Int.tmod (IntKind.wrap .i64 drop) n5) + 1)) n6) 1 fun b8 o2 => LdV b8 o2 (At w) fun v27 => OpN v27 fun b9 o3 => IdxS p9 l9 (Int.tmod
  (IntKind.wrap .i64 drop) n5) 1 fun b10 o4 => StV b10 o4 (.pointer (some ⟨b9, o3, none⟩)) w fun w => J2 () w)) (J2 () w)) (fun _ s2 w => LdA 4 s1.1.1 s1.1.2 (At w) fun cs9
  => CallV Try.prog 25 #[.agg cs9, .int .i64 lba] w fun v28 w => T2 v28 fun v29 v30 => OpA 16 v29 fun cs10 => OpI .i64 v30 fun n7 => Alc 23 (zc Try.prog 23) w fun b11 w =>
  StA 16 b11 0 cs10 w fun w => LdA 4 s1.1.1 s1.1.2 (At w) fun cs11 => CallV Try.prog 23 #[.agg cs11, .int .i64 0, .int .i64 0] w fun v31 w => T3 v31 fun v32 v33 v34 => OpS
  v32 fun p11 l11 c11 => OpS v33 fun p12 l12 c12 => OpI .i64 v34 fun n8 => LdA 4 s1.1.1 s1.1.2 (At w) fun cs12 => DoQ Try.prog (Instr.build 23 #[]) (At w) fun v35 => OpA 16
  v35 fun cs13 => CallV Try.prog 17 #[.agg cs12, .int .i64 lba, .agg cs13] w fun v36 w => T2 v36 fun v37 v38 => OpS v37 fun p13 l13 c13 => OpI .i64 v38 fun n9 => JoinC (σ :=
  Bool × Unit) (fun J3 => HeldR w fun S w => LdA 4 b2 0 S fun cs14 => CallV Try.prog 33 #[.agg cs14] w fun v39 w => OpI .i64 v39 fun n10 => Hld (S w) (Cb (n10 == 0) (LdA 4
  s1.1.1 s1.1.2 S fun cs15 => CallV Try.prog 33 #[.agg cs15] w fun v40 w => OpI .i64 v40 fun n11 => Hld (S w) (Req ((n11 == 1) = (n11 == 1)) (Req ((n11 == 1) = (n11 == 1))
  (Req ((cond (n11 == 1) (n7 == 1) false) = (cond (n11 == 1) (n7 == 1) false)) (Req ((cond (n11 == 1) (n7 == 1) false) = (cond (n11 == 1) (n7 == 1) false)) (Req ((cond (cond
  (n11 == 1) (n7 == 1) false) (n8 == 1) false) = (cond (cond (n11 == 1) (n7 == 1) false) (n8 == 1) false)) (Req ((cond (cond (n11 == 1) (n7 == 1) false) (n8 == 1) false) =
  (cond (cond (n11 == 1) (n7 == 1) false) (n8 == 1) false)) (Cb (cond (cond (cond (n11 == 1) (n7 == 1) false) (n8 == 1) false) (n9 == 1) false) (LdA 4 s1.1.1 s1.1.2 S fun
  cs16 => CallV Try.prog 18 #[.agg cs16, .slice none 0 0, .int .u32 0] w fun v41 w => OpI .i64 v41 fun n12 => Hld (S w) (Cb (n12 == 1) (LdA 4 s1.1.1 s1.1.2 S fun cs17 =>
  CallV Try.prog 28 #[.agg cs17, .int .u32 3] w fun v42 w => OpI .i64 v42 fun n13 => Hld (S w) (Cb (n13 == 1) (LdA 4 s1.1.1 s1.1.2 S fun cs18 => CallV Try.prog 29 #[.agg
  cs18] w fun v43 w => OpI .u32 v43 fun n14 => Hld (S w) (Cb (n14 == 0) (LdA 3 b 0 S fun cs19 => LdV b2 3 S fun v44 => OpS v44 fun p14 l14 c14 => Slc l14 c14 (some 1) none
  none fun l15 h m => DoQ Try.prog (Instr.build 29 #[(0, .agg cs19), (1, .slice (slcP 1 l15 m p14) (h - l15) (m - l15))]) (At w) fun v45 => OpA 4 v45 fun cs20 => CallV
  Try.prog 33 #[.agg cs20] w fun v46 w => OpI .i64 v46 fun n15 => Hld (S w) (J3 (n15 == 1, ()) w)) (Hld (S w) (J3 (false, ()) w)))) (Hld (S w) (Hld (S w) (J3 (false, ())
  w))))) (Hld (S w) (Hld (S w) (Hld (S w) (J3 (false, ()) w)))))) (Hld (S w) (Hld (S w) (Hld (S w) (Hld (S w) (J3 (false, ()) w))))))))))))) (Hld (S w) (Req (false = false)
  (Req (false = false) (Req (false = false) (Req (false = false) (Req (false = false) (Req (false = false) (Hld (S w) (Hld (S w) (Hld (S w) (Hld (S w) (J3 (false, ())
  w)))))))))))))) (fun _ s3 w => Ret [] (R (.bool s3.1) w))))))))))))
theorem C_Forms9 {g : Array Value} {lba : Int} {drop : Int} {twice : Bool} {w : World} {R : Value → World → Prop} (h : F_Forms9 g lba drop twice w R) : CallV Try.prog 7 #[.agg g, .int .i64 lba, .int .u8 drop, .bool twice] w R := by
  exact calls_of_F (args := [.agg g, .int .i64 lba, .int .u8 drop, .bool twice]) (mkAnnR [] [] [(14, [])] [] [121, 125, 142, 147, 152, 161, 100025] [] [(10, [(14, .ptr)]), (18, [(8, .bool)])]) Try_mixed Try.func7 rfl rfl (by kernel_rfl) h
def F_CheckN (s : Array Value) (w : World) (R : Value → World → Prop) : Prop :=
  Alc 29 s w fun b w => LdA 3 b 0 (At w) fun cs => CallV Try.prog 59 #[.agg cs] w fun v w => T2 v fun v1 v2 => OpI .i64 v1 fun n => OpI .i64 v2 fun n1 => Cb (n1 != 0) (Ret
  [] (R (.int .i64 1) w)) (LdV b 3 (At w) fun v3 => OpS v3 fun p l c => LdV b 0 (At w) fun v4 => OpI .i64 v4 fun n2 => Cb (((l : Nat) : Int) != n2) (Ret [] (R (.int .i64 1)
  w)) (LdV b 3 (At w) fun v5 => OpS v5 fun p1 l1 c1 => LoopC (σ := Int × Unit) (fun _ s1 w K1 => Cb (decide (s1.1 < ((l1 : Nat) : Int))) (IdxS p1 l1 s1.1 1 fun b1 o => LdV
  b1 o (At w) fun v6 => OpP v6 (Ret [] (R (.int .i64 1) w)) fun b2 o1 => CallV Try.prog 49 #[.pointer (some ⟨b2, o1, none⟩)] w fun v7 w => OpI .i64 v7 fun n3 => Cb (n3 != n)
  (Ret [] (R (.int .i64 1) w)) (LdV b 3 (At w) fun v8 => OpS v8 fun p2 l2 c2 => Slc l2 c2 none (some s1.1) none fun l3 h m => LoopC (σ := Int × Unit) (fun _ s2 w K2 => Cb
  (decide (s2.1 < ((h - l3 : Nat) : Int))) (IdxS (slcP 1 l3 m p2) (h - l3) s2.1 1 fun b3 o2 => LdV b3 o2 (At w) fun v9 => OpN v9 fun b4 o3 => EqB Try.prog .eql 59 (.tmp 51)
  (.tmp 52) (.pointer (some ⟨b4, o3, none⟩) : Value) (.pointer (some ⟨b2, o1, none⟩) : Value) (At w) fun g => Cb g (Ret [] (R (.int .i64 1) w)) (K2 (IntKind.wrap .i64 (s2.1
  + 1), ()) w)) (K1 (IntKind.wrap .i64 (s1.1 + 1), ()) w)) (0, ()) w)) (Ret [] (R (.int .i64 0) w))) (0, ()) w))
theorem C_CheckN {s : Array Value} {w : World} {R : Value → World → Prop} (h : F_CheckN s w R) : CallV Try.prog 33 #[.agg s] w R := by
  exact calls_of_F (args := [.agg s]) (mkAnn [(5, [(29, (.int .i64))]), (10, [(47, (.int .i64))])] [] [] [] [33]) Try_mixed Try.func33 rfl rfl (by kernel_rfl) h
def F_NewNil (g : Array Value) (w : World) (R : Value → World → Prop) : Prop :=
  Alc 25 g w fun b w => Alc 29 (zc Try.prog 29) w fun b1 w => LdA 3 b 0 (At w) fun cs => CallV Try.prog 59 #[.agg cs] w fun v w => T2 v fun v1 v2 => OpI .i64 v1 fun n => OpI
  .i64 v2 fun n1 => Cb (n1 != 0) (DoQ Try.prog (Instr.build 29 #[]) (At w) fun v3 => OpA 4 v3 fun cs1 => StA 4 b1 0 cs1 w fun w => LdA 4 b1 0 (At w) fun cs2 => Ret [] (R
  (.tuple #[.agg cs2, .int .i64 n1]) w)) (DoQ Try.prog (Instr.build 29 #[]) (At w) fun v4 => OpA 4 v4 fun cs3 => StA 4 b1 0 cs3 w fun w => LdA 4 b1 0 (At w) fun cs4 => Ret
  [] (R (.tuple #[.agg cs4, .int .i64 2]) w))
theorem C_NewNil {g : Array Value} {w : World} {R : Value → World → Prop} (h : F_NewNil g w R) : CallV Try.prog 31 #[.agg g, .pointer none] w R := by
  exact calls_of_F (args := [.agg g, .pointer none]) (mkAnn [] [] [] [] []) Try_mixed Try.func31 rfl rfl (by kernel_rfl) h
end Go.Proofs
