/- PRINTED BY pr.py (own program): what the evaluator of <Name>Ev makes of the code of some functions. -/
import Derived.Test.YtdeaollkgckppaaChecked
import Derived.Test.YtdeaollkgckppaaEv
import Derived.Test.YtdeaollkgckppaaMix
namespace Go.Proofs
open Go.Ev
set_option linter.unusedVariables false
set_option maxRecDepth 100000
def F_ravelinlaw16_ScrubStill (a : Int) (b : Int) (c : Int) (lba : Int) (data : Array Value) (d : Int) (number : Int) (w : World) (R : Value → World → Prop) : Prop :=
  Alc 23 data w fun b1 w => CallV Try.prog 35 #[.int .u8 a, .int .u8 b, .int .u8 c] w fun v w => OpA 3 v fun cs => Alc 25 (zc Try.prog 25) w fun b2 w => StA 3 b2 0 cs w fun
  w => CallV Try.prog 30 #[] w fun v1 w => OpN v1 fun b3 o => LdA 3 b2 0 (At w) fun cs1 => CallV Try.prog 31 #[.agg cs1, .pointer (some ⟨b3, o, none⟩)] w fun v2 w => T2 v2
  fun v3 v4 => OpA 4 v3 fun cs2 => OpI .i64 v4 fun n => Alc 29 (zc Try.prog 29) w fun b4 w => StA 4 b4 0 cs2 w fun w => CallV Try.prog 36 #[] w fun v5 w => OpB v5 fun g =>
  Req ((!g) = (!g)) (Req ((!g) = (!g)) (Cb (cond (!g) true (n != 0)) (Ret [] (R (.bool false) w)) (LdA 3 b2 0 (At w) fun cs3 => CallV Try.prog 15 #[.agg cs3] w fun v6 w =>
  T2 v6 fun v7 v8 => OpI .i64 v7 fun n1 => OpI .i64 v8 fun n2 => HeldR w fun S w => LdA 4 b4 0 (At w) fun cs4 => Req (n1 ≠ 0) (LdA 16 b1 0 (At w) fun cs5 => CallV Try.prog
  17 #[.agg cs4, .int .i64 (Int.tmod (IntKind.wrap .i64 lba) n1), .agg cs5] w fun v9 w => T2 v9 fun v10 v11 => OpS v10 fun p l c1 => OpI .i64 v11 fun n3 => Hld (S w) (JoinC
  (σ := Bool × Unit) (fun J1 => Cb (n3 != 0) (J1 (true, ()) w) (LdA 4 b4 0 (At w) fun cs6 => CallV Try.prog 18 #[.agg cs6, .slice p l c1, .int .u32 0] w fun v12 w => OpI
  .i64 v12 fun n4 => J1 (n4 != 0, ()) w)) (fun _ s1 w => Cb s1.1 (Ret [] (R (.bool false) w)) (CallV Try.prog 19 #[.pointer (some ⟨b3, o, none⟩)] w fun v13 w => OpI .i64 v13
  fun n5 => LdA 4 b4 0 (At w) fun cs7 => CallV Try.prog 38 #[.agg cs7, .int .i64 number, .int .u32 0] w fun v14 w => T2 v14 fun v15 v16 => OpA 4 v15 fun cs8 => OpI .i64 v16
  fun n6 => Alc 97 (zc Try.prog 97) w fun b5 w => StA 4 b5 0 cs8 w fun w => HeldR w fun S w => LdA 4 b4 0 (At w) fun cs9 => LdV b2 0 S fun v17 => OpI .i64 v17 fun n7 => Req
  (n7 ≠ 0) (CallV Try.prog 41 #[.agg cs9, .int .i64 (Int.tmod (IntKind.wrap .i64 d) n7), .int .i64 0, .int .i64 100, .int .u32 0] w fun v18 w => T2 v18 fun v19 v20 => OpI
  .i64 v19 fun n8 => OpI .i64 v20 fun n9 => Hld (S w) (LdA 4 b4 0 (At w) fun cs10 => CallV Try.prog 39 #[.agg cs10] w fun v21 w => T2 v21 fun v22 v23 => OpB v22 fun g1 =>
  OpI .i64 v23 fun n10 => JoinC (σ := Bool × Unit) (fun J2 => Cb (decide (number < 0)) (J2 (true, ()) w) (LdV b2 2 (At w) fun v24 => OpI .i64 v24 fun n11 => J2 (decide
  (number ≥ n11), ()) w)) (fun _ s2 w => Cb s2.1 (JoinC (σ := Bool × Unit) (fun J3 => Cb (n6 == 2) (LdA 4 b5 0 (At w) fun cs11 => DoQ Try.prog (Instr.build 97 #[]) (At w)
  fun v25 => OpA 4 v25 fun cs12 => EqB Try.prog .eql 97 (.tmp 102) (.tmp 103) (.agg cs11 : Value) (.agg cs12 : Value) (At w) fun g2 => J3 (g2, ()) w) (J3 (false, ()) w))
  (fun _ s3 w => Ret [] (R (.bool s3.1) w))) (JoinC (σ := Bool × Unit) (fun J4 => Cb (n6 == 0) (LdA 4 b5 0 (At w) fun cs13 => LdV b2 1 (At w) fun v26 => OpI .i64 v26 fun n12
  => DoQ Try.prog (Instr.build 97 #[(0, .int .i64 n12)]) (At w) fun v27 => OpA 4 v27 fun cs14 => EqB Try.prog .eql 97 (.tmp 109) (.tmp 112) (.agg cs13 : Value) (.agg cs14 :
  Value) (At w) fun g3 => Req (g3 = g3) (Req (g3 = g3) (Cb (cond g3 (n9 == 0) false) (LdV b2 1 (At w) fun v28 => OpI .i64 v28 fun n13 => LdV b2 2 (At w) fun v29 => OpI .i64
  v29 fun n14 => Req ((n8 == (IntKind.wrap .i64 (n13 * n14))) = (n8 == (IntKind.wrap .i64 (n13 * n14)))) (Req ((n8 == (IntKind.wrap .i64 (n13 * n14))) = (n8 == (IntKind.wrap
  .i64 (n13 * n14)))) (Req ((cond (n8 == (IntKind.wrap .i64 (n13 * n14))) (n10 == 0) false) = (cond (n8 == (IntKind.wrap .i64 (n13 * n14))) (n10 == 0) false)) (Cb (cond
  (cond (n8 == (IntKind.wrap .i64 (n13 * n14))) (n10 == 0) false) g1 false) (CallV Try.prog 19 #[.pointer (some ⟨b3, o, none⟩)] w fun v30 w => OpI .i64 v30 fun n15 => J4
  (n15 == n5, ()) w) (J4 (false, ()) w))))) (Req (false = false) (Req (false = false) (Req (false = false) (J4 (false, ()) w))))))) (Req (false = false) (Req (false = false)
  (Req (false = false) (Req (false = false) (Req (false = false) (J4 (false, ()) w))))))) (fun _ s4 w => Ret [] (R (.bool s4.1) w)))))))))))))
theorem C_ravelinlaw16_ScrubStill {a : Int} {b : Int} {c : Int} {lba : Int} {data : Array Value} {d : Int} {number : Int} {w : World} {R : Value → World → Prop} (h : F_ravelinlaw16_ScrubStill a b c lba data d number w R) : CallV Try.prog 11 #[.int .u8 a, .int .u8 b, .int .u8 c, .int .u8 lba, .agg data, .int .u8 d, .int .i64 number] w R := by
  exact calls_of_F (args := [.int .u8 a, .int .u8 b, .int .u8 c, .int .u8 lba, .agg data, .int .u8 d, .int .i64 number]) (mkAnnR [] [] [] [] [57, 83, 100032] [] [(8, [(67, .bool)]), (14, [(98, .bool)]), (15, [(14, .bool)]), (16, [(14, .bool)])]) Try_mixed Try.func11 rfl rfl (by kernel_rfl) h
end Go.Proofs
