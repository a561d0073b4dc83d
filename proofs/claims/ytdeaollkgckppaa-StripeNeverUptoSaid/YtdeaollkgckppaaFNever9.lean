/- PRINTED BY pr.py (own program): what the evaluator of <Name>Ev makes of the code of some functions. -/
import Derived.Test.YtdeaollkgckppaaChecked
import Derived.Test.YtdeaollkgckppaaEv
import Derived.Test.YtdeaollkgckppaaMix
namespace Go.Proofs
open Go.Ev
set_option linter.unusedVariables false
set_option maxRecDepth 100000
def F_Never9 (a : Int) (b : Int) (c : Int) (scriptp : Option Addr) (scriptl : Nat) (scriptc : Nat) (w : World) (R : Value → World → Prop) : Prop :=
  CallV Try.prog 13 #[.int .u8 a, .int .u8 b, .int .u8 c] w fun v w => OpA 3 v fun cs => Alc 25 (zc Try.prog 25) w fun b1 w => StA 3 b1 0 cs w fun w => LdA 3 b1 0 (At w) fun
  cs1 => CallV Try.prog 14 #[.agg cs1] w fun v1 w => T2 v1 fun v2 v3 => OpA 12 v2 fun cs2 => OpB v3 fun g => Alc 37 (zc Try.prog 37) w fun b2 w => StA 12 b2 0 cs2 w fun w =>
  LdA 3 b1 0 (At w) fun cs3 => CallV Try.prog 15 #[.agg cs3] w fun v4 w => T2 v4 fun v5 v6 => OpI .i64 v5 fun n => OpI .i64 v6 fun n1 => CallV Try.prog 16 #[] w fun v7 w =>
  OpB v7 fun g1 => Req ((!g1) = (!g1)) (Req ((!g1) = (!g1)) (Cb (cond (!g1) true (!g)) (Ret [] (R (.bool false) w)) (DoV Try.prog (Instr.makeSlice 67 (.int .i64 n) (.int
  .i64 n)) w fun v8 w => OpS v8 fun p l c1 => LoopC (σ := Int × Unit) (fun _ s1 w K1 => Cb (decide (s1.1 < ((scriptl : Nat) : Int))) (IdxS scriptp scriptl s1.1 21 fun b3 o
  => LdA 21 b3 o (At w) fun cs4 => Alc 90 (zc Try.prog 90) w fun b4 w => StA 21 b4 0 cs4 w fun w => LdV b4 0 (At w) fun v9 => OpI .i64 v9 fun n2 => Cb (n2 == 3) (LdA 4 b2 0
  (At w) fun cs5 => LdV b4 1 (At w) fun v10 => OpI .i64 v10 fun n3 => LdA 16 b4 4 (At w) fun cs6 => CallV Try.prog 17 #[.agg cs5, .int .i64 n3, .agg cs6] w fun v11 w => T2
  v11 fun v12 v13 => OpS v12 fun p1 l1 c2 => OpI .i64 v13 fun n4 => Cb (n4 == 0) (LdV b4 1 (At w) fun v14 => OpI .i64 v14 fun n5 => Cb (decide (n5 < 0)) (Ret [] (R (.bool
  false) w)) (LdV b4 1 (At w) fun v15 => OpI .i64 v15 fun n6 => Cb (decide (n6 ≥ n)) (Ret [] (R (.bool false) w)) (LdA 4 b2 0 (At w) fun cs7 => CallV Try.prog 18 #[.agg cs7,
  .slice p1 l1 c2, .int .u32 0] w fun v16 w => OpI .i64 v16 fun n7 => Cb (n7 != 0) (Ret [] (R (.bool false) w)) (Cb (n4 == 0) (LdV b4 1 (At w) fun v17 => OpI .i64 v17 fun n8
  => LdA 16 b4 4 (At w) fun cs8 => IdxS p l n8 16 fun b5 o1 => StA 16 b5 o1 cs8 w fun w => K1 (IntKind.wrap .i64 (s1.1 + 1), ()) w) (K1 (IntKind.wrap .i64 (s1.1 + 1), ())
  w))))) (Cb (n4 == 0) (LdV b4 1 (At w) fun v18 => OpI .i64 v18 fun n9 => LdA 16 b4 4 (At w) fun cs9 => IdxS p l n9 16 fun b6 o2 => StA 16 b6 o2 cs9 w fun w => K1
  (IntKind.wrap .i64 (s1.1 + 1), ()) w) (K1 (IntKind.wrap .i64 (s1.1 + 1), ()) w))) (Cb (n2 == 4) (Cb (n2 == 4) (LdA 12 b2 0 (At w) fun cs10 => LdA 21 b4 0 (At w) fun cs11
  => CallV Try.prog 34 #[.agg cs10, .agg cs11] w fun v19 w => T2 v19 fun v20 v21 => OpA 12 v20 fun cs12 => OpB v21 fun g2 => StA 12 b2 0 cs12 w fun w => K1 (IntKind.wrap
  .i64 (s1.1 + 1), ()) w) (K1 (IntKind.wrap .i64 (s1.1 + 1), ()) w)) (Cb (n2 == 6) (LdA 12 b2 0 (At w) fun cs13 => LdA 21 b4 0 (At w) fun cs14 => CallV Try.prog 34 #[.agg
  cs13, .agg cs14] w fun v22 w => T2 v22 fun v23 v24 => OpA 12 v23 fun cs15 => OpB v24 fun g3 => StA 12 b2 0 cs15 w fun w => K1 (IntKind.wrap .i64 (s1.1 + 1), ()) w) (K1
  (IntKind.wrap .i64 (s1.1 + 1), ()) w)))) (LoopC (σ := Int × Unit) (fun _ s2 w K2 => Cb (decide (s2.1 < n)) (LdA 4 b2 0 (At w) fun cs16 => CallV Try.prog 25 #[.agg cs16,
  .int .i64 s2.1] w fun v25 w => T2 v25 fun v26 v27 => OpA 16 v26 fun cs17 => OpI .i64 v27 fun n10 => Alc 23 (zc Try.prog 23) w fun b7 w => StA 16 b7 0 cs17 w fun w => Req
  ((n10 != 0) = (n10 != 0)) (Req ((n10 != 0) = (n10 != 0)) (Cb (cond (n10 != 0) (n10 != 8) false) (Drw w fun w => Ret [] (R (.bool false) w)) (Cb (n10 == 0) (LdA 16 b7 0 (At
  w) fun cs18 => IdxS p l s2.1 16 fun b8 o3 => LdA 16 b8 o3 (At w) fun cs19 => EqB Try.prog .neq 23 (.tmp 127) (.tmp 131) (.agg cs18 : Value) (.agg cs19 : Value) (At w) fun
  g4 => Drw w fun w => Cb g4 (Ret [] (R (.bool false) w)) (K2 (IntKind.wrap .i64 (s2.1 + 1), ()) w)) (Drw w fun w => K2 (IntKind.wrap .i64 (s2.1 + 1), ()) w))))) (Ret [] (R
  (.bool true) w))) (0, ()) w)) (0, ()) w)))
theorem C_Never9 {a : Int} {b : Int} {c : Int} {scriptp : Option Addr} {scriptl : Nat} {scriptc : Nat} {w : World} {R : Value → World → Prop} (h : F_Never9 a b c scriptp scriptl scriptc w R) : CallV Try.prog 8 #[.int .u8 a, .int .u8 b, .int .u8 c, .slice scriptp scriptl scriptc] w R := by
  exact calls_of_F (args := [.int .u8 a, .int .u8 b, .int .u8 c, .slice scriptp scriptl scriptc]) (mkAnn [(8, [(15, (.int .i64))]), (22, [(19, (.int .i64))])] [] [] [] []) Try_mixed Try.func8 rfl rfl (by kernel_rfl) h
end Go.Proofs
