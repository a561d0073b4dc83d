/- PRINTED BY pr.py (own program): what the evaluator of <Name>Ev makes of the code of some functions. -/
import Derived.Test.YtdeaollkgckppaaChecked
import Derived.Test.YtdeaollkgckppaaEv
import Derived.Test.YtdeaollkgckppaaMix
namespace Go.Proofs
open Go.Ev
set_option linter.unusedVariables false
set_option maxRecDepth 100000
def F_ravelinlaw09_small (a : Int) (b : Int) (c : Int) (w : World) (R : Value → World → Prop) : Prop :=
  Alc 25 (zc Try.prog 25) w fun b1 w => Req ((4 : Int) ≠ 0) (Req ((2 : Int) ≠ 0) (Req ((4 : Int) ≠ 0) (DoQ Try.prog (Instr.build 25 #[(0, .int .i64 (IntKind.wrap .i64
  ((IntKind.wrap .i64 (Int.tmod a 4)) + 4))), (1, .int .i64 (IntKind.wrap .i64 ((IntKind.wrap .i64 (Int.tmod b 2)) + 1))), (2, .int .i64 (IntKind.wrap .i64 ((IntKind.wrap
  .i64 (Int.tmod c 4)) + 1)))]) (At w) fun v => OpA 3 v fun cs => StA 3 b1 0 cs w fun w => LdA 3 b1 0 (At w) fun cs1 => Ret [] (R (.agg cs1) w))))
theorem C_ravelinlaw09_small {a : Int} {b : Int} {c : Int} {w : World} {R : Value → World → Prop} (h : F_ravelinlaw09_small a b c w R) : CallV Try.prog 13 #[.int .u8 a, .int .u8 b, .int .u8 c] w R := by
  exact calls_of_F (args := [.int .u8 a, .int .u8 b, .int .u8 c]) (mkAnn [] [] [] [] []) Try_mixed Try.func13 rfl rfl (by kernel_rfl) h
def F_ravelinlaw09_made (g : Array Value) (w : World) (R : Value → World → Prop) : Prop :=
  Alc 25 g w fun b w => Alc 37 (zc Try.prog 37) w fun b1 w => CallV Try.prog 30 #[] w fun v w => OpN v fun b2 o => LdA 3 b 0 (At w) fun cs => CallV Try.prog 31 #[.agg cs,
  .pointer (some ⟨b2, o, none⟩)] w fun v1 w => T2 v1 fun v2 v3 => OpA 4 v2 fun cs1 => OpI .i64 v3 fun n => Alc 29 (zc Try.prog 29) w fun b3 w => StA 4 b3 0 cs1 w fun w =>
  Req ((n != 0) = (n != 0)) (Req ((n != 0) = (n != 0)) (Cb (cond (n != 0) true false) (DoQ Try.prog (Instr.build 37 #[]) (At w) fun v4 => OpA 12 v4 fun cs2 => StA 12 b1 0
  cs2 w fun w => LdA 12 b1 0 (At w) fun cs3 => Ret [] (R (.tuple #[.agg cs3, .bool false]) w)) (LdV b3 3 (At w) fun v5 => OpS v5 fun p l c => LdV b 0 (At w) fun v6 => OpI
  .i64 v6 fun n1 => Cb (((l : Nat) : Int) != n1) (DoQ Try.prog (Instr.build 37 #[]) (At w) fun v7 => OpA 12 v7 fun cs4 => StA 12 b1 0 cs4 w fun w => LdA 12 b1 0 (At w) fun
  cs5 => Ret [] (R (.tuple #[.agg cs5, .bool false]) w)) (LdA 3 b3 0 (At w) fun cs6 => LdA 3 b 0 (At w) fun cs7 => EqB Try.prog .neq 25 (.tmp 30) (.tmp 31) (.agg cs6 :
  Value) (.agg cs7 : Value) (At w) fun g1 => Cb g1 (DoQ Try.prog (Instr.build 37 #[]) (At w) fun v8 => OpA 12 v8 fun cs8 => StA 12 b1 0 cs8 w fun w => LdA 12 b1 0 (At w) fun
  cs9 => Ret [] (R (.tuple #[.agg cs9, .bool false]) w)) (LdA 4 b3 0 (At w) fun cs10 => CallV Try.prog 33 #[.agg cs10] w fun v9 w => OpI .i64 v9 fun n2 => Cb (n2 != 0) (DoQ
  Try.prog (Instr.build 37 #[]) (At w) fun v10 => OpA 12 v10 fun cs11 => StA 12 b1 0 cs11 w fun w => LdA 12 b1 0 (At w) fun cs12 => Ret [] (R (.tuple #[.agg cs12, .bool
  false]) w)) (HeldR w fun S w => LdA 4 b3 0 S fun cs13 => LdA 3 b 0 S fun cs14 => CallV Try.prog 43 #[] w fun v11 w => OpA 3 v11 fun cs15 => Hld (S w) (CallV Try.prog 42
  #[.agg cs14, .agg cs15] w fun v12 w => OpA 7 v12 fun cs16 => Hld (S w) (DoQ Try.prog (Instr.build 37 #[(0, .agg cs13), (1, .agg cs16), (2, .pointer (some ⟨b2, o, none⟩))])
  (At w) fun v13 => OpA 12 v13 fun cs17 => StA 12 b1 0 cs17 w fun w => Hld (S w) (LdA 12 b1 0 (At w) fun cs18 => Ret [] (R (.tuple #[.agg cs18, .bool true]) w))))))))))
theorem C_ravelinlaw09_made {g : Array Value} {w : World} {R : Value → World → Prop} (h : F_ravelinlaw09_made g w R) : CallV Try.prog 14 #[.agg g] w R := by
  exact calls_of_F (args := [.agg g]) (mkAnn [] [] [] [] [42, 43, 100007]) Try_mixed Try.func14 rfl rfl (by kernel_rfl) h
def F_ravelinlaw09_awake  (w : World) (R : Value → World → Prop) : Prop :=
  DoQ Try.prog (Instr.build 25 #[(0, .int .i64 4), (1, .int .i64 1), (2, .int .i64 2)]) (At w) fun v => OpA 3 v fun cs => CallV Try.prog 30 #[] w fun v1 w => OpN v1 fun b o
  => CallV Try.prog 31 #[.agg cs, .pointer (some ⟨b, o, none⟩)] w fun v2 w => T2 v2 fun v3 v4 => OpA 4 v3 fun cs1 => OpI .i64 v4 fun n => Alc 29 (zc Try.prog 29) w fun b1 w
  => StA 4 b1 0 cs1 w fun w => Cb (n != 0) (Ret [] (R (.bool false) w)) (LdA 4 b1 0 (At w) fun cs2 => DoQ Try.prog (Instr.build 23 #[(0, .int .u8 7)]) (At w) fun v5 => OpA
  16 v5 fun cs3 => CallV Try.prog 17 #[.agg cs2, .int .i64 0, .agg cs3] w fun v6 w => T2 v6 fun v7 v8 => OpS v7 fun p l c => OpI .i64 v8 fun n1 => Cb (n1 == 0) (Cb (((l :
  Nat) : Int) == 3) (IdxS p l 0 19 fun b2 o1 => LdA 2 b2 o1 (At w) fun cs4 => DoQ Try.prog (Instr.build 53 #[(0, .int .i64 1)]) (At w) fun v9 => OpA 2 v9 fun cs5 => EqB
  Try.prog .eql 53 (.tmp 29) (.tmp 30) (.agg cs4 : Value) (.agg cs5 : Value) (At w) fun g => Ret [] (R (.bool g) w)) (Ret [] (R (.bool false) w))) (Ret [] (R (.bool false)
  w)))
theorem C_ravelinlaw09_awake  {w : World} {R : Value → World → Prop} (h : F_ravelinlaw09_awake  w R) : CallV Try.prog 16 #[] w R := by
  exact calls_of_F (args := []) (mkAnn [] [] [] [] [100006]) Try_mixed Try.func16 rfl rfl (by kernel_rfl) h
def F_ravelinlaw09_StripeCells (a : Int) (b : Int) (c : Int) (lba : Int) (data : Array Value) (w : World) (R : Value → World → Prop) : Prop :=
  Alc 23 data w fun b1 w => CallV Try.prog 13 #[.int .u8 a, .int .u8 b, .int .u8 c] w fun v w => OpA 3 v fun cs => Alc 25 (zc Try.prog 25) w fun b2 w => StA 3 b2 0 cs w fun
  w => LdA 3 b2 0 (At w) fun cs1 => CallV Try.prog 14 #[.agg cs1] w fun v1 w => T2 v1 fun v2 v3 => OpA 12 v2 fun cs2 => OpB v3 fun g => Alc 37 (zc Try.prog 37) w fun b3 w =>
  StA 12 b3 0 cs2 w fun w => LdA 3 b2 0 (At w) fun cs3 => CallV Try.prog 15 #[.agg cs3] w fun v4 w => T2 v4 fun v5 v6 => OpI .i64 v5 fun n => OpI .i64 v6 fun n1 => CallV
  Try.prog 16 #[] w fun v7 w => OpB v7 fun g1 => Req ((!g1) = (!g1)) (Req ((!g1) = (!g1)) (Cb (cond (!g1) true (!g)) (Ret [] (R (.bool false) w)) (Req (n ≠ 0) (LdA 4 b3 0
  (At w) fun cs4 => LdA 16 b1 0 (At w) fun cs5 => CallV Try.prog 17 #[.agg cs4, .int .i64 (Int.tmod (IntKind.wrap .i64 lba) n), .agg cs5] w fun v8 w => T2 v8 fun v9 v10 =>
  OpS v9 fun p l c1 => OpI .i64 v10 fun n2 => Cb (n2 != 0) (Ret [] (R (.bool false) w)) (Cb (((l : Nat) : Int) != 3) (Ret [] (R (.bool false) w)) (LdA 4 b3 0 (At w) fun cs6
  => CallV Try.prog 18 #[.agg cs6, .slice p l c1, .int .u32 0] w fun v11 w => OpI .i64 v11 fun n3 => Cb (n3 != 0) (Ret [] (R (.bool false) w)) (LdV b3 11 (At w) fun v12 =>
  OpN v12 fun b4 o => CallV Try.prog 19 #[.pointer (some ⟨b4, o, none⟩)] w fun v13 w => OpI .i64 v13 fun n4 => Cb (n4 != 3) (Ret [] (R (.bool false) w)) (LdA 3 b2 0 (At w)
  fun cs7 => CallV Try.prog 20 #[.agg cs7, .int .i64 (Int.tmod (IntKind.wrap .i64 lba) n)] w fun v14 w => T3 v14 fun v15 v16 v17 => OpA 3 v15 fun cs8 => OpA 2 v16 fun cs9 =>
  OpI .i64 v17 fun n5 => Alc 51 (zc Try.prog 51) w fun b5 w => Alc 53 (zc Try.prog 53) w fun b6 w => StA 3 b5 0 cs8 w fun w => StA 2 b6 0 cs9 w fun w => LoopC (σ := Int ×
  Unit) (fun _ s1 w K1 => LdV b2 0 (At w) fun v18 => OpI .i64 v18 fun n6 => Cb (decide (s1.1 < n6)) (LoopC (σ := Int × Unit) (fun _ s2 w K2 => LdV b2 1 (At w) fun v19 => OpI
  .i64 v19 fun n7 => LdV b2 2 (At w) fun v20 => OpI .i64 v20 fun n8 => Cb (decide (s2.1 < IntKind.wrap .i64 (n7 * n8))) (LdV b3 3 (At w) fun v21 => OpS v21 fun p1 l1 c2 =>
  IdxS p1 l1 s1.1 1 fun b7 o1 => LdV b7 o1 (At w) fun v22 => OpN v22 fun b8 o2 => CallV Try.prog 21 #[.pointer (some ⟨b8, o2, none⟩), .int .i64 s2.1] w fun v23 w => T2 v23
  fun v24 v25 => OpA 17 v24 fun cs10 => OpI .i64 v25 fun n9 => Alc 57 (zc Try.prog 57) w fun b9 w => StA 17 b9 0 cs10 w fun w => DoQ Try.prog (Instr.build 53 #[(0, .int .i64
  s1.1), (1, .int .i64 s2.1)]) (At w) fun v26 => OpA 2 v26 fun cs11 => Alc 53 (zc Try.prog 53) w fun b10 w => StA 2 b10 0 cs11 w fun w => LdA 3 b2 0 (At w) fun cs12 => LdA 2
  b10 0 (At w) fun cs13 => CallV Try.prog 22 #[.agg cs12, .agg cs13] w fun v27 w => T3 v27 fun v28 v29 v30 => OpI .i64 v28 fun n10 => OpI .i64 v29 fun n11 => OpI .i64 v30
  fun n12 => LdA 2 b10 0 (At w) fun cs14 => LdA 2 b6 0 (At w) fun cs15 => EqB Try.prog .eql 53 (.tmp 128) (.tmp 129) (.agg cs14 : Value) (.agg cs15 : Value) (At w) fun g2 =>
  Cb g2 (Cb (n9 != 0) (Drw w fun w => Ret [] (R (.bool false) w)) (Cb (!true) (LdA 17 b9 0 (At w) fun cs16 => LdV b3 7 (At w) fun v31 => OpS v31 fun p2 l2 c3 => IdxS p2 l2
  s1.1 4 fun b11 o3 => LdV b11 o3 (At w) fun v32 => OpS v32 fun p3 l3 c4 => IdxS p3 l3 s2.1 17 fun b12 o4 => LdA 17 b12 o4 (At w) fun cs17 => EqB Try.prog .neq 57 (.tmp 150)
  (.tmp 160) (.agg cs16 : Value) (.agg cs17 : Value) (At w) fun g3 => Cb g3 (Drw w fun w => Ret [] (R (.bool false) w)) (LdA 2 b10 0 (At w) fun cs18 => LdA 2 b6 0 (At w) fun
  cs19 => EqB Try.prog .eql 53 (.tmp 165) (.tmp 166) (.agg cs18 : Value) (.agg cs19 : Value) (At w) fun g4 => Cb g4 (LdA 16 b9 0 (At w) fun cs20 => LdA 16 b1 0 (At w) fun
  cs21 => EqB Try.prog .neq 23 (.tmp 170) (.tmp 171) (.agg cs20 : Value) (.agg cs21 : Value) (At w) fun g5 => Drw w fun w => Cb g5 (Ret [] (R (.bool false) w)) (K2
  (IntKind.wrap .i64 (s2.1 + 1), ()) w)) (Drw w fun w => K2 (IntKind.wrap .i64 (s2.1 + 1), ()) w))) (LdA 2 b10 0 (At w) fun cs22 => LdA 2 b6 0 (At w) fun cs23 => EqB
  Try.prog .eql 53 (.tmp 165) (.tmp 166) (.agg cs22 : Value) (.agg cs23 : Value) (At w) fun g6 => Cb g6 (LdA 16 b9 0 (At w) fun cs24 => LdA 16 b1 0 (At w) fun cs25 => EqB
  Try.prog .neq 23 (.tmp 170) (.tmp 171) (.agg cs24 : Value) (.agg cs25 : Value) (At w) fun g7 => Drw w fun w => Cb g7 (Ret [] (R (.bool false) w)) (K2 (IntKind.wrap .i64
  (s2.1 + 1), ()) w)) (Drw w fun w => K2 (IntKind.wrap .i64 (s2.1 + 1), ()) w)))) (LdV b6 1 (At w) fun v33 => OpI .i64 v33 fun n13 => Cb (s2.1 == n13) (LdV b2 0 (At w) fun
  v34 => OpI .i64 v34 fun n14 => Cb (n9 != 0) (Drw w fun w => Ret [] (R (.bool false) w)) (Cb (!(decide (n11 ≥ IntKind.wrap .i64 (n14 - 2)))) (LdA 17 b9 0 (At w) fun cs26 =>
  LdV b3 7 (At w) fun v35 => OpS v35 fun p4 l4 c5 => IdxS p4 l4 s1.1 4 fun b13 o5 => LdV b13 o5 (At w) fun v36 => OpS v36 fun p5 l5 c6 => IdxS p5 l5 s2.1 17 fun b14 o6 =>
  LdA 17 b14 o6 (At w) fun cs27 => EqB Try.prog .neq 57 (.tmp 150) (.tmp 160) (.agg cs26 : Value) (.agg cs27 : Value) (At w) fun g8 => Cb g8 (Drw w fun w => Ret [] (R (.bool
  false) w)) (LdA 2 b10 0 (At w) fun cs28 => LdA 2 b6 0 (At w) fun cs29 => EqB Try.prog .eql 53 (.tmp 165) (.tmp 166) (.agg cs28 : Value) (.agg cs29 : Value) (At w) fun g9
  => Cb g9 (LdA 16 b9 0 (At w) fun cs30 => LdA 16 b1 0 (At w) fun cs31 => EqB Try.prog .neq 23 (.tmp 170) (.tmp 171) (.agg cs30 : Value) (.agg cs31 : Value) (At w) fun g10
  => Drw w fun w => Cb g10 (Ret [] (R (.bool false) w)) (K2 (IntKind.wrap .i64 (s2.1 + 1), ()) w)) (Drw w fun w => K2 (IntKind.wrap .i64 (s2.1 + 1), ()) w))) (LdA 2 b10 0
  (At w) fun cs32 => LdA 2 b6 0 (At w) fun cs33 => EqB Try.prog .eql 53 (.tmp 165) (.tmp 166) (.agg cs32 : Value) (.agg cs33 : Value) (At w) fun g11 => Cb g11 (LdA 16 b9 0
  (At w) fun cs34 => LdA 16 b1 0 (At w) fun cs35 => EqB Try.prog .neq 23 (.tmp 170) (.tmp 171) (.agg cs34 : Value) (.agg cs35 : Value) (At w) fun g12 => Drw w fun w => Cb
  g12 (Ret [] (R (.bool false) w)) (K2 (IntKind.wrap .i64 (s2.1 + 1), ()) w)) (Drw w fun w => K2 (IntKind.wrap .i64 (s2.1 + 1), ()) w)))) (Cb (n9 != 0) (Drw w fun w => Ret
  [] (R (.bool false) w)) (Cb (!false) (LdA 17 b9 0 (At w) fun cs36 => LdV b3 7 (At w) fun v37 => OpS v37 fun p6 l6 c7 => IdxS p6 l6 s1.1 4 fun b15 o7 => LdV b15 o7 (At w)
  fun v38 => OpS v38 fun p7 l7 c8 => IdxS p7 l7 s2.1 17 fun b16 o8 => LdA 17 b16 o8 (At w) fun cs37 => EqB Try.prog .neq 57 (.tmp 150) (.tmp 160) (.agg cs36 : Value) (.agg
  cs37 : Value) (At w) fun g13 => Cb g13 (Drw w fun w => Ret [] (R (.bool false) w)) (LdA 2 b10 0 (At w) fun cs38 => LdA 2 b6 0 (At w) fun cs39 => EqB Try.prog .eql 53 (.tmp
  165) (.tmp 166) (.agg cs38 : Value) (.agg cs39 : Value) (At w) fun g14 => Cb g14 (LdA 16 b9 0 (At w) fun cs40 => LdA 16 b1 0 (At w) fun cs41 => EqB Try.prog .neq 23 (.tmp
  170) (.tmp 171) (.agg cs40 : Value) (.agg cs41 : Value) (At w) fun g15 => Drw w fun w => Cb g15 (Ret [] (R (.bool false) w)) (K2 (IntKind.wrap .i64 (s2.1 + 1), ()) w))
  (Drw w fun w => K2 (IntKind.wrap .i64 (s2.1 + 1), ()) w))) (LdA 2 b10 0 (At w) fun cs42 => LdA 2 b6 0 (At w) fun cs43 => EqB Try.prog .eql 53 (.tmp 165) (.tmp 166) (.agg
  cs42 : Value) (.agg cs43 : Value) (At w) fun g16 => Cb g16 (LdA 16 b9 0 (At w) fun cs44 => LdA 16 b1 0 (At w) fun cs45 => EqB Try.prog .neq 23 (.tmp 170) (.tmp 171) (.agg
  cs44 : Value) (.agg cs45 : Value) (At w) fun g17 => Drw w fun w => Cb g17 (Ret [] (R (.bool false) w)) (K2 (IntKind.wrap .i64 (s2.1 + 1), ()) w)) (Drw w fun w => K2
  (IntKind.wrap .i64 (s2.1 + 1), ()) w)))))) (K1 (IntKind.wrap .i64 (s1.1 + 1), ()) w)) (0, ()) w) (LdA 4 b3 0 (At w) fun cs46 => LdV b5 0 (At w) fun v39 => OpI .i64 v39 fun
  n15 => LdV b5 2 (At w) fun v40 => OpI .i64 v40 fun n16 => CallV Try.prog 23 #[.agg cs46, .int .i64 n15, .int .i64 n16] w fun v41 w => T3 v41 fun v42 v43 v44 => OpS v42 fun
  p8 l8 c9 => OpS v43 fun p9 l9 c10 => OpI .i64 v44 fun n17 => Cb (n17 == 0) (Cb (((l9 : Nat) : Int) == 0) (LdV b2 0 (At w) fun v45 => OpI .i64 v45 fun n18 => Cb (((l8 :
  Nat) : Int) == n18) (LdV b5 1 (At w) fun v46 => OpI .i64 v46 fun n19 => IdxS p8 l8 n19 16 fun b17 o9 => LdA 16 b17 o9 (At w) fun cs47 => LdA 16 b1 0 (At w) fun cs48 => EqB
  Try.prog .eql 23 (.tmp 205) (.tmp 206) (.agg cs47 : Value) (.agg cs48 : Value) (At w) fun g18 => Drw w fun w => Ret [] (R (.bool g18) w)) (Drw w fun w => Ret [] (R (.bool
  false) w))) (Drw w fun w => Ret [] (R (.bool false) w))) (Drw w fun w => Ret [] (R (.bool false) w)))) (0, ()) w))))))))
theorem C_ravelinlaw09_StripeCells {a : Int} {b : Int} {c : Int} {lba : Int} {data : Array Value} {w : World} {R : Value → World → Prop} (h : F_ravelinlaw09_StripeCells a b c lba data w R) : CallV Try.prog 3 #[.int .u8 a, .int .u8 b, .int .u8 c, .int .u8 lba, .agg data] w R := by
  exact calls_of_F (args := [.int .u8 a, .int .u8 b, .int .u8 c, .int .u8 lba, .agg data]) (mkAnn [(12, [(22, (.int .i64))]), (15, [(23, (.int .i64))])] [] [] [] []) Try_mixed Try.func3 rfl rfl (by kernel_rfl) h
def F_ravelinlaw09_StripeTwo (a : Int) (b : Int) (c : Int) (lbasp : Option Addr) (lbasl : Nat) (lbasc : Nat) (data : Array Value) (x : Int) (y : Int) (ahead : Bool) (w : World) (R : Value → World → Prop) : Prop :=
  Alc 23 data w fun b1 w => CallV Try.prog 13 #[.int .u8 a, .int .u8 b, .int .u8 c] w fun v w => OpA 3 v fun cs => Alc 25 (zc Try.prog 25) w fun b2 w => StA 3 b2 0 cs w fun
  w => LdA 3 b2 0 (At w) fun cs1 => CallV Try.prog 14 #[.agg cs1] w fun v1 w => T2 v1 fun v2 v3 => OpA 12 v2 fun cs2 => OpB v3 fun g => Alc 37 (zc Try.prog 37) w fun b3 w =>
  StA 12 b3 0 cs2 w fun w => LdA 3 b2 0 (At w) fun cs3 => CallV Try.prog 15 #[.agg cs3] w fun v4 w => T2 v4 fun v5 v6 => OpI .i64 v5 fun n => OpI .i64 v6 fun n1 => CallV
  Try.prog 16 #[] w fun v7 w => OpB v7 fun g1 => Req ((!g1) = (!g1)) (Req ((!g1) = (!g1)) (Cb (cond (!g1) true (!g)) (Ret [] (R (.bool false) w)) (DoV Try.prog
  (Instr.makeSlice 67 (.int .i64 n) (.int .i64 n)) w fun v8 w => OpS v8 fun p l c1 => LoopC (σ := Int × Unit) (fun _ s1 w K1 => Req ((decide (s1.1 < ((lbasl : Nat) : Int)))
  = (decide (s1.1 < ((lbasl : Nat) : Int)))) (Req ((decide (s1.1 < ((lbasl : Nat) : Int))) = (decide (s1.1 < ((lbasl : Nat) : Int)))) (Cb (cond (decide (s1.1 < ((lbasl :
  Nat) : Int))) (decide (s1.1 < 40)) false) (Cb ahead (Req ((2 : Int) ≠ 0) (Cb (s1.1 == (IntKind.wrap .i64 (Int.tdiv ((lbasl : Nat) : Int) 2))) (HeldR w fun S w => LdV b3 3
  S fun v9 => OpS v9 fun p1 l1 c2 => LdV b2 0 S fun v10 => OpI .i64 v10 fun n2 => Req (n2 ≠ 0) (IdxS p1 l1 (Int.tmod (IntKind.wrap .i64 x) n2) 1 fun b4 o => LdV b4 o (At w)
  fun v11 => OpN v11 fun b5 o1 => CallV Try.prog 24 #[.pointer (some ⟨b5, o1, none⟩)] w fun v12 w => Hld (S w) (HeldR w fun S w => LdV b3 3 S fun v13 => OpS v13 fun p2 l2 c3
  => LdV b2 0 S fun v14 => OpI .i64 v14 fun n3 => Req (n3 ≠ 0) (IdxS p2 l2 (Int.tmod (IntKind.wrap .i64 y) n3) 1 fun b6 o2 => LdV b6 o2 (At w) fun v15 => OpN v15 fun b7 o3
  => CallV Try.prog 24 #[.pointer (some ⟨b7, o3, none⟩)] w fun v16 w => Hld (S w) (IdxS lbasp lbasl s1.1 1 fun b8 o4 => LdV b8 o4 (At w) fun v17 => OpI .u8 v17 fun n4 => Req
  (n ≠ 0) (Req (0 ≤ (0 : Int) ∧ (0 : Int) < 16) (StV b1 (0 + Int.toNat 0 * 1) (.int .u8 (IntKind.wrap .u8 (IntKind.wrap .i64 (s1.1 + 1)))) w fun w => LdA 4 b3 0 (At w) fun
  cs4 => LdA 16 b1 0 (At w) fun cs5 => CallV Try.prog 17 #[.agg cs4, .int .i64 (Int.tmod (IntKind.wrap .i64 n4) n), .agg cs5] w fun v18 w => T2 v18 fun v19 v20 => OpS v19
  fun p3 l3 c4 => OpI .i64 v20 fun n5 => Cb (n5 != 0) (Ret [] (R (.bool false) w)) (LdA 4 b3 0 (At w) fun cs6 => CallV Try.prog 18 #[.agg cs6, .slice p3 l3 c4, .int .u32 0]
  w fun v21 w => OpI .i64 v21 fun n6 => Cb (n6 != 0) (Ret [] (R (.bool false) w)) (LdA 16 b1 0 (At w) fun cs7 => IdxS p l (Int.tmod (IntKind.wrap .i64 n4) n) 16 fun b9 o5 =>
  StA 16 b9 o5 cs7 w fun w => K1 (IntKind.wrap .i64 (s1.1 + 1), ()) w))))))))) (IdxS lbasp lbasl s1.1 1 fun b10 o6 => LdV b10 o6 (At w) fun v22 => OpI .u8 v22 fun n7 => Req
  (n ≠ 0) (Req (0 ≤ (0 : Int) ∧ (0 : Int) < 16) (StV b1 (0 + Int.toNat 0 * 1) (.int .u8 (IntKind.wrap .u8 (IntKind.wrap .i64 (s1.1 + 1)))) w fun w => LdA 4 b3 0 (At w) fun
  cs8 => LdA 16 b1 0 (At w) fun cs9 => CallV Try.prog 17 #[.agg cs8, .int .i64 (Int.tmod (IntKind.wrap .i64 n7) n), .agg cs9] w fun v23 w => T2 v23 fun v24 v25 => OpS v24
  fun p4 l4 c5 => OpI .i64 v25 fun n8 => Cb (n8 != 0) (Ret [] (R (.bool false) w)) (LdA 4 b3 0 (At w) fun cs10 => CallV Try.prog 18 #[.agg cs10, .slice p4 l4 c5, .int .u32
  0] w fun v26 w => OpI .i64 v26 fun n9 => Cb (n9 != 0) (Ret [] (R (.bool false) w)) (LdA 16 b1 0 (At w) fun cs11 => IdxS p l (Int.tmod (IntKind.wrap .i64 n7) n) 16 fun b11
  o7 => StA 16 b11 o7 cs11 w fun w => K1 (IntKind.wrap .i64 (s1.1 + 1), ()) w))))))) (IdxS lbasp lbasl s1.1 1 fun b12 o8 => LdV b12 o8 (At w) fun v27 => OpI .u8 v27 fun n10
  => Req (n ≠ 0) (Req (0 ≤ (0 : Int) ∧ (0 : Int) < 16) (StV b1 (0 + Int.toNat 0 * 1) (.int .u8 (IntKind.wrap .u8 (IntKind.wrap .i64 (s1.1 + 1)))) w fun w => LdA 4 b3 0 (At
  w) fun cs12 => LdA 16 b1 0 (At w) fun cs13 => CallV Try.prog 17 #[.agg cs12, .int .i64 (Int.tmod (IntKind.wrap .i64 n10) n), .agg cs13] w fun v28 w => T2 v28 fun v29 v30
  => OpS v29 fun p5 l5 c6 => OpI .i64 v30 fun n11 => Cb (n11 != 0) (Ret [] (R (.bool false) w)) (LdA 4 b3 0 (At w) fun cs14 => CallV Try.prog 18 #[.agg cs14, .slice p5 l5
  c6, .int .u32 0] w fun v31 w => OpI .i64 v31 fun n12 => Cb (n12 != 0) (Ret [] (R (.bool false) w)) (LdA 16 b1 0 (At w) fun cs15 => IdxS p l (Int.tmod (IntKind.wrap .i64
  n10) n) 16 fun b13 o9 => StA 16 b13 o9 cs15 w fun w => K1 (IntKind.wrap .i64 (s1.1 + 1), ()) w)))))) (HeldR w fun S w => LdV b3 3 S fun v32 => OpS v32 fun p6 l6 c7 => LdV
  b2 0 S fun v33 => OpI .i64 v33 fun n13 => Req (n13 ≠ 0) (IdxS p6 l6 (Int.tmod (IntKind.wrap .i64 x) n13) 1 fun b14 o10 => LdV b14 o10 (At w) fun v34 => OpN v34 fun b15 o11
  => CallV Try.prog 24 #[.pointer (some ⟨b15, o11, none⟩)] w fun v35 w => Hld (S w) (HeldR w fun S w => LdV b3 3 S fun v36 => OpS v36 fun p7 l7 c8 => LdV b2 0 S fun v37 =>
  OpI .i64 v37 fun n14 => Req (n14 ≠ 0) (IdxS p7 l7 (Int.tmod (IntKind.wrap .i64 y) n14) 1 fun b16 o12 => LdV b16 o12 (At w) fun v38 => OpN v38 fun b17 o13 => CallV Try.prog
  24 #[.pointer (some ⟨b17, o13, none⟩)] w fun v39 w => Hld (S w) (LoopC (σ := Int × Unit) (fun _ s2 w K2 => Cb (decide (s2.1 < n)) (LdA 4 b3 0 (At w) fun cs16 => CallV
  Try.prog 25 #[.agg cs16, .int .i64 s2.1] w fun v40 w => T2 v40 fun v41 v42 => OpA 16 v41 fun cs17 => OpI .i64 v42 fun n15 => Alc 23 (zc Try.prog 23) w fun b18 w => StA 16
  b18 0 cs17 w fun w => Cb (n15 != 0) (Drw w fun w => Ret [] (R (.bool false) w)) (LdA 16 b18 0 (At w) fun cs18 => IdxS p l s2.1 16 fun b19 o14 => LdA 16 b19 o14 (At w) fun
  cs19 => EqB Try.prog .neq 23 (.tmp 161) (.tmp 165) (.agg cs18 : Value) (.agg cs19 : Value) (At w) fun g2 => Drw w fun w => Cb g2 (Ret [] (R (.bool false) w)) (K2
  (IntKind.wrap .i64 (s2.1 + 1), ()) w))) (Ret [] (R (.bool true) w))) (0, ()) w)))))))) (0, ()) w)))
theorem C_ravelinlaw09_StripeTwo {a : Int} {b : Int} {c : Int} {lbasp : Option Addr} {lbasl : Nat} {lbasc : Nat} {data : Array Value} {x : Int} {y : Int} {ahead : Bool} {w : World} {R : Value → World → Prop} (h : F_ravelinlaw09_StripeTwo a b c lbasp lbasl lbasc data x y ahead w R) : CallV Try.prog 4 #[.int .u8 a, .int .u8 b, .int .u8 c, .slice lbasp lbasl lbasc, .agg data, .int .u8 x, .int .u8 y, .bool ahead] w R := by
  exact calls_of_F (args := [.int .u8 a, .int .u8 b, .int .u8 c, .slice lbasp lbasl lbasc, .agg data, .int .u8 x, .int .u8 y, .bool ahead]) (mkAnn [(8, [(23, (.int .i64))]), (22, [(27, (.int .i64))])] [] [] [] [80, 91, 134, 145]) Try_mixed Try.func4 rfl rfl (by kernel_rfl) h
def F_ravelinlaw09_StripeRows (a : Int) (b : Int) (c : Int) (listp : Option Addr) (listl : Nat) (listc : Nat) (x : Int) (y : Int) (z : Int) (w : World) (R : Value → World → Prop) : Prop :=
  CallV Try.prog 13 #[.int .u8 a, .int .u8 b, .int .u8 c] w fun v w => OpA 3 v fun cs => Alc 25 (zc Try.prog 25) w fun b1 w => StA 3 b1 0 cs w fun w => LdA 3 b1 0 (At w) fun
  cs1 => CallV Try.prog 14 #[.agg cs1] w fun v1 w => T2 v1 fun v2 v3 => OpA 12 v2 fun cs2 => OpB v3 fun g => Alc 37 (zc Try.prog 37) w fun b2 w => StA 12 b2 0 cs2 w fun w =>
  LdA 3 b1 0 (At w) fun cs3 => CallV Try.prog 15 #[.agg cs3] w fun v4 w => T2 v4 fun v5 v6 => OpI .i64 v5 fun n => OpI .i64 v6 fun n1 => CallV Try.prog 16 #[] w fun v7 w =>
  OpB v7 fun g1 => Req ((!g1) = (!g1)) (Req ((!g1) = (!g1)) (Cb (cond (!g1) true (!g)) (Ret [] (R (.bool false) w)) (DoV Try.prog (Instr.makeSlice 67 (.int .i64 n) (.int
  .i64 n)) w fun v8 w => OpS v8 fun p l c1 => LoopC (σ := Int × Unit) (fun _ s1 w K1 => Req ((decide (s1.1 < ((listl : Nat) : Int))) = (decide (s1.1 < ((listl : Nat) :
  Int)))) (Req ((decide (s1.1 < ((listl : Nat) : Int))) = (decide (s1.1 < ((listl : Nat) : Int)))) (Req ((decide (s1.1 < ((listl : Nat) : Int))) = (decide (s1.1 < ((listl :
  Nat) : Int)))) (Cb (cond (decide (s1.1 < ((listl : Nat) : Int))) (decide (s1.1 < n)) false) (HeldR w fun S w => LdA 4 b2 0 (At w) fun cs4 => IdxS listp listl s1.1 16 fun
  b3 o => LdA 16 b3 o (At w) fun cs5 => CallV Try.prog 17 #[.agg cs4, .int .i64 s1.1, .agg cs5] w fun v9 w => T2 v9 fun v10 v11 => OpS v10 fun p1 l1 c2 => OpI .i64 v11 fun
  n2 => Hld (S w) (Cb (n2 != 0) (Ret [] (R (.bool false) w)) (LdA 4 b2 0 (At w) fun cs6 => CallV Try.prog 18 #[.agg cs6, .slice p1 l1 c2, .int .u32 0] w fun v12 w => OpI
  .i64 v12 fun n3 => Cb (n3 != 0) (Ret [] (R (.bool false) w)) (IdxS listp listl s1.1 16 fun b4 o1 => LdA 16 b4 o1 (At w) fun cs7 => IdxS p l s1.1 16 fun b5 o2 => StA 16 b5
  o2 cs7 w fun w => K1 (IntKind.wrap .i64 (s1.1 + 1), ()) w)))) (LdV b1 0 (At w) fun v13 => OpI .i64 v13 fun n4 => Req (n4 ≠ 0) (LdV b1 0 (At w) fun v14 => OpI .i64 v14 fun
  n5 => Req (n5 ≠ 0) (LdV b1 0 (At w) fun v15 => OpI .i64 v15 fun n6 => Req (n6 ≠ 0) (Drw w fun w => LdV b2 3 (At w) fun v16 => OpS v16 fun p2 l2 c3 => IdxS p2 l2 (Int.tmod
  (IntKind.wrap .i64 x) n4) 1 fun b6 o3 => LdV b6 o3 (At w) fun v17 => OpN v17 fun b7 o4 => CallV Try.prog 26 #[.pointer (some ⟨b7, o4, none⟩), .int .i64 0] w fun v18 w =>
  OpI .i64 v18 fun n7 => LdV b2 3 (At w) fun v19 => OpS v19 fun p3 l3 c4 => IdxS p3 l3 (Int.tmod (IntKind.wrap .i64 y) n5) 1 fun b8 o5 => LdV b8 o5 (At w) fun v20 => OpN v20
  fun b9 o6 => CallV Try.prog 26 #[.pointer (some ⟨b9, o6, none⟩), .int .i64 0] w fun v21 w => OpI .i64 v21 fun n8 => LdA 4 b2 0 (At w) fun cs8 => CallV Try.prog 23 #[.agg
  cs8, .int .i64 0, .int .i64 0] w fun v22 w => T3 v22 fun v23 v24 v25 => OpS v23 fun p4 l4 c5 => OpS v24 fun p5 l5 c6 => OpI .i64 v25 fun n9 => Cb (n9 != 0) (Ret [] (R
  (.bool false) w)) (LdV b1 0 (At w) fun v26 => OpI .i64 v26 fun n10 => Cb (((l4 : Nat) : Int) != n10) (Ret [] (R (.bool false) w)) (Cb (!((((l5 : Nat) : Int) == 1) ==
  (Int.tmod (IntKind.wrap .i64 x) n4 == (Int.tmod (IntKind.wrap .i64 y) n5)))) (Ret [] (R (.bool false) w)) (LoopC (σ := Int × Unit) (fun _ s2 w K2 => LdV b1 0 (At w) fun
  v27 => OpI .i64 v27 fun n11 => Cb (decide (s2.1 < IntKind.wrap .i64 (n11 - 2))) (LdA 4 b2 0 (At w) fun cs9 => LdV b1 1 (At w) fun v28 => OpI .i64 v28 fun n12 => CallV
  Try.prog 25 #[.agg cs9, .int .i64 (IntKind.wrap .i64 (s2.1 * n12))] w fun v29 w => T2 v29 fun v30 v31 => OpA 16 v30 fun cs10 => OpI .i64 v31 fun n13 => Alc 23 (zc Try.prog
  23) w fun b10 w => StA 16 b10 0 cs10 w fun w => Cb (n13 != 0) (Drw w fun w => Ret [] (R (.bool false) w)) (LdA 16 b10 0 (At w) fun cs11 => IdxS p4 l4 s2.1 16 fun b11 o7 =>
  LdA 16 b11 o7 (At w) fun cs12 => EqB Try.prog .neq 23 (.tmp 173) (.tmp 177) (.agg cs11 : Value) (.agg cs12 : Value) (At w) fun g2 => Cb g2 (Drw w fun w => Ret [] (R (.bool
  false) w)) (LdA 16 b10 0 (At w) fun cs13 => LdV b1 1 (At w) fun v32 => OpI .i64 v32 fun n14 => IdxS p l (IntKind.wrap .i64 (s2.1 * n14)) 16 fun b12 o8 => LdA 16 b12 o8 (At
  w) fun cs14 => EqB Try.prog .neq 23 (.tmp 181) (.tmp 188) (.agg cs13 : Value) (.agg cs14 : Value) (At w) fun g3 => Drw w fun w => Cb g3 (Ret [] (R (.bool false) w)) (K2
  (IntKind.wrap .i64 (s2.1 + 1), ()) w)))) (LdV b2 3 (At w) fun v33 => OpS v33 fun p6 l6 c7 => IdxS p6 l6 (Int.tmod (IntKind.wrap .i64 z) n6) 1 fun b13 o9 => LdV b13 o9 (At
  w) fun v34 => OpN v34 fun b14 o10 => CallV Try.prog 26 #[.pointer (some ⟨b14, o10, none⟩), .int .i64 0] w fun v35 w => OpI .i64 v35 fun n15 => LdA 4 b2 0 (At w) fun cs15
  => CallV Try.prog 23 #[.agg cs15, .int .i64 0, .int .i64 0] w fun v36 w => T3 v36 fun v37 v38 v39 => OpS v37 fun p7 l7 c8 => OpS v38 fun p8 l8 c9 => OpI .i64 v39 fun n16
  => Req ((Int.tmod (IntKind.wrap .i64 x) n4 != (Int.tmod (IntKind.wrap .i64 y) n5)) = (Int.tmod (IntKind.wrap .i64 x) n4 != (Int.tmod (IntKind.wrap .i64 y) n5))) (Req
  ((Int.tmod (IntKind.wrap .i64 x) n4 != (Int.tmod (IntKind.wrap .i64 y) n5)) = (Int.tmod (IntKind.wrap .i64 x) n4 != (Int.tmod (IntKind.wrap .i64 y) n5))) (Req ((Int.tmod
  (IntKind.wrap .i64 x) n4 != (Int.tmod (IntKind.wrap .i64 y) n5)) = (Int.tmod (IntKind.wrap .i64 x) n4 != (Int.tmod (IntKind.wrap .i64 y) n5))) (Req ((cond (Int.tmod
  (IntKind.wrap .i64 x) n4 != (Int.tmod (IntKind.wrap .i64 y) n5)) (Int.tmod (IntKind.wrap .i64 x) n4 != (Int.tmod (IntKind.wrap .i64 z) n6)) false) = (cond (Int.tmod
  (IntKind.wrap .i64 x) n4 != (Int.tmod (IntKind.wrap .i64 y) n5)) (Int.tmod (IntKind.wrap .i64 x) n4 != (Int.tmod (IntKind.wrap .i64 z) n6)) false)) (Req ((cond (Int.tmod
  (IntKind.wrap .i64 x) n4 != (Int.tmod (IntKind.wrap .i64 y) n5)) (Int.tmod (IntKind.wrap .i64 x) n4 != (Int.tmod (IntKind.wrap .i64 z) n6)) false) = (cond (Int.tmod
  (IntKind.wrap .i64 x) n4 != (Int.tmod (IntKind.wrap .i64 y) n5)) (Int.tmod (IntKind.wrap .i64 x) n4 != (Int.tmod (IntKind.wrap .i64 z) n6)) false)) (Req ((cond (Int.tmod
  (IntKind.wrap .i64 x) n4 != (Int.tmod (IntKind.wrap .i64 y) n5)) (Int.tmod (IntKind.wrap .i64 x) n4 != (Int.tmod (IntKind.wrap .i64 z) n6)) false) = (cond (Int.tmod
  (IntKind.wrap .i64 x) n4 != (Int.tmod (IntKind.wrap .i64 y) n5)) (Int.tmod (IntKind.wrap .i64 x) n4 != (Int.tmod (IntKind.wrap .i64 z) n6)) false)) (Cb (!((n16 == 8) ==
  (cond (cond (Int.tmod (IntKind.wrap .i64 x) n4 != (Int.tmod (IntKind.wrap .i64 y) n5)) (Int.tmod (IntKind.wrap .i64 x) n4 != (Int.tmod (IntKind.wrap .i64 z) n6)) false)
  (Int.tmod (IntKind.wrap .i64 y) n5 != (Int.tmod (IntKind.wrap .i64 z) n6)) false))) (Ret [] (R (.bool false) w)) (Cb (!(cond (cond (Int.tmod (IntKind.wrap .i64 x) n4 !=
  (Int.tmod (IntKind.wrap .i64 y) n5)) (Int.tmod (IntKind.wrap .i64 x) n4 != (Int.tmod (IntKind.wrap .i64 z) n6)) false) (Int.tmod (IntKind.wrap .i64 y) n5 != (Int.tmod
  (IntKind.wrap .i64 z) n6)) false)) (Cb (n16 != 0) (Ret [] (R (.bool false) w)) (LoopC (σ := Int × Unit) (fun _ s3 w K3 => LdV b1 0 (At w) fun v40 => OpI .i64 v40 fun n17
  => Cb (decide (s3.1 < IntKind.wrap .i64 (n17 - 2))) (LdA 4 b2 0 (At w) fun cs16 => LdV b1 1 (At w) fun v41 => OpI .i64 v41 fun n18 => CallV Try.prog 25 #[.agg cs16, .int
  .i64 (IntKind.wrap .i64 (s3.1 * n18))] w fun v42 w => T2 v42 fun v43 v44 => OpA 16 v43 fun cs17 => OpI .i64 v44 fun n19 => Alc 23 (zc Try.prog 23) w fun b15 w => StA 16
  b15 0 cs17 w fun w => LdA 3 b1 0 (At w) fun cs18 => CallV Try.prog 27 #[.agg cs18, .int .i64 0, .int .i64 s3.1] w fun v45 w => OpI .i64 v45 fun n20 => Cb (cond (cond
  (Int.tmod (IntKind.wrap .i64 x) n4 != (Int.tmod (IntKind.wrap .i64 y) n5)) (Int.tmod (IntKind.wrap .i64 x) n4 != (Int.tmod (IntKind.wrap .i64 z) n6)) false) (Int.tmod
  (IntKind.wrap .i64 y) n5 != (Int.tmod (IntKind.wrap .i64 z) n6)) false) (Cb (n20 == (Int.tmod (IntKind.wrap .i64 x) n4)) (Cb (!(true == (n19 == 8))) (Drw w fun w => Ret []
  (R (.bool false) w)) (Cb (!true) (LdA 16 b15 0 (At w) fun cs19 => LdV b1 1 (At w) fun v46 => OpI .i64 v46 fun n21 => IdxS p l (IntKind.wrap .i64 (s3.1 * n21)) 16 fun b16
  o11 => LdA 16 b16 o11 (At w) fun cs20 => EqB Try.prog .neq 23 (.tmp 274) (.tmp 281) (.agg cs19 : Value) (.agg cs20 : Value) (At w) fun g4 => Drw w fun w => Cb g4 (Ret []
  (R (.bool false) w)) (K3 (IntKind.wrap .i64 (s3.1 + 1), ()) w)) (Drw w fun w => K3 (IntKind.wrap .i64 (s3.1 + 1), ()) w))) (Cb (n20 == (Int.tmod (IntKind.wrap .i64 y) n5))
  (Cb (!(true == (n19 == 8))) (Drw w fun w => Ret [] (R (.bool false) w)) (Cb (!true) (LdA 16 b15 0 (At w) fun cs21 => LdV b1 1 (At w) fun v47 => OpI .i64 v47 fun n22 =>
  IdxS p l (IntKind.wrap .i64 (s3.1 * n22)) 16 fun b17 o12 => LdA 16 b17 o12 (At w) fun cs22 => EqB Try.prog .neq 23 (.tmp 274) (.tmp 281) (.agg cs21 : Value) (.agg cs22 :
  Value) (At w) fun g5 => Drw w fun w => Cb g5 (Ret [] (R (.bool false) w)) (K3 (IntKind.wrap .i64 (s3.1 + 1), ()) w)) (Drw w fun w => K3 (IntKind.wrap .i64 (s3.1 + 1), ())
  w))) (Cb (!((n20 == (Int.tmod (IntKind.wrap .i64 z) n6)) == (n19 == 8))) (Drw w fun w => Ret [] (R (.bool false) w)) (Cb (!(n20 == (Int.tmod (IntKind.wrap .i64 z) n6)))
  (LdA 16 b15 0 (At w) fun cs23 => LdV b1 1 (At w) fun v48 => OpI .i64 v48 fun n23 => IdxS p l (IntKind.wrap .i64 (s3.1 * n23)) 16 fun b18 o13 => LdA 16 b18 o13 (At w) fun
  cs24 => EqB Try.prog .neq 23 (.tmp 274) (.tmp 281) (.agg cs23 : Value) (.agg cs24 : Value) (At w) fun g6 => Drw w fun w => Cb g6 (Ret [] (R (.bool false) w)) (K3
  (IntKind.wrap .i64 (s3.1 + 1), ()) w)) (Drw w fun w => K3 (IntKind.wrap .i64 (s3.1 + 1), ()) w))))) (Cb (!(false == (n19 == 8))) (Drw w fun w => Ret [] (R (.bool false)
  w)) (Cb (!false) (LdA 16 b15 0 (At w) fun cs25 => LdV b1 1 (At w) fun v49 => OpI .i64 v49 fun n24 => IdxS p l (IntKind.wrap .i64 (s3.1 * n24)) 16 fun b19 o14 => LdA 16 b19
  o14 (At w) fun cs26 => EqB Try.prog .neq 23 (.tmp 274) (.tmp 281) (.agg cs25 : Value) (.agg cs26 : Value) (At w) fun g7 => Drw w fun w => Cb g7 (Ret [] (R (.bool false)
  w)) (K3 (IntKind.wrap .i64 (s3.1 + 1), ()) w)) (Drw w fun w => K3 (IntKind.wrap .i64 (s3.1 + 1), ()) w)))) (Ret [] (R (.bool true) w))) (0, ()) w)) (LoopC (σ := Int ×
  Unit) (fun _ s4 w K4 => LdV b1 0 (At w) fun v50 => OpI .i64 v50 fun n25 => Cb (decide (s4.1 < IntKind.wrap .i64 (n25 - 2))) (LdA 4 b2 0 (At w) fun cs27 => LdV b1 1 (At w)
  fun v51 => OpI .i64 v51 fun n26 => CallV Try.prog 25 #[.agg cs27, .int .i64 (IntKind.wrap .i64 (s4.1 * n26))] w fun v52 w => T2 v52 fun v53 v54 => OpA 16 v53 fun cs28 =>
  OpI .i64 v54 fun n27 => Alc 23 (zc Try.prog 23) w fun b20 w => StA 16 b20 0 cs28 w fun w => LdA 3 b1 0 (At w) fun cs29 => CallV Try.prog 27 #[.agg cs29, .int .i64 0, .int
  .i64 s4.1] w fun v55 w => OpI .i64 v55 fun n28 => Cb (cond (cond (Int.tmod (IntKind.wrap .i64 x) n4 != (Int.tmod (IntKind.wrap .i64 y) n5)) (Int.tmod (IntKind.wrap .i64 x)
  n4 != (Int.tmod (IntKind.wrap .i64 z) n6)) false) (Int.tmod (IntKind.wrap .i64 y) n5 != (Int.tmod (IntKind.wrap .i64 z) n6)) false) (Cb (n28 == (Int.tmod (IntKind.wrap
  .i64 x) n4)) (Cb (!(true == (n27 == 8))) (Drw w fun w => Ret [] (R (.bool false) w)) (Cb (!true) (LdA 16 b20 0 (At w) fun cs30 => LdV b1 1 (At w) fun v56 => OpI .i64 v56
  fun n29 => IdxS p l (IntKind.wrap .i64 (s4.1 * n29)) 16 fun b21 o15 => LdA 16 b21 o15 (At w) fun cs31 => EqB Try.prog .neq 23 (.tmp 274) (.tmp 281) (.agg cs30 : Value)
  (.agg cs31 : Value) (At w) fun g8 => Drw w fun w => Cb g8 (Ret [] (R (.bool false) w)) (K4 (IntKind.wrap .i64 (s4.1 + 1), ()) w)) (Drw w fun w => K4 (IntKind.wrap .i64
  (s4.1 + 1), ()) w))) (Cb (n28 == (Int.tmod (IntKind.wrap .i64 y) n5)) (Cb (!(true == (n27 == 8))) (Drw w fun w => Ret [] (R (.bool false) w)) (Cb (!true) (LdA 16 b20 0 (At
  w) fun cs32 => LdV b1 1 (At w) fun v57 => OpI .i64 v57 fun n30 => IdxS p l (IntKind.wrap .i64 (s4.1 * n30)) 16 fun b22 o16 => LdA 16 b22 o16 (At w) fun cs33 => EqB
  Try.prog .neq 23 (.tmp 274) (.tmp 281) (.agg cs32 : Value) (.agg cs33 : Value) (At w) fun g9 => Drw w fun w => Cb g9 (Ret [] (R (.bool false) w)) (K4 (IntKind.wrap .i64
  (s4.1 + 1), ()) w)) (Drw w fun w => K4 (IntKind.wrap .i64 (s4.1 + 1), ()) w))) (Cb (!((n28 == (Int.tmod (IntKind.wrap .i64 z) n6)) == (n27 == 8))) (Drw w fun w => Ret []
  (R (.bool false) w)) (Cb (!(n28 == (Int.tmod (IntKind.wrap .i64 z) n6))) (LdA 16 b20 0 (At w) fun cs34 => LdV b1 1 (At w) fun v58 => OpI .i64 v58 fun n31 => IdxS p l
  (IntKind.wrap .i64 (s4.1 * n31)) 16 fun b23 o17 => LdA 16 b23 o17 (At w) fun cs35 => EqB Try.prog .neq 23 (.tmp 274) (.tmp 281) (.agg cs34 : Value) (.agg cs35 : Value) (At
  w) fun g10 => Drw w fun w => Cb g10 (Ret [] (R (.bool false) w)) (K4 (IntKind.wrap .i64 (s4.1 + 1), ()) w)) (Drw w fun w => K4 (IntKind.wrap .i64 (s4.1 + 1), ()) w)))))
  (Cb (!(false == (n27 == 8))) (Drw w fun w => Ret [] (R (.bool false) w)) (Cb (!false) (LdA 16 b20 0 (At w) fun cs36 => LdV b1 1 (At w) fun v59 => OpI .i64 v59 fun n32 =>
  IdxS p l (IntKind.wrap .i64 (s4.1 * n32)) 16 fun b24 o18 => LdA 16 b24 o18 (At w) fun cs37 => EqB Try.prog .neq 23 (.tmp 274) (.tmp 281) (.agg cs36 : Value) (.agg cs37 :
  Value) (At w) fun g11 => Drw w fun w => Cb g11 (Ret [] (R (.bool false) w)) (K4 (IntKind.wrap .i64 (s4.1 + 1), ()) w)) (Drw w fun w => K4 (IntKind.wrap .i64 (s4.1 + 1),
  ()) w)))) (Ret [] (R (.bool true) w))) (0, ()) w)))))))))) (0, ()) w))))))))))) (0, ()) w)))
theorem C_ravelinlaw09_StripeRows {a : Int} {b : Int} {c : Int} {listp : Option Addr} {listl : Nat} {listc : Nat} {x : Int} {y : Int} {z : Int} {w : World} {R : Value → World → Prop} (h : F_ravelinlaw09_StripeRows a b c listp listl listc x y z w R) : CallV Try.prog 5 #[.int .u8 a, .int .u8 b, .int .u8 c, .slice listp listl listc, .int .u8 x, .int .u8 y, .int .u8 z] w R := by
  exact calls_of_F (args := [.int .u8 a, .int .u8 b, .int .u8 c, .slice listp listl listc, .int .u8 x, .int .u8 y, .int .u8 z]) (mkAnn [(8, [(21, (.int .i64))]), (21, [(30, (.int .i64))]), (32, [(34, (.int .i64))])] [] [] [] [80]) Try_mixed Try.func5 rfl rfl (by kernel_rfl) h
def F_ravelinlaw09_StripeFences (a : Int) (b : Int) (c : Int) (lba : Int) (data : Array Value) (fence : Int) (epoch : Int) (w : World) (R : Value → World → Prop) : Prop :=
  Alc 23 data w fun b1 w => CallV Try.prog 13 #[.int .u8 a, .int .u8 b, .int .u8 c] w fun v w => OpA 3 v fun cs => Alc 25 (zc Try.prog 25) w fun b2 w => StA 3 b2 0 cs w fun
  w => LdA 3 b2 0 (At w) fun cs1 => CallV Try.prog 14 #[.agg cs1] w fun v1 w => T2 v1 fun v2 v3 => OpA 12 v2 fun cs2 => OpB v3 fun g => Alc 37 (zc Try.prog 37) w fun b3 w =>
  StA 12 b3 0 cs2 w fun w => LdA 3 b2 0 (At w) fun cs3 => CallV Try.prog 15 #[.agg cs3] w fun v4 w => T2 v4 fun v5 v6 => OpI .i64 v5 fun n => OpI .i64 v6 fun n1 => CallV
  Try.prog 16 #[] w fun v7 w => OpB v7 fun g1 => Req ((!g1) = (!g1)) (Req ((!g1) = (!g1)) (Cb (cond (!g1) true (!g)) (Ret [] (R (.bool false) w)) (LdA 4 b3 0 (At w) fun cs4
  => CallV Try.prog 28 #[.agg cs4, .int .u32 fence] w fun v8 w => OpI .i64 v8 fun n2 => Cb (n2 != 0) (Ret [] (R (.bool false) w)) (LdA 4 b3 0 (At w) fun cs5 => CallV
  Try.prog 29 #[.agg cs5] w fun v9 w => OpI .u32 v9 fun n3 => Cb (n3 != fence) (Ret [] (R (.bool false) w)) (Req (n ≠ 0) (LdA 4 b3 0 (At w) fun cs6 => LdA 16 b1 0 (At w) fun
  cs7 => CallV Try.prog 17 #[.agg cs6, .int .i64 (Int.tmod (IntKind.wrap .i64 lba) n), .agg cs7] w fun v10 w => T2 v10 fun v11 v12 => OpS v11 fun p l c1 => OpI .i64 v12 fun
  n4 => Cb (n4 != 0) (Ret [] (R (.bool false) w)) (LdA 4 b3 0 (At w) fun cs8 => CallV Try.prog 18 #[.agg cs8, .slice p l c1, .int .u32 epoch] w fun v13 w => OpI .i64 v13 fun
  n5 => LdA 4 b3 0 (At w) fun cs9 => CallV Try.prog 25 #[.agg cs9, .int .i64 (Int.tmod (IntKind.wrap .i64 lba) n)] w fun v14 w => T2 v14 fun v15 v16 => OpA 16 v15 fun cs10
  => OpI .i64 v16 fun n6 => Alc 23 (zc Try.prog 23) w fun b4 w => StA 16 b4 0 cs10 w fun w => Cb (decide (epoch < fence)) (Req ((n5 == 6) = (n5 == 6)) (Req ((n5 == 6) = (n5
  == 6)) (Cb (cond (n5 == 6) (n6 == 0) false) (LdA 16 b4 0 (At w) fun cs11 => DoQ Try.prog (Instr.build 23 #[]) (At w) fun v17 => OpA 16 v17 fun cs12 => EqB Try.prog .eql 23
  (.tmp 95) (.tmp 96) (.agg cs11 : Value) (.agg cs12 : Value) (At w) fun g2 => Ret [] (R (.bool g2) w)) (Ret [] (R (.bool false) w))))) (Req ((n5 == 0) = (n5 == 0)) (Req
  ((n5 == 0) = (n5 == 0)) (Cb (cond (n5 == 0) (n6 == 0) false) (LdA 16 b4 0 (At w) fun cs13 => LdA 16 b1 0 (At w) fun cs14 => EqB Try.prog .eql 23 (.tmp 106) (.tmp 107)
  (.agg cs13 : Value) (.agg cs14 : Value) (At w) fun g3 => Ret [] (R (.bool g3) w)) (Ret [] (R (.bool false) w))))))))))))
theorem C_ravelinlaw09_StripeFences {a : Int} {b : Int} {c : Int} {lba : Int} {data : Array Value} {fence : Int} {epoch : Int} {w : World} {R : Value → World → Prop} (h : F_ravelinlaw09_StripeFences a b c lba data fence epoch w R) : CallV Try.prog 6 #[.int .u8 a, .int .u8 b, .int .u8 c, .int .u8 lba, .agg data, .int .u32 fence, .int .u32 epoch] w R := by
  exact calls_of_F (args := [.int .u8 a, .int .u8 b, .int .u8 c, .int .u8 lba, .agg data, .int .u32 fence, .int .u32 epoch]) (mkAnn [] [] [] [] []) Try_mixed Try.func6 rfl rfl (by kernel_rfl) h
end Go.Proofs
