/- PRINTED BY pr.py (own program): what the evaluator of <Name>Ev makes of the code of some functions. -/
import Derived.Test.YtdeaollkgckppaaChecked
import Derived.Test.YtdeaollkgckppaaEv
import Derived.Test.YtdeaollkgckppaaMix
namespace Go.Proofs
open Go.Ev
set_option linter.unusedVariables false
set_option maxRecDepth 100000
def F_ravelinlaw09_small (a : Int) (b : Int) (c : Int) (w : World) (R : Value → World → Prop) : Prop :=
  Alc 25 (zc Try.prog 25) w fun b1 w => Req ((4 : Int) ≠ 0) (Req ((2 : Int) ≠ 0) (Req ((4 : Int) ≠ 0) (DoQ Try.prog (Instr.build 25 #[(0, .int .i64 (IntKind.wrap .i64
  ((IntKind.wrap .i64 (Int.tmod a 4)) + 4))), (1, .int .i64 (IntKind.wrap .i64 ((IntKind.wrap .i64 (Int.tmod b 2)) + 1))), (2, .int .i64 (IntKind.wrap .i64 ((IntKind.wrap
  .i64 (Int.tmod c 4)) + 1)))]) (At w) fun v => OpA 3 v fun cs => StA 3 b1 0 cs w fun w => LdA 3 b1 0 (At w) fun cs1 => Ret [] (R (.agg cs1) w))))
theorem C_ravelinlaw09_small {a : Int} {b : Int} {c : Int} {w : World} {R : Value → World → Prop} (h : F_ravelinlaw09_small a b c w R) : CallV Try.prog 13 #[.int .u8 a, .int .u8 b, .int .u8 c] w R := by
  exact calls_of_F (args := [.int .u8 a, .int .u8 b, .int .u8 c]) (mkAnn [] [] [] [] []) Try_mixed Try.func13 rfl rfl (by kernel_rfl) h
def F_ravelinlaw09_made (g : Array Value) (w : World) (R : Value → World → Prop) : Prop :=
  Alc 25 g w fun b w => Alc 37 (zc Try.prog 37) w fun b1 w => CallV Try.prog 30 #[] w fun v w => OpN v fun b2 o => LdA 3 b 0 (At w) fun cs => CallV Try.prog 31 #[.agg cs,
  .pointer (some ⟨b2, o, none⟩)] w fun v1 w => T2 v1 fun v2 v3 => OpA 4 v2 fun cs1 => OpI .i64 v3 fun n => Alc 29 (zc Try.prog 29) w fun b3 w => StA 4 b3 0 cs1 w fun w =>
  Req ((n != 0) = (n != 0)) (Req ((n != 0) = (n != 0)) (Cb (cond (n != 0) true false) (DoQ Try.prog (Instr.build 37 #[]) (At w) fun v4 => OpA 12 v4 fun cs2 => StA 12 b1 0
  cs2 w fun w => LdA 12 b1 0 (At w) fun cs3 => Ret [] (R (.tuple #[.agg cs3, .bool false]) w)) (LdV b3 3 (At w) fun v5 => OpS v5 fun p l c => LdV b 0 (At w) fun v6 => OpI
  .i64 v6 fun n1 => Cb (((l : Nat) : Int) != n1) (DoQ Try.prog (Instr.build 37 #[]) (At w) fun v7 => OpA 12 v7 fun cs4 => StA 12 b1 0 cs4 w fun w => LdA 12 b1 0 (At w) fun
  cs5 => Ret [] (R (.tuple #[.agg cs5, .bool false]) w)) (LdA 3 b3 0 (At w) fun cs6 => LdA 3 b 0 (At w) fun cs7 => EqB Try.prog .neq 25 (.tmp 30) (.tmp 31) (.agg cs6 :
  Value) (.agg cs7 : Value) (At w) fun g1 => Cb g1 (DoQ Try.prog (Instr.build 37 #[]) (At w) fun v8 => OpA 12 v8 fun cs8 => StA 12 b1 0 cs8 w fun w => LdA 12 b1 0 (At w) fun
  cs9 => Ret [] (R (.tuple #[.agg cs9, .bool false]) w)) (LdA 4 b3 0 (At w) fun cs10 => CallV Try.prog 33 #[.agg cs10] w fun v9 w => OpI .i64 v9 fun n2 => Cb (n2 != 0) (DoQ
  Try.prog (Instr.build 37 #[]) (At w) fun v10 => OpA 12 v10 fun cs11 => StA 12 b1 0 cs11 w fun w => LdA 12 b1 0 (At w) fun cs12 => Ret [] (R (.tuple #[.agg cs12, .bool
  false]) w)) (HeldR w fun S w => LdA 4 b3 0 S fun cs13 => LdA 3 b 0 S fun cs14 => CallV Try.prog 43 #[] w fun v11 w => OpA 3 v11 fun cs15 => Hld (S w) (CallV Try.prog 42
  #[.agg cs14, .agg cs15] w fun v12 w => OpA 7 v12 fun cs16 => Hld (S w) (DoQ Try.prog (Instr.build 37 #[(0, .agg cs13), (1, .agg cs16), (2, .pointer (some ⟨b2, o, none⟩))])
  (At w) fun v13 => OpA 12 v13 fun cs17 => StA 12 b1 0 cs17 w fun w => Hld (S w) (LdA 12 b1 0 (At w) fun cs18 => Ret [] (R (.tuple #[.agg cs18, .bool true]) w))))))))))
theorem C_ravelinlaw09_made {g : Array Value} {w : World} {R : Value → World → Prop} (h : F_ravelinlaw09_made g w R) : CallV Try.prog 14 #[.agg g] w R := by
  exact calls_of_F (args := [.agg g]) (mkAnn [] [] [] [] [42, 43, 100007]) Try_mixed Try.func14 rfl rfl (by kernel_rfl) h
def F_ravelinlaw09_awake  (w : World) (R : Value → World → Prop) : Prop :=
  DoQ Try.prog (Instr.build 25 #[(0, .int .i64 4), (1, .int .i64 1), (2, .int .i64 2)]) (At w) fun v => OpA 3 v fun cs => CallV Try.prog 30 #[] w fun v1 w => OpN v1 fun b o
  => CallV Try.prog 31 #[.agg cs, .pointer (some ⟨b, o, none⟩)] w fun v2 w => T2 v2 fun v3 v4 => OpA 4 v3 fun cs1 => OpI .i64 v4 fun n => Alc 29 (zc Try.prog 29) w fun b1 w
  => StA 4 b1 0 cs1 w fun w => Cb (n != 0) (Ret [] (R (.bool false) w)) (LdA 4 b1 0 (At w) fun cs2 => DoQ Try.prog (Instr.build 23 #[(0, .int .u8 7)]) (At w) fun v5 => OpA
  16 v5 fun cs3 => CallV Try.prog 17 #[.agg cs2, .int .i64 0, .agg cs3] w fun v6 w => T2 v6 fun v7 v8 => OpS v7 fun p l c => OpI .i64 v8 fun n1 => Cb (n1 == 0) (Cb (((l :
  Nat) : Int) == 3) (IdxS p l 0 19 fun b2 o1 => LdA 2 b2 o1 (At w) fun cs4 => DoQ Try.prog (Instr.build 53 #[(0, .int .i64 1)]) (At w) fun v9 => OpA 2 v9 fun cs5 => EqB
  Try.prog .eql 53 (.tmp 29) (.tmp 30) (.agg cs4 : Value) (.agg cs5 : Value) (At w) fun g => Ret [] (R (.bool g) w)) (Ret [] (R (.bool false) w))) (Ret [] (R (.bool false)
  w)))
theorem C_ravelinlaw09_awake  {w : World} {R : Value → World → Prop} (h : F_ravelinlaw09_awake  w R) : CallV Try.prog 16 #[] w R := by
  exact calls_of_F (args := []) (mkAnn [] [] [] [] [100006]) Try_mixed Try.func16 rfl rfl (by kernel_rfl) h
def F_ravelinlaw09_StripeFences (a : Int) (b : Int) (c : Int) (lba : Int) (data : Array Value) (fence : Int) (epoch : Int) (w : World) (R : Value → World → Prop) : Prop :=
  Alc 23 data w fun b1 w => CallV Try.prog 13 #[.int .u8 a, .int .u8 b, .int .u8 c] w fun v w => OpA 3 v fun cs => Alc 25 (zc Try.prog 25) w fun b2 w => StA 3 b2 0 cs w fun
  w => LdA 3 b2 0 (At w) fun cs1 => CallV Try.prog 14 #[.agg cs1] w fun v1 w => T2 v1 fun v2 v3 => OpA 12 v2 fun cs2 => OpB v3 fun g => Alc 37 (zc Try.prog 37) w fun b3 w =>
  StA 12 b3 0 cs2 w fun w => LdA 3 b2 0 (At w) fun cs3 => CallV Try.prog 15 #[.agg cs3] w fun v4 w => T2 v4 fun v5 v6 => OpI .i64 v5 fun n => OpI .i64 v6 fun n1 => CallV
  Try.prog 16 #[] w fun v7 w => OpB v7 fun g1 => Req ((!g1) = (!g1)) (Req ((!g1) = (!g1)) (Cb (cond (!g1) true (!g)) (Ret [] (R (.bool false) w)) (LdA 4 b3 0 (At w) fun cs4
  => CallV Try.prog 28 #[.agg cs4, .int .u32 fence] w fun v8 w => OpI .i64 v8 fun n2 => Cb (n2 != 0) (Ret [] (R (.bool false) w)) (LdA 4 b3 0 (At w) fun cs5 => CallV
  Try.prog 29 #[.agg cs5] w fun v9 w => OpI .u32 v9 fun n3 => Cb (n3 != fence) (Ret [] (R (.bool false) w)) (Req (n ≠ 0) (LdA 4 b3 0 (At w) fun cs6 => LdA 16 b1 0 (At w) fun
  cs7 => CallV Try.prog 17 #[.agg cs6, .int .i64 (Int.tmod (IntKind.wrap .i64 lba) n), .agg cs7] w fun v10 w => T2 v10 fun v11 v12 => OpS v11 fun p l c1 => OpI .i64 v12 fun
  n4 => Cb (n4 != 0) (Ret [] (R (.bool false) w)) (LdA 4 b3 0 (At w) fun cs8 => CallV Try.prog 18 #[.agg cs8, .slice p l c1, .int .u32 epoch] w fun v13 w => OpI .i64 v13 fun
  n5 => LdA 4 b3 0 (At w) fun cs9 => CallV Try.prog 25 #[.agg cs9, .int .i64 (Int.tmod (IntKind.wrap .i64 lba) n)] w fun v14 w => T2 v14 fun v15 v16 => OpA 16 v15 fun cs10
  => OpI .i64 v16 fun n6 => Alc 23 (zc Try.prog 23) w fun b4 w => StA 16 b4 0 cs10 w fun w => Cb (decide (epoch < fence)) (Req ((n5 == 6) = (n5 == 6)) (Req ((n5 == 6) = (n5
  == 6)) (Cb (cond (n5 == 6) (n6 == 0) false) (LdA 16 b4 0 (At w) fun cs11 => DoQ Try.prog (Instr.build 23 #[]) (At w) fun v17 => OpA 16 v17 fun cs12 => EqB Try.prog .eql 23
  (.tmp 95) (.tmp 96) (.agg cs11 : Value) (.agg cs12 : Value) (At w) fun g2 => Ret [] (R (.bool g2) w)) (Ret [] (R (.bool false) w))))) (Req ((n5 == 0) = (n5 == 0)) (Req
  ((n5 == 0) = (n5 == 0)) (Cb (cond (n5 == 0) (n6 == 0) false) (LdA 16 b4 0 (At w) fun cs13 => LdA 16 b1 0 (At w) fun cs14 => EqB Try.prog .eql 23 (.tmp 106) (.tmp 107)
  (.agg cs13 : Value) (.agg cs14 : Value) (At w) fun g3 => Ret [] (R (.bool g3) w)) (Ret [] (R (.bool false) w))))))))))))
theorem C_ravelinlaw09_StripeFences {a : Int} {b : Int} {c : Int} {lba : Int} {data : Array Value} {fence : Int} {epoch : Int} {w : World} {R : Value → World → Prop} (h : F_ravelinlaw09_StripeFences a b c lba data fence epoch w R) : CallV Try.prog 6 #[.int .u8 a, .int .u8 b, .int .u8 c, .int .u8 lba, .agg data, .int .u32 fence, .int .u32 epoch] w R := by
  exact calls_of_F (args := [.int .u8 a, .int .u8 b, .int .u8 c, .int .u8 lba, .agg data, .int .u32 fence, .int .u32 epoch]) (mkAnn [] [] [] [] []) Try_mixed Try.func6 rfl rfl (by kernel_rfl) h
end Go.Proofs
