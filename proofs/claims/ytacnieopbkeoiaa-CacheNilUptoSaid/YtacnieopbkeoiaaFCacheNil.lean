/- PRINTED BY pr.py (own program): what the evaluator of <Name>Ev makes of the code of some functions. -/
import Derived.Test.YtacnieopbkeoiaaChecked
import Derived.Test.YtacnieopbkeoiaaEv
import Derived.Test.YtacnieopbkeoiaaMix
namespace Go.Proofs
open Go.Ev
set_option linter.unusedVariables false
set_option maxRecDepth 100000
def F_NilGet (lba : Int) (w : World) (R : Value → World → Prop) : Prop :=
  Alc 31 (zc Try.prog 31) w fun b w => DoQ Try.prog (Instr.build 31 #[]) (At w) fun v => OpA 16 v fun cs => StA 16 b 0 cs w fun w => LdA 16 b 0 (At w) fun cs1 => Ret [] (R
  (.tuple #[.agg cs1, .int .u64 0, .int .i64 2]) w)
theorem C_NilGet {lba : Int} {w : World} {R : Value → World → Prop} (h : F_NilGet lba w R) : CallV Try.prog 15 #[.pointer none, .int .i64 lba] w R := by
  exact calls_of_F (args := [.pointer none, .int .i64 lba]) (mkAnn [] [] [] [] []) Try_mixed Try.func15 rfl rfl (by kernel_rfl) h
def F_NilNext  (w : World) (R : Value → World → Prop) : Prop :=
  Alc 42 (zc Try.prog 42) w fun b w => DoQ Try.prog (Instr.build 42 #[]) (At w) fun v => OpA 19 v fun cs => StA 19 b 0 cs w fun w => LdA 19 b 0 (At w) fun cs1 => Ret [] (R
  (.tuple #[.agg cs1, .int .i64 2]) w)
theorem C_NilNext  {w : World} {R : Value → World → Prop} (h : F_NilNext  w R) : CallV Try.prog 31 #[.pointer none] w R := by
  exact calls_of_F (args := [.pointer none]) (mkAnn [] [] [] [] []) Try_mixed Try.func31 rfl rfl (by kernel_rfl) h
def F_NilPut (lba : Int) (data : Array Value) (version : Int) (w : World) (R : Value → World → Prop) : Prop :=
  Alc 31 data w fun b w => Req (true = true) (Req (true = true) (Req (true = true) (Req (true = true) (Ret [] (R (.int .i64 2) w)))))
theorem C_NilPut {lba : Int} {data : Array Value} {version : Int} {w : World} {R : Value → World → Prop} (h : F_NilPut lba data version w R) : CallV Try.prog 14 #[.pointer none, .int .i64 lba, .agg data, .int .u64 version] w R := by
  exact calls_of_F (args := [.pointer none, .int .i64 lba, .agg data, .int .u64 version]) (mkAnn [] [] [] [] []) Try_mixed Try.func14 rfl rfl (by kernel_rfl) h
def F_NilClean (lba : Int) (version : Int) (w : World) (R : Value → World → Prop) : Prop :=
  CallV Try.prog 15 #[.pointer none, .int .i64 lba] w fun v w => T3 v fun v1 v2 v3 => OpA 16 v1 fun cs => OpI .u64 v2 fun n => OpI .i64 v3 fun n1 => Alc 31 (zc Try.prog 31)
  w fun b w => StA 16 b 0 cs w fun w => Cb (n1 != 0) (Ret [] (R (.int .i64 n1) w)) (Cb (decide (n > version)) (Ret [] (R (.int .i64 12) w)) (False))
theorem C_NilClean {lba : Int} {version : Int} {w : World} {R : Value → World → Prop} (h : F_NilClean lba version w R) : CallV Try.prog 28 #[.pointer none, .int .i64 lba, .int .u64 version] w R := by
  exact calls_of_F (args := [.pointer none, .int .i64 lba, .int .u64 version]) (mkAnn [] [] [] [] []) Try_mixed Try.func28 rfl rfl (by kernel_rfl) h
def F_NilList  (w : World) (R : Value → World → Prop) : Prop :=
  Ret [] (R (.slice none 0 0) w)
theorem C_NilList  {w : World} {R : Value → World → Prop} (h : F_NilList  w R) : CallV Try.prog 32 #[.pointer none] w R := by
  exact calls_of_F (args := [.pointer none]) (mkAnn [] [] [] [] []) Try_mixed Try.func32 rfl rfl (by kernel_rfl) h
def F_NilLen  (w : World) (R : Value → World → Prop) : Prop :=
  Ret [] (R (.int .i64 0) w)
theorem C_NilLen  {w : World} {R : Value → World → Prop} (h : F_NilLen  w R) : CallV Try.prog 16 #[.pointer none] w R := by
  exact calls_of_F (args := [.pointer none]) (mkAnn [] [] [] [] []) Try_mixed Try.func16 rfl rfl (by kernel_rfl) h
def F_NilFull  (w : World) (R : Value → World → Prop) : Prop :=
  Drw w fun w => Ret [] (R (.bool false) w)
theorem C_NilFull  {w : World} {R : Value → World → Prop} (h : F_NilFull  w R) : CallV Try.prog 17 #[.pointer none] w R := by
  exact calls_of_F (args := [.pointer none]) (mkAnn [] [] [] [] []) Try_mixed Try.func17 rfl rfl (by kernel_rfl) h
def F_ravelinlaw11_CacheNil (lba : Int) (data : Array Value) (version : Int) (w : World) (R : Value → World → Prop) : Prop :=
  Alc 31 data w fun b w => CallV Try.prog 15 #[.pointer none, .int .i64 lba] w fun v w => T3 v fun v1 v2 v3 => OpA 16 v1 fun cs => OpI .u64 v2 fun n => OpI .i64 v3 fun n1 =>
  Alc 31 (zc Try.prog 31) w fun b1 w => StA 16 b1 0 cs w fun w => CallV Try.prog 31 #[.pointer none] w fun v4 w => T2 v4 fun v5 v6 => OpA 19 v5 fun cs1 => OpI .i64 v6 fun n2
  => Alc 42 (zc Try.prog 42) w fun b2 w => StA 19 b2 0 cs1 w fun w => CallV Try.prog 12 #[.int .i64 1] w fun v7 w => T2 v7 fun v8 v9 => OpP v8 (OpI .i64 v9 fun n3 => CallV
  Try.prog 13 #[] w fun v10 w => OpB v10 fun g => Req ((!g) = (!g)) (Req ((!g) = (!g)) (Req ((cond (!g) true (n3 != 0)) = (cond (!g) true (n3 != 0))) (Req ((cond (!g) true
  (n3 != 0)) = (cond (!g) true (n3 != 0))) (Cb (cond (cond (!g) true (n3 != 0)) true true) (Ret [] (R (.bool false) w)) (LdA 16 b 0 (At w) fun cs2 => CallV Try.prog 14
  #[.pointer none, .int .i64 3, .agg cs2, .int .u64 9] w fun v11 w => OpI .i64 v11 fun n4 => Cb (n4 != 0) (Ret [] (R (.bool false) w)) (CallV Try.prog 32 #[.pointer none] w
  fun v12 w => OpS v12 fun p l c => Cb (((l : Nat) : Int) != 1) (Ret [] (R (.bool false) w)) (IdxS p l 0 19 fun b3 o => StV b3 (o + 2) (.int .i64 4) w fun w => CallV
  Try.prog 15 #[.pointer none, .int .i64 3] w fun v13 w => T3 v13 fun v14 v15 v16 => OpA 16 v14 fun cs3 => OpI .u64 v15 fun n5 => OpI .i64 v16 fun n6 => Alc 31 (zc Try.prog
  31) w fun b4 w => StA 16 b4 0 cs3 w fun w => Req ((n6 == 0) = (n6 == 0)) (Req ((n6 == 0) = (n6 == 0)) (Req ((cond (n6 == 0) (n5 == 9) false) = (cond (n6 == 0) (n5 == 9)
  false)) (Req ((cond (n6 == 0) (n5 == 9) false) = (cond (n6 == 0) (n5 == 9) false)) (Req ((cond (cond (n6 == 0) (n5 == 9) false) (n1 == 2) false) = (cond (cond (n6 == 0)
  (n5 == 9) false) (n1 == 2) false)) (Req ((cond (cond (n6 == 0) (n5 == 9) false) (n1 == 2) false) = (cond (cond (n6 == 0) (n5 == 9) false) (n1 == 2) false)) (Cb (cond (cond
  (cond (n6 == 0) (n5 == 9) false) (n1 == 2) false) (n2 == 2) false) (LdA 16 b 0 (At w) fun cs4 => CallV Try.prog 14 #[.pointer none, .int .i64 lba, .agg cs4, .int .u64
  version] w fun v17 w => OpI .i64 v17 fun n7 => Cb (n7 == 2) (CallV Try.prog 28 #[.pointer none, .int .i64 lba, .int .u64 version] w fun v18 w => OpI .i64 v18 fun n8 => Cb
  (n8 == 2) (CallV Try.prog 32 #[.pointer none] w fun v19 w => OpS v19 fun p1 l1 c1 => Cb (((l1 : Nat) : Int) == 0) (CallV Try.prog 16 #[.pointer none] w fun v20 w => OpI
  .i64 v20 fun n9 => Cb (n9 == 0) (CallV Try.prog 17 #[.pointer none] w fun v21 w => OpB v21 fun g1 => Ret [] (R (.bool (!g1)) w)) (Ret [] (R (.bool false) w))) (Ret [] (R
  (.bool false) w))) (Ret [] (R (.bool false) w))) (Ret [] (R (.bool false) w))) (Ret [] (R (.bool false) w)))))))))))))))) fun b5 o1 => OpI .i64 v9 fun n10 => CallV
  Try.prog 13 #[] w fun v22 w => OpB v22 fun g2 => Req ((!g2) = (!g2)) (Req ((!g2) = (!g2)) (Req ((cond (!g2) true (n10 != 0)) = (cond (!g2) true (n10 != 0))) (Req ((cond
  (!g2) true (n10 != 0)) = (cond (!g2) true (n10 != 0))) (Cb (cond (cond (!g2) true (n10 != 0)) true false) (Ret [] (R (.bool false) w)) (LdA 16 b 0 (At w) fun cs5 => CallV
  Try.prog 14 #[.pointer (some ⟨b5, o1, none⟩), .int .i64 3, .agg cs5, .int .u64 9] w fun v23 w => OpI .i64 v23 fun n11 => Cb (n11 != 0) (Ret [] (R (.bool false) w)) (CallV
  Try.prog 32 #[.pointer (some ⟨b5, o1, none⟩)] w fun v24 w => OpS v24 fun p2 l2 c2 => Cb (((l2 : Nat) : Int) != 1) (Ret [] (R (.bool false) w)) (IdxS p2 l2 0 19 fun b6 o2
  => StV b6 (o2 + 2) (.int .i64 4) w fun w => CallV Try.prog 15 #[.pointer (some ⟨b5, o1, none⟩), .int .i64 3] w fun v25 w => T3 v25 fun v26 v27 v28 => OpA 16 v26 fun cs6 =>
  OpI .u64 v27 fun n12 => OpI .i64 v28 fun n13 => Alc 31 (zc Try.prog 31) w fun b7 w => StA 16 b7 0 cs6 w fun w => Req ((n13 == 0) = (n13 == 0)) (Req ((n13 == 0) = (n13 ==
  0)) (Req ((cond (n13 == 0) (n12 == 9) false) = (cond (n13 == 0) (n12 == 9) false)) (Req ((cond (n13 == 0) (n12 == 9) false) = (cond (n13 == 0) (n12 == 9) false)) (Req
  ((cond (cond (n13 == 0) (n12 == 9) false) (n1 == 2) false) = (cond (cond (n13 == 0) (n12 == 9) false) (n1 == 2) false)) (Req ((cond (cond (n13 == 0) (n12 == 9) false) (n1
  == 2) false) = (cond (cond (n13 == 0) (n12 == 9) false) (n1 == 2) false)) (Cb (cond (cond (cond (n13 == 0) (n12 == 9) false) (n1 == 2) false) (n2 == 2) false) (LdA 16 b 0
  (At w) fun cs7 => CallV Try.prog 14 #[.pointer none, .int .i64 lba, .agg cs7, .int .u64 version] w fun v29 w => OpI .i64 v29 fun n14 => Cb (n14 == 2) (CallV Try.prog 28
  #[.pointer none, .int .i64 lba, .int .u64 version] w fun v30 w => OpI .i64 v30 fun n15 => Cb (n15 == 2) (CallV Try.prog 32 #[.pointer none] w fun v31 w => OpS v31 fun p3
  l3 c3 => Cb (((l3 : Nat) : Int) == 0) (CallV Try.prog 16 #[.pointer none] w fun v32 w => OpI .i64 v32 fun n16 => Cb (n16 == 0) (CallV Try.prog 17 #[.pointer none] w fun
  v33 w => OpB v33 fun g3 => Ret [] (R (.bool (!g3)) w)) (Ret [] (R (.bool false) w))) (Ret [] (R (.bool false) w))) (Ret [] (R (.bool false) w))) (Ret [] (R (.bool false)
  w))) (Ret [] (R (.bool false) w)))))))))))))))
theorem C_ravelinlaw11_CacheNil {lba : Int} {data : Array Value} {version : Int} {w : World} {R : Value → World → Prop} (h : F_ravelinlaw11_CacheNil lba data version w R) : CallV Try.prog 10 #[.int .i64 lba, .agg data, .int .u64 version] w R := by
  exact calls_of_F (args := [.int .i64 lba, .agg data, .int .u64 version]) (mkAnn [] [] [] [] []) Try_mixed Try.func10 rfl rfl (by kernel_rfl) h
end Go.Proofs
