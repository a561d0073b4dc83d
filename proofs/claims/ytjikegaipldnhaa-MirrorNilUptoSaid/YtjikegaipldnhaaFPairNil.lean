/- PRINTED BY pr.py (own program): what the evaluator of <Name>Ev makes of the code of some functions. -/
import Derived.Test.YtjikegaipldnhaaChecked
import Derived.Test.YtjikegaipldnhaaEv
import Derived.Test.YtjikegaipldnhaaMix
namespace Go.Proofs
open Go.Ev
set_option linter.unusedVariables false
set_option maxRecDepth 100000
def F_PNilPut (n : Int) (lba : Int) (data : Array Value) (w : World) (R : Value → World → Prop) : Prop :=
  Alc 40 data w fun b w => Req (true = true) (Req (true = true) (Req (true = true) (Req (true = true) (Ret [] (R (.tuple #[.int .u64 0, .int .i64 2]) w)))))
theorem C_PNilPut {n : Int} {lba : Int} {data : Array Value} {w : World} {R : Value → World → Prop} (h : F_PNilPut n lba data w R) : CallV Try.prog 14 #[.pointer none, .int .i64 n, .int .i64 lba, .agg data] w R := by
  exact calls_of_F (args := [.pointer none, .int .i64 n, .int .i64 lba, .agg data]) (mkAnn [] [] [] [] []) Try_mixed Try.func14 rfl rfl (by kernel_rfl) h
def F_PNilGet (lba : Int) (w : World) (R : Value → World → Prop) : Prop :=
  Alc 40 (zc Try.prog 40) w fun b w => DoQ Try.prog (Instr.build 40 #[]) (At w) fun v => OpA 16 v fun cs => StA 16 b 0 cs w fun w => LdA 16 b 0 (At w) fun cs1 => Ret [] (R
  (.tuple #[.agg cs1, .int .u64 0, .int .i64 2]) w)
theorem C_PNilGet {lba : Int} {w : World} {R : Value → World → Prop} (h : F_PNilGet lba w R) : CallV Try.prog 36 #[.pointer none, .int .i64 lba] w R := by
  exact calls_of_F (args := [.pointer none, .int .i64 lba]) (mkAnn [] [] [] [] []) Try_mixed Try.func36 rfl rfl (by kernel_rfl) h
def F_PNilNext  (w : World) (R : Value → World → Prop) : Prop :=
  Alc 46 (zc Try.prog 46) w fun b w => DoQ Try.prog (Instr.build 46 #[]) (At w) fun v => OpA 19 v fun cs => StA 19 b 0 cs w fun w => LdA 19 b 0 (At w) fun cs1 => Ret [] (R
  (.tuple #[.agg cs1, .int .i64 2]) w)
theorem C_PNilNext  {w : World} {R : Value → World → Prop} (h : F_PNilNext  w R) : CallV Try.prog 37 #[.pointer none] w R := by
  exact calls_of_F (args := [.pointer none]) (mkAnn [] [] [] [] []) Try_mixed Try.func37 rfl rfl (by kernel_rfl) h
def F_PNilFlushed (lba : Int) (version : Int) (w : World) (R : Value → World → Prop) : Prop :=
  CallV Try.prog 36 #[.pointer none, .int .i64 lba] w fun v w => T3 v fun v1 v2 v3 => OpA 16 v1 fun cs => OpI .u64 v2 fun n => OpI .i64 v3 fun n1 => Alc 40 (zc Try.prog 40)
  w fun b w => StA 16 b 0 cs w fun w => Cb (n1 != 0) (Ret [] (R (.int .i64 n1) w)) (Cb (decide (n > version)) (Ret [] (R (.int .i64 12) w)) (DoQ Try.prog (Instr.build 46
  #[(0, .int .i64 2), (1, .int .u64 version), (2, .int .i64 lba)]) (At w) fun v4 => OpA 19 v4 fun cs1 => CallV Try.prog 46 #[.pointer none, .int .i64 0, .agg cs1] w fun v5 w
  => OpI .i64 v5 fun n2 => Cb (n2 != 0) (Ret [] (R (.int .i64 n2) w)) (False)))
theorem C_PNilFlushed {lba : Int} {version : Int} {w : World} {R : Value → World → Prop} (h : F_PNilFlushed lba version w R) : CallV Try.prog 38 #[.pointer none, .int .i64 lba, .int .u64 version] w R := by
  exact calls_of_F (args := [.pointer none, .int .i64 lba, .int .u64 version]) (mkAnn [] [] [] [] []) Try_mixed Try.func38 rfl rfl (by kernel_rfl) h
def F_PNilStamp (epoch : Int) (w : World) (R : Value → World → Prop) : Prop :=
  Ret [] (R (.int .i64 2) w)
theorem C_PNilStamp {epoch : Int} {w : World} {R : Value → World → Prop} (h : F_PNilStamp epoch w R) : CallV Try.prog 28 #[.pointer none, .int .u32 epoch] w R := by
  exact calls_of_F (args := [.pointer none, .int .u32 epoch]) (mkAnn [] [] [] [] []) Try_mixed Try.func28 rfl rfl (by kernel_rfl) h
def F_PNilTake  (w : World) (R : Value → World → Prop) : Prop :=
  Ret [] (R (.int .u64 0) w)
theorem C_PNilTake  {w : World} {R : Value → World → Prop} (h : F_PNilTake  w R) : CallV Try.prog 39 #[.pointer none] w R := by
  exact calls_of_F (args := [.pointer none]) (mkAnn [] [] [] [] []) Try_mixed Try.func39 rfl rfl (by kernel_rfl) h
def F_PNilLeave (n : Int) (w : World) (R : Value → World → Prop) : Prop :=
  Ret [] (R (.int .i64 2) w)
theorem C_PNilLeave {n : Int} {w : World} {R : Value → World → Prop} (h : F_PNilLeave n w R) : CallV Try.prog 29 #[.pointer none, .int .i64 n] w R := by
  exact calls_of_F (args := [.pointer none, .int .i64 n]) (mkAnn [] [] [] [] []) Try_mixed Try.func29 rfl rfl (by kernel_rfl) h
def F_PNilJoin (n : Int) (w : World) (R : Value → World → Prop) : Prop :=
  Ret [] (R (.int .i64 2) w)
theorem C_PNilJoin {n : Int} {w : World} {R : Value → World → Prop} (h : F_PNilJoin n w R) : CallV Try.prog 30 #[.pointer none, .int .i64 n] w R := by
  exact calls_of_F (args := [.pointer none, .int .i64 n]) (mkAnn [] [] [] [] []) Try_mixed Try.func30 rfl rfl (by kernel_rfl) h
def F_PNilCompact  (w : World) (R : Value → World → Prop) : Prop :=
  Ret [] (R (.int .i64 2) w)
theorem C_PNilCompact  {w : World} {R : Value → World → Prop} (h : F_PNilCompact  w R) : CallV Try.prog 31 #[.pointer none] w R := by
  exact calls_of_F (args := [.pointer none]) (mkAnn [] [] [] [] []) Try_mixed Try.func31 rfl rfl (by kernel_rfl) h
def F_PNilDirty  (w : World) (R : Value → World → Prop) : Prop :=
  Ret [] (R (.slice none 0 0) w)
theorem C_PNilDirty  {w : World} {R : Value → World → Prop} (h : F_PNilDirty  w R) : CallV Try.prog 32 #[.pointer none] w R := by
  exact calls_of_F (args := [.pointer none]) (mkAnn [] [] [] [] []) Try_mixed Try.func32 rfl rfl (by kernel_rfl) h
def F_PNilFull  (w : World) (R : Value → World → Prop) : Prop :=
  Ret [] (R (.bool false) w)
theorem C_PNilFull  {w : World} {R : Value → World → Prop} (h : F_PNilFull  w R) : CallV Try.prog 40 #[.pointer none] w R := by
  exact calls_of_F (args := [.pointer none]) (mkAnn [] [] [] [] []) Try_mixed Try.func40 rfl rfl (by kernel_rfl) h
def F_PNilUp (n : Int) (w : World) (R : Value → World → Prop) : Prop :=
  Ret [] (R (.slice none 0 0) w)
theorem C_PNilUp {n : Int} {w : World} {R : Value → World → Prop} (h : F_PNilUp n w R) : CallV Try.prog 41 #[.pointer none, .int .i64 n] w R := by
  exact calls_of_F (args := [.pointer none, .int .i64 n]) (mkAnn [] [] [] [] []) Try_mixed Try.func41 rfl rfl (by kernel_rfl) h
def F_NilResume (room : Int) (epoch : Int) (last : Int) (w : World) (R : Value → World → Prop) : Prop :=
  CallV Try.prog 72 #[.int .i64 room] w fun v w => T2 v fun v1 v2 => OpP v1 (OpI .i64 v2 fun n => Req (true = true) (Req (true = true) (Req (true = true) (Req (true = true)
  (Ret [] (R (.tuple #[.pointer none, .int .i64 2]) w)))))) fun b o => OpI .i64 v2 fun n1 => Req (true = true) (Req (true = true) (Req (true = true) (Req (true = true) (Ret
  [] (R (.tuple #[.pointer none, .int .i64 2]) w)))))
theorem C_NilResume {room : Int} {epoch : Int} {last : Int} {w : World} {R : Value → World → Prop} (h : F_NilResume room epoch last w R) : CallV Try.prog 42 #[.pointer none, .pointer none, .int .i64 room, .int .u32 epoch, .int .u64 last, .slice none 0 0] w R := by
  exact calls_of_F (args := [.pointer none, .pointer none, .int .i64 room, .int .u32 epoch, .int .u64 last, .slice none 0 0]) (mkAnn [] [] [] [] []) Try_mixed Try.func42 rfl rfl (by kernel_rfl) h
def F_NilNew (room : Int) (w : World) (R : Value → World → Prop) : Prop :=
  CallV Try.prog 42 #[.pointer none, .pointer none, .int .i64 room, .int .u32 0, .int .u64 0, .slice none 0 0] w fun v w => T2 v fun v1 v2 => OpP v1 (OpI .i64 v2 fun n =>
  Ret [] (R (.tuple #[.pointer none, .int .i64 n]) w)) fun b o => OpI .i64 v2 fun n1 => Ret [] (R (.tuple #[.pointer (some ⟨b, o, none⟩), .int .i64 n1]) w)
theorem C_NilNew {room : Int} {w : World} {R : Value → World → Prop} (h : F_NilNew room w R) : CallV Try.prog 12 #[.pointer none, .pointer none, .int .i64 room] w R := by
  exact calls_of_F (args := [.pointer none, .pointer none, .int .i64 room]) (mkAnn [] [] [] [] []) Try_mixed Try.func12 rfl rfl (by kernel_rfl) h
def F_ravelinlaw12_MirrorNil (n : Int) (lba : Int) (data : Array Value) (version : Int) (w : World) (R : Value → World → Prop) : Prop :=
  Alc 40 data w fun b w => LdA 16 b 0 (At w) fun cs => CallV Try.prog 14 #[.pointer none, .int .i64 n, .int .i64 lba, .agg cs] w fun v w => T2 v fun v1 v2 => OpI .u64 v1 fun
  n1 => OpI .i64 v2 fun n2 => CallV Try.prog 36 #[.pointer none, .int .i64 lba] w fun v3 w => T3 v3 fun v4 v5 v6 => OpA 16 v4 fun cs1 => OpI .u64 v5 fun n3 => OpI .i64 v6
  fun n4 => Alc 40 (zc Try.prog 40) w fun b1 w => StA 16 b1 0 cs1 w fun w => CallV Try.prog 37 #[.pointer none] w fun v7 w => T2 v7 fun v8 v9 => OpA 19 v8 fun cs2 => OpI
  .i64 v9 fun n5 => Alc 46 (zc Try.prog 46) w fun b2 w => StA 19 b2 0 cs2 w fun w => CallV Try.prog 12 #[.pointer none, .pointer none, .int .i64 3] w fun v10 w => T2 v10 fun
  v11 v12 => OpP v11 (OpI .i64 v12 fun n6 => CallV Try.prog 9 #[] w fun v13 w => OpB v13 fun g => Req (g = g) (Req (g = g) (Req ((cond g (n2 == 2) false) = (cond g (n2 == 2)
  false)) (Req ((cond g (n2 == 2) false) = (cond g (n2 == 2) false)) (Req ((cond (cond g (n2 == 2) false) (n4 == 2) false) = (cond (cond g (n2 == 2) false) (n4 == 2) false))
  (Req ((cond (cond g (n2 == 2) false) (n4 == 2) false) = (cond (cond g (n2 == 2) false) (n4 == 2) false)) (Req ((cond (cond (cond g (n2 == 2) false) (n4 == 2) false) (n5 ==
  2) false) = (cond (cond (cond g (n2 == 2) false) (n4 == 2) false) (n5 == 2) false)) (Req ((cond (cond (cond g (n2 == 2) false) (n4 == 2) false) (n5 == 2) false) = (cond
  (cond (cond g (n2 == 2) false) (n4 == 2) false) (n5 == 2) false)) (Req ((cond (cond (cond (cond g (n2 == 2) false) (n4 == 2) false) (n5 == 2) false) (n6 == 2) false) =
  (cond (cond (cond (cond g (n2 == 2) false) (n4 == 2) false) (n5 == 2) false) (n6 == 2) false)) (Req ((cond (cond (cond (cond g (n2 == 2) false) (n4 == 2) false) (n5 == 2)
  false) (n6 == 2) false) = (cond (cond (cond (cond g (n2 == 2) false) (n4 == 2) false) (n5 == 2) false) (n6 == 2) false)) (Cb (cond (cond (cond (cond (cond g (n2 == 2)
  false) (n4 == 2) false) (n5 == 2) false) (n6 == 2) false) true false) (CallV Try.prog 38 #[.pointer none, .int .i64 lba, .int .u64 version] w fun v14 w => OpI .i64 v14 fun
  n7 => Cb (n7 == 2) (CallV Try.prog 28 #[.pointer none, .int .u32 (IntKind.wrap .u32 version)] w fun v15 w => OpI .i64 v15 fun n8 => Cb (n8 == 2) (CallV Try.prog 39
  #[.pointer none] w fun v16 w => OpI .u64 v16 fun n9 => Cb (n9 == 0) (CallV Try.prog 29 #[.pointer none, .int .i64 n] w fun v17 w => OpI .i64 v17 fun n10 => Cb (n10 == 2)
  (CallV Try.prog 30 #[.pointer none, .int .i64 n] w fun v18 w => OpI .i64 v18 fun n11 => Cb (n11 == 2) (CallV Try.prog 31 #[.pointer none] w fun v19 w => OpI .i64 v19 fun
  n12 => Cb (n12 == 2) (CallV Try.prog 32 #[.pointer none] w fun v20 w => OpS v20 fun p l c => Cb (((l : Nat) : Int) == 0) (CallV Try.prog 40 #[.pointer none] w fun v21 w =>
  OpB v21 fun g1 => Cb (!g1) (CallV Try.prog 41 #[.pointer none, .int .i64 n] w fun v22 w => OpS v22 fun p1 l1 c1 => Ret [] (R (.bool (((l1 : Nat) : Int) == 0)) w)) (Ret []
  (R (.bool false) w))) (Ret [] (R (.bool false) w))) (Ret [] (R (.bool false) w))) (Ret [] (R (.bool false) w))) (Ret [] (R (.bool false) w))) (Ret [] (R (.bool false) w)))
  (Ret [] (R (.bool false) w))) (Ret [] (R (.bool false) w))) (Ret [] (R (.bool false) w))))))))))))) fun b3 o => OpI .i64 v12 fun n13 => CallV Try.prog 9 #[] w fun v23 w =>
  OpB v23 fun g2 => Req (g2 = g2) (Req (g2 = g2) (Req ((cond g2 (n2 == 2) false) = (cond g2 (n2 == 2) false)) (Req ((cond g2 (n2 == 2) false) = (cond g2 (n2 == 2) false))
  (Req ((cond (cond g2 (n2 == 2) false) (n4 == 2) false) = (cond (cond g2 (n2 == 2) false) (n4 == 2) false)) (Req ((cond (cond g2 (n2 == 2) false) (n4 == 2) false) = (cond
  (cond g2 (n2 == 2) false) (n4 == 2) false)) (Req ((cond (cond (cond g2 (n2 == 2) false) (n4 == 2) false) (n5 == 2) false) = (cond (cond (cond g2 (n2 == 2) false) (n4 == 2)
  false) (n5 == 2) false)) (Req ((cond (cond (cond g2 (n2 == 2) false) (n4 == 2) false) (n5 == 2) false) = (cond (cond (cond g2 (n2 == 2) false) (n4 == 2) false) (n5 == 2)
  false)) (Req ((cond (cond (cond (cond g2 (n2 == 2) false) (n4 == 2) false) (n5 == 2) false) (n13 == 2) false) = (cond (cond (cond (cond g2 (n2 == 2) false) (n4 == 2)
  false) (n5 == 2) false) (n13 == 2) false)) (Req ((cond (cond (cond (cond g2 (n2 == 2) false) (n4 == 2) false) (n5 == 2) false) (n13 == 2) false) = (cond (cond (cond (cond
  g2 (n2 == 2) false) (n4 == 2) false) (n5 == 2) false) (n13 == 2) false)) (Cb (cond (cond (cond (cond (cond g2 (n2 == 2) false) (n4 == 2) false) (n5 == 2) false) (n13 == 2)
  false) false false) (CallV Try.prog 38 #[.pointer none, .int .i64 lba, .int .u64 version] w fun v24 w => OpI .i64 v24 fun n14 => Cb (n14 == 2) (CallV Try.prog 28
  #[.pointer none, .int .u32 (IntKind.wrap .u32 version)] w fun v25 w => OpI .i64 v25 fun n15 => Cb (n15 == 2) (CallV Try.prog 39 #[.pointer none] w fun v26 w => OpI .u64
  v26 fun n16 => Cb (n16 == 0) (CallV Try.prog 29 #[.pointer none, .int .i64 n] w fun v27 w => OpI .i64 v27 fun n17 => Cb (n17 == 2) (CallV Try.prog 30 #[.pointer none, .int
  .i64 n] w fun v28 w => OpI .i64 v28 fun n18 => Cb (n18 == 2) (CallV Try.prog 31 #[.pointer none] w fun v29 w => OpI .i64 v29 fun n19 => Cb (n19 == 2) (CallV Try.prog 32
  #[.pointer none] w fun v30 w => OpS v30 fun p2 l2 c2 => Cb (((l2 : Nat) : Int) == 0) (CallV Try.prog 40 #[.pointer none] w fun v31 w => OpB v31 fun g3 => Cb (!g3) (CallV
  Try.prog 41 #[.pointer none, .int .i64 n] w fun v32 w => OpS v32 fun p3 l3 c3 => Ret [] (R (.bool (((l3 : Nat) : Int) == 0)) w)) (Ret [] (R (.bool false) w))) (Ret [] (R
  (.bool false) w))) (Ret [] (R (.bool false) w))) (Ret [] (R (.bool false) w))) (Ret [] (R (.bool false) w))) (Ret [] (R (.bool false) w))) (Ret [] (R (.bool false) w)))
  (Ret [] (R (.bool false) w))) (Ret [] (R (.bool false) w))))))))))))
theorem C_ravelinlaw12_MirrorNil {n : Int} {lba : Int} {data : Array Value} {version : Int} {w : World} {R : Value → World → Prop} (h : F_ravelinlaw12_MirrorNil n lba data version w R) : CallV Try.prog 8 #[.int .i64 n, .int .i64 lba, .agg data, .int .u64 version] w R := by
  exact calls_of_F (args := [.int .i64 n, .int .i64 lba, .agg data, .int .u64 version]) (mkAnn [] [] [] [] []) Try_mixed Try.func8 rfl rfl (by kernel_rfl) h
end Go.Proofs
