/- PRINTED BY pr.py (own program): what the evaluator of <Name>Ev makes of the code of some functions. -/
import Derived.Test.YtdjlmpkjdgmkkaaChecked
import Derived.Test.YtdjlmpkjdgmkkaaEv
import Derived.Test.YtdjlmpkjdgmkkaaMix
namespace Go.Proofs
open Go.Ev
set_option linter.unusedVariables false
set_option maxRecDepth 100000
def F_NilSide (n : Int) (w : World) (R : Value → World → Prop) : Prop :=
  Req (true = true) (Req (true = true) (Req (true = true) (Req (true = true) (Ret [] (R (.pointer none) w)))))
theorem C_NilSide {n : Int} {w : World} {R : Value → World → Prop} (h : F_NilSide n w R) : CallV Try.prog 48 #[.pointer none, .int .i64 n] w R := by
  exact calls_of_F (args := [.pointer none, .int .i64 n]) (mkAnn [] [] [] [] []) Try_mixed Try.func48 rfl rfl (by kernel_rfl) h
def F_NilTick (n : Int) (w : World) (R : Value → World → Prop) : Prop :=
  CallV Try.prog 48 #[.pointer none, .int .i64 n] w fun v w => OpP v (Ret [] (R (.int .i64 2) w)) fun b o => LdV b o (At w) fun v1 => OpB v1 fun g => Cb (!g) (Ret [] (R
  (.int .i64 13) w)) (LdV b (o + 2) (At w) fun v2 => OpI .i64 v2 fun n1 => StV b (o + 2) (.int .i64 (IntKind.wrap .i64 (n1 + 1))) w fun w => Ret [] (R (.int .i64 0) w))
theorem C_NilTick {n : Int} {w : World} {R : Value → World → Prop} (h : F_NilTick n w R) : CallV Try.prog 23 #[.pointer none, .int .i64 n] w R := by
  exact calls_of_F (args := [.pointer none, .int .i64 n]) (mkAnn [] [] [] [] []) Try_mixed Try.func23 rfl rfl (by kernel_rfl) h
def F_NilBeat (n : Int) (w : World) (R : Value → World → Prop) : Prop :=
  CallV Try.prog 48 #[.pointer none, .int .i64 n] w fun v w => OpP v (Ret [] (R (.int .i64 2) w)) fun b o => LdV b o (At w) fun v1 => OpB v1 fun g => Cb (!g) (Ret [] (R
  (.int .i64 13) w)) (CallV Try.prog 48 #[.pointer none, .int .i64 (IntKind.wrap .i64 (1 - n))] w fun v2 w => OpP v2 (False) fun b1 o1 => LdV b1 o1 (At w) fun v3 => OpB v3
  fun g1 => Cb (!g1) (Ret [] (R (.int .i64 13) w)) (CallV Try.prog 48 #[.pointer none, .int .i64 (IntKind.wrap .i64 (1 - n))] w fun v4 w => OpP v4 (False) fun b2 o2 => StV
  b2 (o2 + 2) (.int .i64 0) w fun w => Ret [] (R (.int .i64 0) w)))
theorem C_NilBeat {n : Int} {w : World} {R : Value → World → Prop} (h : F_NilBeat n w R) : CallV Try.prog 21 #[.pointer none, .int .i64 n] w R := by
  exact calls_of_F (args := [.pointer none, .int .i64 n]) (mkAnn [] [] [] [] []) Try_mixed Try.func21 rfl rfl (by kernel_rfl) h
def F_NilSuspects (n : Int) (w : World) (R : Value → World → Prop) : Prop :=
  CallV Try.prog 48 #[.pointer none, .int .i64 n] w fun v w => OpP v (Ret [] (R (.bool false) w)) fun b o => LdV b o (At w) fun v1 => OpB v1 fun g => Cb g (LdV b (o + 2) (At
  w) fun v2 => OpI .i64 v2 fun n1 => Ret [] (R (.bool (decide (n1 ≥ 3))) w)) (Ret [] (R (.bool false) w))
theorem C_NilSuspects {n : Int} {w : World} {R : Value → World → Prop} (h : F_NilSuspects n w R) : CallV Try.prog 26 #[.pointer none, .int .i64 n] w R := by
  exact calls_of_F (args := [.pointer none, .int .i64 n]) (mkAnn [] [] [] [] []) Try_mixed Try.func26 rfl rfl (by kernel_rfl) h
def F_NilReady (n : Int) (w : World) (R : Value → World → Prop) : Prop :=
  CallV Try.prog 48 #[.pointer none, .int .i64 n] w fun v w => OpP v (HeldR w fun S w => Hld (S w) (Ret [] (R (.bool false) w))) fun b o => HeldR w fun S w => LdV b o S fun
  v1 => OpB v1 fun g => Cb g (LdV b (o + 1) S fun v2 => OpI .u32 v2 fun n1 => CallV Try.prog 49 #[.pointer none] w fun v3 w => OpI .u32 v3 fun n2 => Hld (S w) (Ret [] (R
  (.bool (decide (n1 ≥ n2))) w))) (Hld (S w) (Ret [] (R (.bool false) w)))
theorem C_NilReady {n : Int} {w : World} {R : Value → World → Prop} (h : F_NilReady n w R) : CallV Try.prog 20 #[.pointer none, .int .i64 n] w R := by
  exact calls_of_F (args := [.pointer none, .int .i64 n]) (mkAnn [] [] [] [] [23]) Try_mixed Try.func20 rfl rfl (by kernel_rfl) h
def F_NilClaim (n : Int) (w : World) (R : Value → World → Prop) : Prop :=
  CallV Try.prog 48 #[.pointer none, .int .i64 n] w fun v w => OpP v (Ret [] (R (.tuple #[.int .u32 0, .int .i64 2]) w)) fun b o => CallV Try.prog 20 #[.pointer none, .int
  .i64 n] w fun v1 w => OpB v1 fun g => Cb (!g) (Ret [] (R (.tuple #[.int .u32 0, .int .i64 13]) w)) (CallV Try.prog 26 #[.pointer none, .int .i64 n] w fun v2 w => OpB v2
  fun g1 => Cb (!g1) (Ret [] (R (.tuple #[.int .u32 0, .int .i64 12]) w)) (HeldR w fun S w => LdV b (o + 1) S fun v3 => OpI .u32 v3 fun n1 => CallV Try.prog 49 #[.pointer
  none] w fun v4 w => OpI .u32 v4 fun n2 => Hld (S w) (DoQ Try.prog (Builtin.max_ #[40, 40] 40 #[.int .u32 n1, .int .u32 n2]) S fun v5 => OpI .u32 v5 fun n3 => CallV
  Try.prog 50 #[.int .u32 n3, .int .i64 n] w fun v6 w => T2 v6 fun v7 v8 => OpI .u32 v7 fun n4 => OpI .i64 v8 fun n5 => Hld (S w) (Cb (n5 != 0) (Ret [] (R (.tuple #[.int
  .u32 0, .int .i64 n5]) w)) (StV b (o + 1) (.int .u32 n4) w fun w => StV b (o + 2) (.int .i64 0) w fun w => False)))))
theorem C_NilClaim {n : Int} {w : World} {R : Value → World → Prop} (h : F_NilClaim n w R) : CallV Try.prog 24 #[.pointer none, .int .i64 n] w R := by
  exact calls_of_F (args := [.pointer none, .int .i64 n]) (mkAnn [] [] [] [] [32]) Try_mixed Try.func24 rfl rfl (by kernel_rfl) h
def F_NilJoin (n : Int) (w : World) (R : Value → World → Prop) : Prop :=
  CallV Try.prog 48 #[.pointer none, .int .i64 n] w fun v w => OpP v (Ret [] (R (.int .i64 2) w)) fun b o => LdV b o (At w) fun v1 => OpB v1 fun g => Cb (!g) (Ret [] (R
  (.int .i64 13) w)) (CallV Try.prog 20 #[.pointer none, .int .i64 (IntKind.wrap .i64 (1 - n))] w fun v2 w => OpB v2 fun g1 => Cb (!g1) (Ret [] (R (.int .i64 13) w)) (CallV
  Try.prog 48 #[.pointer none, .int .i64 (IntKind.wrap .i64 (1 - n))] w fun v3 w => OpP v3 (HeldR w fun S w => CallV Try.prog 20 #[.pointer none, .int .i64 n] w fun v4 w =>
  OpB v4 fun g2 => Hld (S w) (Cb g2 (LdV b (o + 1) S fun v5 => OpI .u32 v5 fun n1 => False) (CallV Try.prog 20 #[.pointer none, .int .i64 n] w fun v6 w => OpB v6 fun g3 =>
  Cb g3 (Ret [] (R (.int .i64 12) w)) (False)))) fun b1 o1 => HeldR w fun S w => CallV Try.prog 20 #[.pointer none, .int .i64 n] w fun v7 w => OpB v7 fun g4 => Hld (S w) (Cb
  g4 (LdV b (o + 1) S fun v8 => OpI .u32 v8 fun n2 => LdV b1 (o1 + 1) S fun v9 => OpI .u32 v9 fun n3 => Cb (n2 == n3) (Ret [] (R (.int .i64 11) w)) (CallV Try.prog 20
  #[.pointer none, .int .i64 n] w fun v10 w => OpB v10 fun g5 => Cb g5 (Ret [] (R (.int .i64 12) w)) (LdV b1 (o1 + 1) (At w) fun v11 => OpI .u32 v11 fun n4 => StV b (o + 1)
  (.int .u32 n4) w fun w => StV b (o + 2) (.int .i64 0) w fun w => StV b1 (o1 + 2) (.int .i64 0) w fun w => Ret [] (R (.int .i64 0) w)))) (CallV Try.prog 20 #[.pointer none,
  .int .i64 n] w fun v12 w => OpB v12 fun g6 => Cb g6 (Ret [] (R (.int .i64 12) w)) (LdV b1 (o1 + 1) (At w) fun v13 => OpI .u32 v13 fun n5 => StV b (o + 1) (.int .u32 n5) w
  fun w => StV b (o + 2) (.int .i64 0) w fun w => StV b1 (o1 + 2) (.int .i64 0) w fun w => Ret [] (R (.int .i64 0) w))))))
theorem C_NilJoin {n : Int} {w : World} {R : Value → World → Prop} (h : F_NilJoin n w R) : CallV Try.prog 22 #[.pointer none, .int .i64 n] w R := by
  exact calls_of_F (args := [.pointer none, .int .i64 n]) (mkAnn [] [] [] [] [33]) Try_mixed Try.func22 rfl rfl (by kernel_rfl) h
def F_NilCrash (n : Int) (w : World) (R : Value → World → Prop) : Prop :=
  CallV Try.prog 48 #[.pointer none, .int .i64 n] w fun v w => OpP v (Ret [] (R (.int .i64 2) w)) fun b o => LdV b o (At w) fun v1 => OpB v1 fun g => Cb (!g) (Ret [] (R
  (.int .i64 13) w)) (StV b o (.bool false) w fun w => Ret [] (R (.int .i64 0) w))
theorem C_NilCrash {n : Int} {w : World} {R : Value → World → Prop} (h : F_NilCrash n w R) : CallV Try.prog 19 #[.pointer none, .int .i64 n] w R := by
  exact calls_of_F (args := [.pointer none, .int .i64 n]) (mkAnn [] [] [] [] []) Try_mixed Try.func19 rfl rfl (by kernel_rfl) h
def F_NilRestart (n : Int) (w : World) (R : Value → World → Prop) : Prop :=
  CallV Try.prog 48 #[.pointer none, .int .i64 n] w fun v w => OpP v (Ret [] (R (.int .i64 2) w)) fun b o => LdV b o (At w) fun v1 => OpB v1 fun g => Cb g (Ret [] (R (.int
  .i64 11) w)) (StV b o (.bool true) w fun w => StV b (o + 2) (.int .i64 0) w fun w => Ret [] (R (.int .i64 0) w))
theorem C_NilRestart {n : Int} {w : World} {R : Value → World → Prop} (h : F_NilRestart n w R) : CallV Try.prog 25 #[.pointer none, .int .i64 n] w R := by
  exact calls_of_F (args := [.pointer none, .int .i64 n]) (mkAnn [] [] [] [] []) Try_mixed Try.func25 rfl rfl (by kernel_rfl) h
def F_NilEpoch (n : Int) (w : World) (R : Value → World → Prop) : Prop :=
  CallV Try.prog 48 #[.pointer none, .int .i64 n] w fun v w => OpP v (Ret [] (R (.tuple #[.int .u32 0, .int .i64 2]) w)) fun b o => LdV b (o + 1) (At w) fun v1 => OpI .u32
  v1 fun n1 => Ret [] (R (.tuple #[.int .u32 n1, .int .i64 0]) w)
theorem C_NilEpoch {n : Int} {w : World} {R : Value → World → Prop} (h : F_NilEpoch n w R) : CallV Try.prog 40 #[.pointer none, .int .i64 n] w R := by
  exact calls_of_F (args := [.pointer none, .int .i64 n]) (mkAnn [] [] [] [] []) Try_mixed Try.func40 rfl rfl (by kernel_rfl) h
def F_NilLose (n : Int) (w : World) (R : Value → World → Prop) : Prop :=
  CallV Try.prog 55 #[.pointer none, .int .i64 n] w fun v w => OpP v (Ret [] (R (.int .i64 2) w)) fun b o => LdV b o (At w) fun v1 => OpB v1 fun g => Cb (!g) (Ret [] (R
  (.int .i64 5) w)) (StV b o (.bool false) w fun w => Ret [] (R (.int .i64 0) w))
theorem C_NilLose {n : Int} {w : World} {R : Value → World → Prop} (h : F_NilLose n w R) : CallV Try.prog 36 #[.pointer none, .int .i64 n] w R := by
  exact calls_of_F (args := [.pointer none, .int .i64 n]) (mkAnn [] [] [] [] []) Try_mixed Try.func36 rfl rfl (by kernel_rfl) h
def F_NilRenew (n : Int) (w : World) (R : Value → World → Prop) : Prop :=
  CallV Try.prog 55 #[.pointer none, .int .i64 n] w fun v w => OpP v (Ret [] (R (.int .i64 2) w)) fun b o => LdV b o (At w) fun v1 => OpB v1 fun g => Cb g (Ret [] (R (.int
  .i64 11) w)) (CallV Try.prog 49 #[.pointer none] w fun v2 w => OpI .u32 v2 fun n1 => StV b (o + 1) (.int .u32 n1) w fun w => StV b o (.bool true) w fun w => Ret [] (R
  (.int .i64 0) w))
theorem C_NilRenew {n : Int} {w : World} {R : Value → World → Prop} (h : F_NilRenew n w R) : CallV Try.prog 38 #[.pointer none, .int .i64 n] w R := by
  exact calls_of_F (args := [.pointer none, .int .i64 n]) (mkAnn [] [] [] [] []) Try_mixed Try.func38 rfl rfl (by kernel_rfl) h
def F_NilDrive (n : Int) (w : World) (R : Value → World → Prop) : Prop :=
  Req (true = true) (Req (true = true) (Ret [] (R (.pointer none) w)))
theorem C_NilDrive {n : Int} {w : World} {R : Value → World → Prop} (h : F_NilDrive n w R) : CallV Try.prog 55 #[.pointer none, .int .i64 n] w R := by
  exact calls_of_F (args := [.pointer none, .int .i64 n]) (mkAnn [] [] [] [] []) Try_mixed Try.func55 rfl rfl (by kernel_rfl) h
def F_NilWrite (n : Int) (disk : Int) (w : World) (R : Value → World → Prop) : Prop :=
  CallV Try.prog 48 #[.pointer none, .int .i64 n] w fun v w => OpP v (CallV Try.prog 55 #[.pointer none, .int .i64 disk] w fun v1 w => OpP v1 (Req (true = true) (Req (true =
  true) (Ret [] (R (.int .i64 2) w)))) fun b o => Req (true = true) (Req (true = true) (Ret [] (R (.int .i64 2) w)))) fun b1 o1 => CallV Try.prog 55 #[.pointer none, .int
  .i64 disk] w fun v2 w => OpP v2 (Req (false = false) (Req (false = false) (Ret [] (R (.int .i64 2) w)))) fun b2 o2 => Req (false = false) (Req (false = false) (LdV b1 o1
  (At w) fun v3 => OpB v3 fun g => Cb (!g) (Ret [] (R (.int .i64 13) w)) (LdV b2 o2 (At w) fun v4 => OpB v4 fun g1 => Cb (!g1) (Ret [] (R (.int .i64 5) w)) (LdV b1 (o1 + 1)
  (At w) fun v5 => OpI .u32 v5 fun n1 => LdV b2 (o2 + 1) (At w) fun v6 => OpI .u32 v6 fun n2 => Drw w fun w => Cb (decide (n1 < n2)) (Ret [] (R (.int .i64 6) w)) (Ret [] (R
  (.int .i64 0) w))))))
theorem C_NilWrite {n : Int} {disk : Int} {w : World} {R : Value → World → Prop} (h : F_NilWrite n disk w R) : CallV Try.prog 32 #[.pointer none, .int .i64 n, .int .i64 disk] w R := by
  exact calls_of_F (args := [.pointer none, .int .i64 n, .int .i64 disk]) (mkAnn [] [] [] [] []) Try_mixed Try.func32 rfl rfl (by kernel_rfl) h
end Go.Proofs
