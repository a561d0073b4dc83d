/- PRINTED BY pr.py (own program): what the evaluator of <Name>Ev makes of the code of some functions. -/
import Derived.Test.YtjikegaipldnhaaChecked
import Derived.Test.YtjikegaipldnhaaEv
import Derived.Test.YtjikegaipldnhaaMix
namespace Go.Proofs
open Go.Ev
set_option linter.unusedVariables false
set_option maxRecDepth 100000
def F_BLoad (x : Nat) (o : Nat) (w : World) (R : Value → World → Prop) : Prop :=
  DoN Try.prog (callFunc 73 #[.pointer (some ⟨x, o, none⟩)]) w fun v w => OpI .u32 v fun n => Ret [] (R (.bool (n != 0)) w)
theorem C_BLoad {x : Nat} {o : Nat} {w : World} {R : Value → World → Prop} (h : F_BLoad x o w R) : CallV Try.prog 43 #[.pointer (some ⟨x, o, none⟩)] w R := by
  exact calls_of_F (args := [.pointer (some ⟨x, o, none⟩)]) (mkAnn [] [] [] [] []) Try_mixed Try.func43 rfl rfl (by kernel_rfl) h
def F_BStore (x : Nat) (o : Nat) (v : Bool) (w : World) (R : Value → World → Prop) : Prop :=
  HeldR w fun S w => CallV Try.prog 77 #[.bool v] w fun v1 w => OpI .u32 v1 fun n => Hld (S w) (DoN Try.prog (callFunc 76 #[.pointer (some ⟨x, o, none⟩), .int .u32 n]) w fun
  v2 w => Hld (S w) (Ret [] (R (.tuple #[]) w)))
theorem C_BStore {x : Nat} {o : Nat} {v : Bool} {w : World} {R : Value → World → Prop} (h : F_BStore x o v w R) : CallV Try.prog 48 #[.pointer (some ⟨x, o, none⟩), .bool v] w R := by
  exact calls_of_F (args := [.pointer (some ⟨x, o, none⟩), .bool v]) (mkAnn [] [] [] [] [9]) Try_mixed Try.func48 rfl rfl (by kernel_rfl) h
def F_ILoad (x : Nat) (o : Nat) (w : World) (R : Value → World → Prop) : Prop :=
  DoN Try.prog (callFunc 85 #[.pointer (some ⟨x, o, none⟩)]) w fun v w => OpI .i64 v fun n => Ret [] (R (.int .i64 n) w)
theorem C_ILoad {x : Nat} {o : Nat} {w : World} {R : Value → World → Prop} (h : F_ILoad x o w R) : CallV Try.prog 55 #[.pointer (some ⟨x, o, none⟩)] w R := by
  exact calls_of_F (args := [.pointer (some ⟨x, o, none⟩)]) (mkAnn [] [] [] [] []) Try_mixed Try.func55 rfl rfl (by kernel_rfl) h
def F_IStore (x : Nat) (o : Nat) (v : Int) (w : World) (R : Value → World → Prop) : Prop :=
  DoN Try.prog (callFunc 74 #[.pointer (some ⟨x, o, none⟩), .int .i64 v]) w fun v1 w => Ret [] (R (.tuple #[]) w)
theorem C_IStore {x : Nat} {o : Nat} {v : Int} {w : World} {R : Value → World → Prop} (h : F_IStore x o v w R) : CallV Try.prog 44 #[.pointer (some ⟨x, o, none⟩), .int .i64 v] w R := by
  exact calls_of_F (args := [.pointer (some ⟨x, o, none⟩), .int .i64 v]) (mkAnn [] [] [] [] []) Try_mixed Try.func44 rfl rfl (by kernel_rfl) h
def F_IAdd (x : Nat) (o : Nat) (d : Int) (w : World) (R : Value → World → Prop) : Prop :=
  DoN Try.prog (callFunc 128 #[.pointer (some ⟨x, o, none⟩), .int .i64 d]) w fun v w => OpI .i64 v fun n => Ret [] (R (.int .i64 n) w)
theorem C_IAdd {x : Nat} {o : Nat} {d : Int} {w : World} {R : Value → World → Prop} (h : F_IAdd x o d w R) : CallV Try.prog 110 #[.pointer (some ⟨x, o, none⟩), .int .i64 d] w R := by
  exact calls_of_F (args := [.pointer (some ⟨x, o, none⟩), .int .i64 d]) (mkAnn [] [] [] [] []) Try_mixed Try.func110 rfl rfl (by kernel_rfl) h
def F_atomic_b32 (b : Bool) (w : World) (R : Value → World → Prop) : Prop :=
  Cb b (Ret [] (R (.int .u32 1) w)) (Ret [] (R (.int .u32 0) w))
theorem C_atomic_b32 {b : Bool} {w : World} {R : Value → World → Prop} (h : F_atomic_b32 b w R) : CallV Try.prog 77 #[.bool b] w R := by
  exact calls_of_F (args := [.bool b]) (mkAnn [] [] [] [] []) Try_mixed Try.func77 rfl rfl (by kernel_rfl) h
def F_disk_NewMains  (w : World) (R : Value → World → Prop) : Prop :=
  DoQ Try.prog (Instr.build 108 #[]) (At w) fun v => OpA 3 v fun cs => Alc 108 cs w fun b w => Ret [] (R (.pointer (some ⟨b, 0, none⟩)) w)
theorem C_disk_NewMains  {w : World} {R : Value → World → Prop} (h : F_disk_NewMains  w R) : CallV Try.prog 10 #[] w R := by
  exact calls_of_F (args := []) (mkAnn [] [] [] [] []) Try_mixed Try.func10 rfl rfl (by kernel_rfl) h
def F_disk_Mains_Cut (m : Nat) (n : Int) (w : World) (R : Value → World → Prop) : Prop :=
  Req (false = false) (Req (false = false) (Cb (decide (n < 0)) (Ret [] (R (.int .i64 2) w)) (CallV Try.prog 43 #[.pointer (some ⟨m, 0, none⟩)] w fun v w => OpB v fun g =>
  Cb g (Ret [] (R (.int .i64 4) w)) (DoQ Try.prog (Builtin.min_ #[3, 3] 3 #[.int .i64 n, .int .i64 4611686018427387904]) (At w) fun v1 => OpI .i64 v1 fun n1 => CallV
  Try.prog 44 #[.pointer (some ⟨m, 1, none⟩), .int .i64 (IntKind.wrap .i64 (n1 + 1))] w fun v2 w => Ret [] (R (.int .i64 0) w)))))
theorem C_disk_Mains_Cut {m : Nat} {n : Int} {w : World} {R : Value → World → Prop} (h : F_disk_Mains_Cut m n w R) : CallV Try.prog 13 #[.pointer (some ⟨m, 0, none⟩), .int .i64 n] w R := by
  exact calls_of_F (args := [.pointer (some ⟨m, 0, none⟩), .int .i64 n]) (mkAnn [] [] [] [] []) Try_mixed Try.func13 rfl rfl (by kernel_rfl) h
def F_disk_Mains_Restore (m : Nat) (w : World) (R : Value → World → Prop) : Prop :=
  CallV Try.prog 48 #[.pointer (some ⟨m, 0, none⟩), .bool false] w fun v w => CallV Try.prog 44 #[.pointer (some ⟨m, 1, none⟩), .int .i64 0] w fun v1 w => Ret [] (R (.tuple
  #[]) w)
theorem C_disk_Mains_Restore {m : Nat} {w : World} {R : Value → World → Prop} (h : F_disk_Mains_Restore m w R) : CallV Try.prog 15 #[.pointer (some ⟨m, 0, none⟩)] w R := by
  exact calls_of_F (args := [.pointer (some ⟨m, 0, none⟩)]) (mkAnn [] [] [] [] []) Try_mixed Try.func15 rfl rfl (by kernel_rfl) h
def F_disk_Mains_On (m : Nat) (w : World) (R : Value → World → Prop) : Prop :=
  CallV Try.prog 43 #[.pointer (some ⟨m, 0, none⟩)] w fun v w => OpB v fun g => Ret [] (R (.bool (!g)) w)
theorem C_disk_Mains_On {m : Nat} {w : World} {R : Value → World → Prop} (h : F_disk_Mains_On m w R) : CallV Try.prog 67 #[.pointer (some ⟨m, 0, none⟩)] w R := by
  exact calls_of_F (args := [.pointer (some ⟨m, 0, none⟩)]) (mkAnn [] [] [] [] []) Try_mixed Try.func67 rfl rfl (by kernel_rfl) h
def F_disk_Mains_Step (m : Nat) (w : World) (R : Value → World → Prop) : Prop :=
  CallV Try.prog 67 #[.pointer (some ⟨m, 0, none⟩)] w fun v w => OpB v fun g => Cb (!g) (Ret [] (R (.bool false) w)) (CallV Try.prog 55 #[.pointer (some ⟨m, 1, none⟩)] w fun
  v1 w => OpI .i64 v1 fun n => Cb (n == 0) (CallV Try.prog 110 #[.pointer (some ⟨m, 2, none⟩), .int .i64 1] w fun v2 w => OpI .i64 v2 fun n1 => Ret [] (R (.bool true) w))
  (Cb (n == 1) (CallV Try.prog 44 #[.pointer (some ⟨m, 1, none⟩), .int .i64 0] w fun v3 w => CallV Try.prog 48 #[.pointer (some ⟨m, 0, none⟩), .bool true] w fun v4 w => Ret
  [] (R (.bool false) w)) (CallV Try.prog 44 #[.pointer (some ⟨m, 1, none⟩), .int .i64 (IntKind.wrap .i64 (n - 1))] w fun v5 w => CallV Try.prog 110 #[.pointer (some ⟨m, 2,
  none⟩), .int .i64 1] w fun v6 w => OpI .i64 v6 fun n2 => Ret [] (R (.bool true) w))))
theorem C_disk_Mains_Step {m : Nat} {w : World} {R : Value → World → Prop} (h : F_disk_Mains_Step m w R) : CallV Try.prog 87 #[.pointer (some ⟨m, 0, none⟩)] w R := by
  exact calls_of_F (args := [.pointer (some ⟨m, 0, none⟩)]) (mkAnn [] [] [] [] []) Try_mixed Try.func87 rfl rfl (by kernel_rfl) h
def F_disk_Mains_Steps (m : Nat) (w : World) (R : Value → World → Prop) : Prop :=
  CallV Try.prog 55 #[.pointer (some ⟨m, 2, none⟩)] w fun v w => OpI .i64 v fun n => Ret [] (R (.int .i64 n) w)
theorem C_disk_Mains_Steps {m : Nat} {w : World} {R : Value → World → Prop} (h : F_disk_Mains_Steps m w R) : CallV Try.prog 27 #[.pointer (some ⟨m, 0, none⟩)] w R := by
  exact calls_of_F (args := [.pointer (some ⟨m, 0, none⟩)]) (mkAnn [] [] [] [] []) Try_mixed Try.func27 rfl rfl (by kernel_rfl) h
end Go.Proofs
