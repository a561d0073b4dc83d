/- PRINTED BY pr.py (own program): what the evaluator of <Name>Ev makes of the code of some functions. -/
import Derived.Test.YthhimblbnnafkaaGreatChecked
import Derived.Test.YthhimblbnnafkaaGreatEv
import Derived.Test.YthhimblbnnafkaaGreatMix
namespace Go.Proofs
open Go.Ev
set_option linter.unusedVariables false
set_option maxRecDepth 100000
def F_BLoad (x : Nat) (o : Nat) (w : World) (R : Value → World → Prop) : Prop :=
  DoN Tryz.prog (callFunc 197 #[.pointer (some ⟨x, o, none⟩)]) w fun v w => OpI .u32 v fun n => Ret [] (R (.bool (n != 0)) w)
theorem C_BLoad {x : Nat} {o : Nat} {w : World} {R : Value → World → Prop} (h : F_BLoad x o w R) : CallV Tryz.prog 126 #[.pointer (some ⟨x, o, none⟩)] w R := by
  exact calls_of_F (args := [.pointer (some ⟨x, o, none⟩)]) (mkAnn [] [] [] [] []) Tryz_mixed Tryz.func126 rfl rfl (by kernel_rfl) h
def F_BStore (x : Nat) (o : Nat) (v : Bool) (w : World) (R : Value → World → Prop) : Prop :=
  HeldR w fun S w => CallV Tryz.prog 206 #[.bool v] w fun v1 w => OpI .u32 v1 fun n => Hld (S w) (DoN Tryz.prog (callFunc 205 #[.pointer (some ⟨x, o, none⟩), .int .u32 n]) w
  fun v2 w => Hld (S w) (Ret [] (R (.tuple #[]) w)))
theorem C_BStore {x : Nat} {o : Nat} {v : Bool} {w : World} {R : Value → World → Prop} (h : F_BStore x o v w R) : CallV Tryz.prog 135 #[.pointer (some ⟨x, o, none⟩), .bool v] w R := by
  exact calls_of_F (args := [.pointer (some ⟨x, o, none⟩), .bool v]) (mkAnn [] [] [] [] [9]) Tryz_mixed Tryz.func135 rfl rfl (by kernel_rfl) h
def F_ILoad (x : Nat) (o : Nat) (w : World) (R : Value → World → Prop) : Prop :=
  DoN Tryz.prog (callFunc 198 #[.pointer (some ⟨x, o, none⟩)]) w fun v w => OpI .i64 v fun n => Ret [] (R (.int .i64 n) w)
theorem C_ILoad {x : Nat} {o : Nat} {w : World} {R : Value → World → Prop} (h : F_ILoad x o w R) : CallV Tryz.prog 127 #[.pointer (some ⟨x, o, none⟩)] w R := by
  exact calls_of_F (args := [.pointer (some ⟨x, o, none⟩)]) (mkAnn [] [] [] [] []) Tryz_mixed Tryz.func127 rfl rfl (by kernel_rfl) h
def F_IStore (x : Nat) (o : Nat) (v : Int) (w : World) (R : Value → World → Prop) : Prop :=
  DoN Tryz.prog (callFunc 204 #[.pointer (some ⟨x, o, none⟩), .int .i64 v]) w fun v1 w => Ret [] (R (.tuple #[]) w)
theorem C_IStore {x : Nat} {o : Nat} {v : Int} {w : World} {R : Value → World → Prop} (h : F_IStore x o v w R) : CallV Tryz.prog 134 #[.pointer (some ⟨x, o, none⟩), .int .i64 v] w R := by
  exact calls_of_F (args := [.pointer (some ⟨x, o, none⟩), .int .i64 v]) (mkAnn [] [] [] [] []) Tryz_mixed Tryz.func134 rfl rfl (by kernel_rfl) h
def F_IAdd (x : Nat) (o : Nat) (d : Int) (w : World) (R : Value → World → Prop) : Prop :=
  DoN Tryz.prog (callFunc 273 #[.pointer (some ⟨x, o, none⟩), .int .i64 d]) w fun v w => OpI .i64 v fun n => Ret [] (R (.int .i64 n) w)
theorem C_IAdd {x : Nat} {o : Nat} {d : Int} {w : World} {R : Value → World → Prop} (h : F_IAdd x o d w R) : CallV Tryz.prog 247 #[.pointer (some ⟨x, o, none⟩), .int .i64 d] w R := by
  exact calls_of_F (args := [.pointer (some ⟨x, o, none⟩), .int .i64 d]) (mkAnn [] [] [] [] []) Tryz_mixed Tryz.func247 rfl rfl (by kernel_rfl) h
def F_atomic_b32 (b : Bool) (w : World) (R : Value → World → Prop) : Prop :=
  Cb b (Ret [] (R (.int .u32 1) w)) (Ret [] (R (.int .u32 0) w))
theorem C_atomic_b32 {b : Bool} {w : World} {R : Value → World → Prop} (h : F_atomic_b32 b w R) : CallV Tryz.prog 206 #[.bool b] w R := by
  exact calls_of_F (args := [.bool b]) (mkAnn [] [] [] [] []) Tryz_mixed Tryz.func206 rfl rfl (by kernel_rfl) h
def F_disk_NewMains  (w : World) (R : Value → World → Prop) : Prop :=
  DoQ Tryz.prog (Instr.build 209 #[]) (At w) fun v => OpA 3 v fun cs => Alc 209 cs w fun b w => Ret [] (R (.pointer (some ⟨b, 0, none⟩)) w)
theorem C_disk_NewMains  {w : World} {R : Value → World → Prop} (h : F_disk_NewMains  w R) : CallV Tryz.prog 52 #[] w R := by
  exact calls_of_F (args := []) (mkAnn [] [] [] [] []) Tryz_mixed Tryz.func52 rfl rfl (by kernel_rfl) h
def F_disk_Mains_Cut (m : Nat) (n : Int) (w : World) (R : Value → World → Prop) : Prop :=
  Req (false = false) (Req (false = false) (Cb (decide (n < 0)) (Ret [] (R (.int .i64 2) w)) (CallV Tryz.prog 126 #[.pointer (some ⟨m, 0, none⟩)] w fun v w => OpB v fun g =>
  Cb g (Ret [] (R (.int .i64 4) w)) (DoQ Tryz.prog (Builtin.min_ #[3, 3] 3 #[.int .i64 n, .int .i64 4611686018427387904]) (At w) fun v1 => OpI .i64 v1 fun n1 => CallV
  Tryz.prog 134 #[.pointer (some ⟨m, 1, none⟩), .int .i64 (IntKind.wrap .i64 (n1 + 1))] w fun v2 w => Ret [] (R (.int .i64 0) w)))))
theorem C_disk_Mains_Cut {m : Nat} {n : Int} {w : World} {R : Value → World → Prop} (h : F_disk_Mains_Cut m n w R) : CallV Tryz.prog 59 #[.pointer (some ⟨m, 0, none⟩), .int .i64 n] w R := by
  exact calls_of_F (args := [.pointer (some ⟨m, 0, none⟩), .int .i64 n]) (mkAnn [] [] [] [] []) Tryz_mixed Tryz.func59 rfl rfl (by kernel_rfl) h
def F_disk_Mains_Restore (m : Nat) (w : World) (R : Value → World → Prop) : Prop :=
  CallV Tryz.prog 135 #[.pointer (some ⟨m, 0, none⟩), .bool false] w fun v w => CallV Tryz.prog 134 #[.pointer (some ⟨m, 1, none⟩), .int .i64 0] w fun v1 w => Ret [] (R
  (.tuple #[]) w)
theorem C_disk_Mains_Restore {m : Nat} {w : World} {R : Value → World → Prop} (h : F_disk_Mains_Restore m w R) : CallV Tryz.prog 60 #[.pointer (some ⟨m, 0, none⟩)] w R := by
  exact calls_of_F (args := [.pointer (some ⟨m, 0, none⟩)]) (mkAnn [] [] [] [] []) Tryz_mixed Tryz.func60 rfl rfl (by kernel_rfl) h
def F_disk_Mains_On (m : Nat) (w : World) (R : Value → World → Prop) : Prop :=
  CallV Tryz.prog 126 #[.pointer (some ⟨m, 0, none⟩)] w fun v w => OpB v fun g => Ret [] (R (.bool (!g)) w)
theorem C_disk_Mains_On {m : Nat} {w : World} {R : Value → World → Prop} (h : F_disk_Mains_On m w R) : CallV Tryz.prog 44 #[.pointer (some ⟨m, 0, none⟩)] w R := by
  exact calls_of_F (args := [.pointer (some ⟨m, 0, none⟩)]) (mkAnn [] [] [] [] []) Tryz_mixed Tryz.func44 rfl rfl (by kernel_rfl) h
def F_disk_Mains_Step (m : Nat) (w : World) (R : Value → World → Prop) : Prop :=
  CallV Tryz.prog 44 #[.pointer (some ⟨m, 0, none⟩)] w fun v w => OpB v fun g => Cb (!g) (Ret [] (R (.bool false) w)) (CallV Tryz.prog 127 #[.pointer (some ⟨m, 1, none⟩)] w
  fun v1 w => OpI .i64 v1 fun n => Cb (n == 0) (CallV Tryz.prog 247 #[.pointer (some ⟨m, 2, none⟩), .int .i64 1] w fun v2 w => OpI .i64 v2 fun n1 => Ret [] (R (.bool true)
  w)) (Cb (n == 1) (CallV Tryz.prog 134 #[.pointer (some ⟨m, 1, none⟩), .int .i64 0] w fun v3 w => CallV Tryz.prog 135 #[.pointer (some ⟨m, 0, none⟩), .bool true] w fun v4 w
  => Ret [] (R (.bool false) w)) (CallV Tryz.prog 134 #[.pointer (some ⟨m, 1, none⟩), .int .i64 (IntKind.wrap .i64 (n - 1))] w fun v5 w => CallV Tryz.prog 247 #[.pointer
  (some ⟨m, 2, none⟩), .int .i64 1] w fun v6 w => OpI .i64 v6 fun n2 => Ret [] (R (.bool true) w))))
theorem C_disk_Mains_Step {m : Nat} {w : World} {R : Value → World → Prop} (h : F_disk_Mains_Step m w R) : CallV Tryz.prog 195 #[.pointer (some ⟨m, 0, none⟩)] w R := by
  exact calls_of_F (args := [.pointer (some ⟨m, 0, none⟩)]) (mkAnn [] [] [] [] []) Tryz_mixed Tryz.func195 rfl rfl (by kernel_rfl) h
def F_disk_Mains_Steps (m : Nat) (w : World) (R : Value → World → Prop) : Prop :=
  CallV Tryz.prog 127 #[.pointer (some ⟨m, 2, none⟩)] w fun v w => OpI .i64 v fun n => Ret [] (R (.int .i64 n) w)
theorem C_disk_Mains_Steps {m : Nat} {w : World} {R : Value → World → Prop} (h : F_disk_Mains_Steps m w R) : CallV Tryz.prog 45 #[.pointer (some ⟨m, 0, none⟩)] w R := by
  exact calls_of_F (args := [.pointer (some ⟨m, 0, none⟩)]) (mkAnn [] [] [] [] []) Tryz_mixed Tryz.func45 rfl rfl (by kernel_rfl) h
end Go.Proofs
