/- PRINTED BY pr.py (own program): what the evaluator of <Name>Ev makes of the code of some functions. -/
import Derived.Test.YtdeaollkgckppaaChecked
import Derived.Test.YtdeaollkgckppaaEv
import Derived.Test.YtdeaollkgckppaaMix
namespace Go.Proofs
open Go.Ev
set_option linter.unusedVariables false
set_option maxRecDepth 100000
def F_disk_New (n : Int) (m : Nat) (w : World) (R : Value → World → Prop) : Prop :=
  Req ((decide (n < 1)) = (decide (n < 1))) (Req ((decide (n < 1)) = (decide (n < 1))) (Req ((cond (decide (n < 1)) true (decide (n > 1024))) = (cond (decide (n < 1)) true
  (decide (n > 1024)))) (Req ((cond (decide (n < 1)) true (decide (n > 1024))) = (cond (decide (n < 1)) true (decide (n > 1024)))) (Cb (cond (cond (decide (n < 1)) true
  (decide (n > 1024))) true false) (Ret [] (R (.tuple #[.pointer none, .int .i64 2]) w)) (DoV Try.prog (Instr.makeSlice 130 (.int .i64 n) (.int .i64 n)) w fun v w => OpS v
  fun p l c => DoQ Try.prog (Instr.build 132 #[(0, .pointer (some ⟨m, 0, none⟩)), (1, .slice p l c)]) (At w) fun v1 => OpA 4 v1 fun cs => Alc 132 cs w fun b w => Ret [] (R
  (.tuple #[.pointer (some ⟨b, 0, none⟩), .int .i64 0]) w))))))
theorem C_disk_New {n : Int} {m : Nat} {w : World} {R : Value → World → Prop} (h : F_disk_New n m w R) : CallV Try.prog 60 #[.int .i64 n, .pointer (some ⟨m, 0, none⟩)] w R := by
  exact calls_of_F (args := [.int .i64 n, .pointer (some ⟨m, 0, none⟩)]) (mkAnn [] [] [] [] []) Try_mixed Try.func60 rfl rfl (by kernel_rfl) h
def F_disk_Disk_On (d : Nat) (m : Nat) (w : World) (R : Value → World → Prop) : Prop :=
  StV d 0 (.pointer (some ⟨m, 0, none⟩)) w fun w => Ret [] (R (.pointer (some ⟨d, 0, none⟩)) w)
theorem C_disk_Disk_On {d : Nat} {m : Nat} {w : World} {R : Value → World → Prop} (h : F_disk_Disk_On d m w R) : CallV Try.prog 61 #[.pointer (some ⟨d, 0, none⟩), .pointer (some ⟨m, 0, none⟩)] w R := by
  exact calls_of_F (args := [.pointer (some ⟨d, 0, none⟩), .pointer (some ⟨m, 0, none⟩)]) (mkAnn [] [] [] [] []) Try_mixed Try.func61 rfl rfl (by kernel_rfl) h
def F_disk_Disk_Size (d : Nat) (w : World) (R : Value → World → Prop) : Prop :=
  LdV d 1 (At w) fun v => OpS v fun p l c => Ret [] (R (.int .i64 ((l : Nat) : Int)) w)
theorem C_disk_Disk_Size {d : Nat} {w : World} {R : Value → World → Prop} (h : F_disk_Disk_Size d w R) : CallV Try.prog 49 #[.pointer (some ⟨d, 0, none⟩)] w R := by
  exact calls_of_F (args := [.pointer (some ⟨d, 0, none⟩)]) (mkAnn [] [] [] [] []) Try_mixed Try.func49 rfl rfl (by kernel_rfl) h
def F_disk_Disk_in (d : Nat) (at_ : Int) (w : World) (R : Value → World → Prop) : Prop :=
  Req (true = true) (Req (true = true) (Cb (decide (at_ ≥ 0)) (LdV d 1 (At w) fun v => OpS v fun p l c => Ret [] (R (.bool (decide (at_ < ((l : Nat) : Int)))) w)) (Ret [] (R
  (.bool false) w))))
theorem C_disk_Disk_in {d : Nat} {at_ : Int} {w : World} {R : Value → World → Prop} (h : F_disk_Disk_in d at_ w R) : CallV Try.prog 52 #[.pointer (some ⟨d, 0, none⟩), .int .i64 at_] w R := by
  exact calls_of_F (args := [.pointer (some ⟨d, 0, none⟩), .int .i64 at_]) (mkAnn [] [] [] [] []) Try_mixed Try.func52 rfl rfl (by kernel_rfl) h
def F_disk_Disk_Read (d : Nat) (at_ : Int) (w : World) (R : Value → World → Prop) : Prop :=
  Alc 57 (zc Try.prog 57) w fun b w => CallV Try.prog 52 #[.pointer (some ⟨d, 0, none⟩), .int .i64 at_] w fun v w => OpB v fun g => Cb (!g) (DoQ Try.prog (Instr.build 57
  #[]) (At w) fun v1 => OpA 17 v1 fun cs => StA 17 b 0 cs w fun w => LdA 17 b 0 (At w) fun cs1 => Ret [] (R (.tuple #[.agg cs1, .int .i64 2]) w)) (LdV d 0 (At w) fun v2 =>
  OpN v2 fun b1 o => CallV Try.prog 53 #[.pointer (some ⟨b1, o, none⟩)] w fun v3 w => OpB v3 fun g1 => Cb (!g1) (DoQ Try.prog (Instr.build 57 #[]) (At w) fun v4 => OpA 17 v4
  fun cs2 => StA 17 b 0 cs2 w fun w => LdA 17 b 0 (At w) fun cs3 => Ret [] (R (.tuple #[.agg cs3, .int .i64 4]) w)) (LdV d 3 (At w) fun v5 => OpB v5 fun g2 => Cb g2 (DoQ
  Try.prog (Instr.build 57 #[]) (At w) fun v6 => OpA 17 v6 fun cs4 => StA 17 b 0 cs4 w fun w => LdA 17 b 0 (At w) fun cs5 => Ret [] (R (.tuple #[.agg cs5, .int .i64 5]) w))
  (LdV d 1 (At w) fun v7 => OpS v7 fun p l c => IdxS p l at_ 18 fun b2 o1 => LdV b2 (o1 + 17) (At w) fun v8 => OpB v8 fun g3 => Cb (!g3) (DoQ Try.prog (Instr.build 57 #[])
  (At w) fun v9 => OpA 17 v9 fun cs6 => StA 17 b 0 cs6 w fun w => LdA 17 b 0 (At w) fun cs7 => Ret [] (R (.tuple #[.agg cs7, .int .i64 7]) w)) (LdV d 1 (At w) fun v10 => OpS
  v10 fun p1 l1 c1 => IdxS p1 l1 at_ 18 fun b3 o2 => LdA 17 b3 o2 (At w) fun cs8 => StA 17 b 0 cs8 w fun w => LdA 17 b 0 (At w) fun cs9 => Ret [] (R (.tuple #[.agg cs9, .int
  .i64 0]) w)))))
theorem C_disk_Disk_Read {d : Nat} {at_ : Int} {w : World} {R : Value → World → Prop} (h : F_disk_Disk_Read d at_ w R) : CallV Try.prog 21 #[.pointer (some ⟨d, 0, none⟩), .int .i64 at_] w R := by
  exact calls_of_F (args := [.pointer (some ⟨d, 0, none⟩), .int .i64 at_]) (mkAnn [] [] [] [] []) Try_mixed Try.func21 rfl rfl (by kernel_rfl) h
def F_disk_Disk_Write (d : Nat) (at_ : Int) (cellsp : Option Addr) (cellsl : Nat) (cellsc : Nat) (epoch : Int) (w : World) (R : Value → World → Prop) : Prop :=
  Req (false = false) (Req (false = false) (Cb (decide (at_ < 0)) (Ret [] (R (.tuple #[.int .i64 0, .int .i64 2]) w)) (LdV d 1 (At w) fun v => OpS v fun p l c => Cb (decide
  (at_ > ((l : Nat) : Int))) (Ret [] (R (.tuple #[.int .i64 0, .int .i64 2]) w)) (LdV d 1 (At w) fun v1 => OpS v1 fun p1 l1 c1 => Cb (decide (((cellsl : Nat) : Int) >
  IntKind.wrap .i64 (((l1 : Nat) : Int) - at_))) (Ret [] (R (.tuple #[.int .i64 0, .int .i64 2]) w)) (LdV d 0 (At w) fun v2 => OpN v2 fun b o => CallV Try.prog 53 #[.pointer
  (some ⟨b, o, none⟩)] w fun v3 w => OpB v3 fun g => Cb (!g) (Ret [] (R (.tuple #[.int .i64 0, .int .i64 4]) w)) (LdV d 3 (At w) fun v4 => OpB v4 fun g1 => Cb g1 (Ret [] (R
  (.tuple #[.int .i64 0, .int .i64 5]) w)) (LdV d 2 (At w) fun v5 => OpI .u32 v5 fun n => Cb (decide (epoch < n)) (Ret [] (R (.tuple #[.int .i64 0, .int .i64 6]) w)) (LoopC
  (σ := Int × Unit) (fun _ s1 w K1 => Cb (decide (s1.1 < ((cellsl : Nat) : Int))) (IdxS cellsp cellsl s1.1 17 fun b1 o1 => LdA 17 b1 o1 (At w) fun cs => Alc 57 (zc Try.prog
  57) w fun b2 w => StA 17 b2 0 cs w fun w => LdV d 0 (At w) fun v6 => OpN v6 fun b3 o2 => CallV Try.prog 82 #[.pointer (some ⟨b3, o2, none⟩)] w fun v7 w => OpB v7 fun g2 =>
  Cb (!g2) (Ret [] (R (.tuple #[.int .i64 s1.1, .int .i64 4]) w)) (Dr1 w fun w => LdV d 1 (At w) fun v8 => OpS v8 fun p2 l2 c2 => LdA 17 b2 0 (At w) fun cs1 => DoQ Try.prog
  (Instr.build 134 #[(0, .agg cs1), (1, .bool true)]) (At w) fun v9 => OpA 18 v9 fun cs2 => IdxS p2 l2 (IntKind.wrap .i64 (at_ + s1.1)) 18 fun b4 o3 => StA 18 b4 o3 cs2 w
  fun w => K1 (IntKind.wrap .i64 (s1.1 + 1), ()) w)) (Ret [] (R (.tuple #[.int .i64 ((cellsl : Nat) : Int), .int .i64 0]) w))) (0, ()) w))))))))
theorem C_disk_Disk_Write {d : Nat} {at_ : Int} {cellsp : Option Addr} {cellsl : Nat} {cellsc : Nat} {epoch : Int} {w : World} {R : Value → World → Prop} (h : F_disk_Disk_Write d at_ cellsp cellsl cellsc epoch w R) : CallV Try.prog 50 #[.pointer (some ⟨d, 0, none⟩), .int .i64 at_, .slice cellsp cellsl cellsc, .int .u32 epoch] w R := by
  exact calls_of_F (args := [.pointer (some ⟨d, 0, none⟩), .int .i64 at_, .slice cellsp cellsl cellsc, .int .u32 epoch]) (mkAnn [(10, [(61, (.int .i64))])] [] [] [] []) Try_mixed Try.func50 rfl rfl (by kernel_rfl) h
def F_disk_Disk_Fence (d : Nat) (epoch : Int) (w : World) (R : Value → World → Prop) : Prop :=
  LdV d 0 (At w) fun v => OpN v fun b o => CallV Try.prog 53 #[.pointer (some ⟨b, o, none⟩)] w fun v1 w => OpB v1 fun g => Cb (!g) (Ret [] (R (.int .i64 4) w)) (LdV d 3 (At
  w) fun v2 => OpB v2 fun g1 => Cb g1 (Ret [] (R (.int .i64 5) w)) (LdV d 2 (At w) fun v3 => OpI .u32 v3 fun n => DoQ Try.prog (Builtin.max_ #[48, 48] 48 #[.int .u32 n, .int
  .u32 epoch]) (At w) fun v4 => OpI .u32 v4 fun n1 => StV d 2 (.int .u32 n1) w fun w => Ret [] (R (.int .i64 0) w)))
theorem C_disk_Disk_Fence {d : Nat} {epoch : Int} {w : World} {R : Value → World → Prop} (h : F_disk_Disk_Fence d epoch w R) : CallV Try.prog 57 #[.pointer (some ⟨d, 0, none⟩), .int .u32 epoch] w R := by
  exact calls_of_F (args := [.pointer (some ⟨d, 0, none⟩), .int .u32 epoch]) (mkAnn [] [] [] [] []) Try_mixed Try.func57 rfl rfl (by kernel_rfl) h
def F_disk_Disk_Key (d : Nat) (w : World) (R : Value → World → Prop) : Prop :=
  LdV d 2 (At w) fun v => OpI .u32 v fun n => Ret [] (R (.int .u32 n) w)
theorem C_disk_Disk_Key {d : Nat} {w : World} {R : Value → World → Prop} (h : F_disk_Disk_Key d w R) : CallV Try.prog 58 #[.pointer (some ⟨d, 0, none⟩)] w R := by
  exact calls_of_F (args := [.pointer (some ⟨d, 0, none⟩)]) (mkAnn [] [] [] [] []) Try_mixed Try.func58 rfl rfl (by kernel_rfl) h
def F_disk_Disk_Fail (d : Nat) (w : World) (R : Value → World → Prop) : Prop :=
  StV d 3 (.bool true) w fun w => Ret [] (R (.tuple #[]) w)
theorem C_disk_Disk_Fail {d : Nat} {w : World} {R : Value → World → Prop} (h : F_disk_Disk_Fail d w R) : CallV Try.prog 24 #[.pointer (some ⟨d, 0, none⟩)] w R := by
  exact calls_of_F (args := [.pointer (some ⟨d, 0, none⟩)]) (mkAnn [] [] [] [] []) Try_mixed Try.func24 rfl rfl (by kernel_rfl) h
def F_disk_Disk_Alive (d : Nat) (w : World) (R : Value → World → Prop) : Prop :=
  LdV d 3 (At w) fun v => OpB v fun g => Ret [] (R (.bool (!g)) w)
theorem C_disk_Disk_Alive {d : Nat} {w : World} {R : Value → World → Prop} (h : F_disk_Disk_Alive d w R) : CallV Try.prog 47 #[.pointer (some ⟨d, 0, none⟩)] w R := by
  exact calls_of_F (args := [.pointer (some ⟨d, 0, none⟩)]) (mkAnn [] [] [] [] []) Try_mixed Try.func47 rfl rfl (by kernel_rfl) h
def F_disk_Disk_Hurt (d : Nat) (at_ : Int) (w : World) (R : Value → World → Prop) : Prop :=
  CallV Try.prog 52 #[.pointer (some ⟨d, 0, none⟩), .int .i64 at_] w fun v w => OpB v fun g => Cb (!g) (Ret [] (R (.int .i64 2) w)) (LdV d 3 (At w) fun v1 => OpB v1 fun g1
  => Cb g1 (Ret [] (R (.int .i64 5) w)) (LdV d 1 (At w) fun v2 => OpS v2 fun p l c => IdxS p l at_ 18 fun b o => StV b (o + 17) (.bool false) w fun w => Ret [] (R (.int .i64
  0) w)))
theorem C_disk_Disk_Hurt {d : Nat} {at_ : Int} {w : World} {R : Value → World → Prop} (h : F_disk_Disk_Hurt d at_ w R) : CallV Try.prog 26 #[.pointer (some ⟨d, 0, none⟩), .int .i64 at_] w R := by
  exact calls_of_F (args := [.pointer (some ⟨d, 0, none⟩), .int .i64 at_]) (mkAnn [] [] [] [] []) Try_mixed Try.func26 rfl rfl (by kernel_rfl) h
end Go.Proofs
