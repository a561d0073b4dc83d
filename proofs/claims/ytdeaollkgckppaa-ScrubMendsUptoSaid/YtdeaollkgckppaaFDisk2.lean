/- PRINTED BY pr.py (own program): what the evaluator of <Name>Ev makes of the code of some functions. -/
import Derived.Test.YtdeaollkgckppaaChecked
import Derived.Test.YtdeaollkgckppaaEv
import Derived.Test.YtdeaollkgckppaaMix
namespace Go.Proofs
open Go.Ev
set_option linter.unusedVariables false
set_option maxRecDepth 100000
def F_disk_Disk_Replace (d : Nat) (w : World) (R : Value → World → Prop) : Prop :=
  LdV d 1 (At w) fun v => OpS v fun p l c => DoV Try.prog (Instr.makeSlice 130 (.int .i64 ((l : Nat) : Int)) (.int .i64 ((l : Nat) : Int))) w fun v1 w => OpS v1 fun p1 l1 c1
  => StV d 1 (.slice p1 l1 c1) w fun w => StV d 2 (.int .u32 0) w fun w => StV d 3 (.bool false) w fun w => Ret [] (R (.tuple #[]) w)
theorem C_disk_Disk_Replace {d : Nat} {w : World} {R : Value → World → Prop} (h : F_disk_Disk_Replace d w R) : CallV Try.prog 40 #[.pointer (some ⟨d, 0, none⟩)] w R := by
  exact calls_of_F (args := [.pointer (some ⟨d, 0, none⟩)]) (mkAnn [] [] [] [] []) Try_mixed Try.func40 rfl rfl (by kernel_rfl) h
def F_disk_Disk_Turn (d : Nat) (at_ : Int) (bit : Int) (w : World) (R : Value → World → Prop) : Prop :=
  CallV Try.prog 52 #[.pointer (some ⟨d, 0, none⟩), .int .i64 at_] w fun v w => OpB v fun g => Req ((!g) = (!g)) (Req ((!g) = (!g)) (Req ((cond (!g) true (decide (bit < 0)))
  = (cond (!g) true (decide (bit < 0)))) (Req ((cond (!g) true (decide (bit < 0))) = (cond (!g) true (decide (bit < 0)))) (Cb (cond (cond (!g) true (decide (bit < 0))) true
  (decide (bit ≥ 128))) (Ret [] (R (.int .i64 2) w)) (LdV d 3 (At w) fun v1 => OpB v1 fun g1 => Cb g1 (Ret [] (R (.int .i64 5) w)) (LdV d 1 (At w) fun v2 => OpS v2 fun p l c
  => IdxS p l at_ 18 fun b o => LdV b (o + 17) (At w) fun v3 => OpB v3 fun g2 => Cb (!g2) (Ret [] (R (.int .i64 7) w)) (Dr1 w fun w => LdV d 1 (At w) fun v4 => OpS v4 fun p1
  l1 c1 => Req ((8 : Int) ≠ 0) (IdxS p1 l1 at_ 18 fun b1 o1 => Req (0 ≤ IntKind.wrap .i64 (Int.tdiv bit 8) ∧ IntKind.wrap .i64 (Int.tdiv bit 8) < 16) (LdV b1 (o1 + Int.toNat
  (IntKind.wrap .i64 (Int.tdiv bit 8)) * 1) (At w) fun v5 => OpI .u8 v5 fun n => Req ((8 : Int) ≠ 0) (Req (0 ≤ Int.tmod bit 8) (IdxS p1 l1 at_ 18 fun b2 o2 => Req (0 ≤
  IntKind.wrap .i64 (Int.tdiv bit 8) ∧ IntKind.wrap .i64 (Int.tdiv bit 8) < 16) (StV b2 (o2 + Int.toNat (IntKind.wrap .i64 (Int.tdiv bit 8)) * 1) (.int .u8 (ibits .xor .u8 n
  (ishl .u8 1 (Int.tmod bit 8)))) w fun w => Ret [] (R (.int .i64 0) w)))))))))))))
theorem C_disk_Disk_Turn {d : Nat} {at_ : Int} {bit : Int} {w : World} {R : Value → World → Prop} (h : F_disk_Disk_Turn d at_ bit w R) : CallV Try.prog 37 #[.pointer (some ⟨d, 0, none⟩), .int .i64 at_, .int .i64 bit] w R := by
  exact calls_of_F (args := [.pointer (some ⟨d, 0, none⟩), .int .i64 at_, .int .i64 bit]) (mkAnn [] [] [] [] []) Try_mixed Try.func37 rfl rfl (by kernel_rfl) h
end Go.Proofs
