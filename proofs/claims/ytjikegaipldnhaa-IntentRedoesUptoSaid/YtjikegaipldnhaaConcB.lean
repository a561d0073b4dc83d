/-
  slices.Concat of two lists of columns; slices.Clone of bytes.
-/
import Derived.Test.YtjikegaipldnhaaCrc
import Derived.Test.YtjikegaipldnhaaFStrp
import Derived.Lib.AppendZeros
import Derived.Deep.Upon
namespace Go.Proofs
open Go Go.Ev
set_option linter.unusedSimpArgs false
set_option linter.unusedVariables false
set_option maxRecDepth 100000

/-- headers of slices -/
def hLay : Lay (Option Addr × Nat × Nat) := ⟨1, fun h => [.slice h.1 h.2.1 h.2.2], fun _ => rfl, fun y v hv => by rw [List.mem_singleton.1 hv]; rfl, by decide⟩
section calls
variable {w : World} {R : Value → World → Prop}
theorem run_mt0 (w : World) : (Instr.buildSlice 22 0 #[]).run Try.prog w = .ok (.slice (some ⟨w.heap.size, 0, none⟩) 0 0) (w.alloc (.cells #[] 5)) := by kernel_rfl
/-- a column, or none -/
def ColAt (w : World) (h : Option Addr × Nat × Nat) : Option Sec → Prop
  | none => h = (none, 0, 0)
  | some f => (∃ b o, h.1 = some ⟨b, o, none⟩) ∧ h.2.1 = 16 ∧ 16 ≤ h.2.2 ∧ SlL byLay w h.1 16 (secB f)
theorem ColAt.keep {w' : World} {h : Option Addr × Nat × Nat} : ∀ {C : Option Sec}, ColAt w h C → Keep (fun _ => False) w w' → ColAt w' h C
  | none, hc, _ => hc
  | some f, ⟨h1, h2, h3, h4⟩, k => ⟨h1, h2, h3, h4.keepB k (by simp)⟩
end calls
end Go.Proofs
