/-
  ARGUMENTS AS CELLS: a sector, bytes, bools.
-/
import Derived.Test.YthhimblbnnafkaaGreatLift2
import Derived.Test.YthhimblbnnafkaaGreatRowM
namespace Go.Proofs
open Go Go.Ev Go.RowKit
set_option linter.unusedSimpArgs false
set_option linter.unusedVariables false
set_option maxRecDepth 100000

theorem sec_of {cs : Array Value} (h : Fits (List.replicate 16 (.int .u8)) cs.toList) : ∃ f, cs = secV f ∧ SecOk f := by
  obtain ⟨l⟩ := cs
  match l, h with
  | [_, _, _, _, _, _, _, _, _, _, _, _, _, _, _, _], ⟨⟨x0, rfl, a0⟩, ⟨x1, rfl, a1⟩, ⟨x2, rfl, a2⟩, ⟨x3, rfl, a3⟩, ⟨x4, rfl, a4⟩, ⟨x5, rfl, a5⟩, ⟨x6, rfl, a6⟩, ⟨x7, rfl, a7⟩, ⟨x8, rfl, a8⟩, ⟨x9, rfl, a9⟩, ⟨xa, rfl, aa⟩, ⟨xb, rfl, ab⟩, ⟨xc, rfl, ac⟩, ⟨xd, rfl, ad⟩, ⟨xe, rfl, ae⟩, ⟨xf, rfl, af⟩, _⟩ =>
    refine ⟨sec [x0, x1, x2, x3, x4, x5, x6, x7, x8, x9, xa, xb, xc, xd, xe, xf], rfl, sec_ok ?_⟩
    intro x hx
    simp only [List.mem_cons, List.not_mem_nil, or_false] at hx
    rcases hx with rfl | rfl | rfl | rfl | rfl | rfl | rfl | rfl | rfl | rfl | rfl | rfl | rfl | rfl | rfl | rfl <;> assumption
instance : Inhabited Sec := ⟨sec []⟩
/-- sectors in a row -/
theorem secs_list {W : World} {xp : Option Addr} {l : Nat} {g : Nat → List Value} (h : Sl W 16 xp l g) (hf : ∀ i, i < l → Fits (List.replicate 16 (.int .u8)) (g i)) : ∃ fs : List Sec, SlL secLay W xp l fs ∧ ∀ f ∈ fs, SecOk f :=
  slL_ex h rfl hf fun cs hc => by
    obtain ⟨f, hf, ho⟩ := sec_of (cs := cs.toArray) (by simpa using hc)
    exact ⟨f, by show cs = (secV f).toList; rw [← hf], ho⟩
theorem by_of {cs : List Value} (h : Fits [.int .u8] cs) : ∃ y : Int, cs = byLay.row y ∧ (0 ≤ y ∧ y ≤ 255) := by
  obtain ⟨_, _, rfl, ⟨a, rfl, a1, a2⟩, h1⟩ := fits_cons h
  cases fits_nil h1
  exact ⟨a, rfl, a1, a2⟩
theorem bytes_list {W : World} {xp : Option Addr} {l : Nat} {g : Nat → List Value} (h : Sl W 1 xp l g) (hf : ∀ i, i < l → Fits [.int .u8] (g i)) : ∃ ys : List Int, SlL byLay W xp l ys ∧ By ys := slL_ex h rfl hf fun cs hc => by_of hc
end Go.Proofs
