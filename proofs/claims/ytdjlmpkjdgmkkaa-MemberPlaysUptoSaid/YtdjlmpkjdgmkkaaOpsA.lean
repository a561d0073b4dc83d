/-
  Scripts that are handed in, as lists of steps.
-/
import Derived.Test.YtdjlmpkjdgmkkaaMemPlays
import Derived.Test.YtdjlmpkjdgmkkaaLift2
namespace Go.Proofs
open Go Go.Ev Go.RowKit
set_option linter.unusedVariables false
theorem op_of {cs : List Value} (h : Fits [.int .i64, .int .i64, .int .i64] cs) : ∃ o : Op3, cs = opLay.row o ∧ True := by
  obtain ⟨_, _, rfl, ⟨a, rfl, _⟩, h1⟩ := fits_cons h
  obtain ⟨_, _, rfl, ⟨b, rfl, _⟩, h2⟩ := fits_cons h1
  obtain ⟨_, _, rfl, ⟨c, rfl, _⟩, h3⟩ := fits_cons h2
  cases fits_nil h3
  exact ⟨(a, b, c), rfl, trivial⟩
theorem ops_list {W : World} {xp : Option Addr} {l : Nat} {g : Nat → List Value} (h : Sl W 3 xp l g) (hf : ∀ i, i < l → Fits [.int .i64, .int .i64, .int .i64] (g i)) : ∃ os : List Op3, SlL opLay W xp l os := by
  obtain ⟨os, h1, _⟩ := slL_ex h rfl hf fun cs hc => op_of hc
  exact ⟨os, h1⟩
end Go.Proofs
