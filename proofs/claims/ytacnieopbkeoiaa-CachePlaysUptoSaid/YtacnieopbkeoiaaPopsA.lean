/-
  Scripts over a cache that are handed in, as lists of steps.
-/
import Derived.Test.YtacnieopbkeoiaaPlays
import Derived.Test.YtacnieopbkeoiaaLift2
import Derived.Test.YtacnieopbkeoiaaEpochs
namespace Go.Proofs
open Go Go.Ev Go.RowKit
set_option linter.unusedVariables false
set_option maxRecDepth 100000
def popKs : List CK := .int .i64 :: .int .i64 :: .int .u64 :: List.replicate 16 (.int .u8)
theorem pop_of {cs : List Value} (h : Fits popKs cs) : ∃ o : POp, cs = popLay.row o ∧ POpOk o := by
  obtain ⟨_, _, rfl, ⟨a, rfl, _⟩, h1⟩ := fits_cons h
  obtain ⟨_, _, rfl, ⟨b, rfl, hb⟩, h2⟩ := fits_cons h1
  obtain ⟨_, l, rfl, ⟨c, rfl, hc⟩, h3⟩ := fits_cons h2
  obtain ⟨f, hf, hok⟩ := sec_of' (cs := l.toArray) h3
  have : l = (secV f).toList := by rw [← hf]
  subst this
  exact ⟨⟨a, b, c, f⟩, rfl, hb, hc, hok⟩
theorem pops_list {W : World} {xp : Option Addr} {l : Nat} {g : Nat → List Value} (h : Sl W 19 xp l g) (hf : ∀ i, i < l → Fits popKs (g i)) : ∃ os : List POp, SlL popLay W xp l os ∧ ∀ o ∈ os, POpOk o :=
  slL_ex h rfl hf fun cs hc => pop_of hc
end Go.Proofs
