/-
  StripeCells, plain: a cell that shows its data.
-/
import Derived.Test.YtdeaollkgckppaaMapM
namespace Go.Proofs
open Go Go.Ev
set_option linter.unusedSimpArgs false
set_option linter.unusedVariables false
set_option maxRecDepth 100000

theorem read_view {s : SS} {i a : Int} {f : Sec} (hon : s.pw.on = true) (ha : 0 ≤ a ∧ a < ((s.ds.getD i.toNat dsk0).secs.length : Int)) (h : viewS s i a = some f) : readD s.pw (s.ds.getD i.toNat dsk0) a = (⟨f, sumS a f⟩, 0) := by
  unfold viewS cellD at h
  unfold readD
  generalize s.ds.getD i.toNat dsk0 = D at *
  rw [if_neg (show ¬ ¬ (0 ≤ a ∧ a < (D.secs.length : Int)) by simpa using ha), if_neg (by rw [hon]; decide)]
  by_cases hd : D.dead = true
  · rw [if_pos hd] at h; cases h
  · rw [if_neg hd] at h ⊢
    by_cases hg : (D.secs.getD a.toNat sct0).good = false
    · rw [if_pos hg] at h; cases h
    · rw [if_neg hg] at h ⊢
      by_cases hs : (D.secs.getD a.toNat sct0).cel.sum = sumS a (D.secs.getD a.toNat sct0).cel.data
      · rw [if_pos hs] at h
        have := Option.some.inj h
        generalize (D.secs.getD a.toNat sct0).cel = c at *
        cases c
        simp only at this hs
        subst this
        rw [hs]
      · rw [if_neg hs] at h; cases h
end Go.Proofs
