/-
  Slices of slices of records that are handed in, as lists.
-/
import Derived.Test.YtacnieopbkeoiaaDirties
import Derived.Test.YtacnieopbkeoiaaLift2
namespace Go.Proofs
open Go Go.Ev Go.RowKit
set_option linter.unusedVariables false
set_option linter.unusedSimpArgs false
/-- a slice of records that is handed in -/
theorem recs_list {W : World} {xp : Option Addr} {l : Nat} {g : Nat → List Value} (h : Sl W 19 xp l g) (hf : ∀ i, i < l → Fits recKs (g i)) : ∃ rs : List Rec, SlL recLay W xp l rs ∧ ∀ r ∈ rs, RecOk r := by
  obtain ⟨rf, h1, h2⟩ := recs_of h hf
  refine ⟨(List.range l).map rf, ⟨by simp, fun i x hi => ?_⟩, fun r hr => ?_⟩
  · have hlt : i < l := by have := (List.getElem?_eq_some_iff.1 hi).1; simpa using this
    have : x = rf i := by simp [hlt] at hi; exact hi.symm
    subst this
    obtain ⟨_, b, o, hp, hc⟩ := h1 i hlt
    exact ⟨b, o, hp, fun j hj => hc j hj⟩
  · obtain ⟨i, hi, rfl⟩ := List.mem_map.1 hr
    exact h2 i (List.mem_range.1 hi)
theorem total_sum (rss : List (List Rec)) : total rss = (rss.map List.length).sum := by unfold total; rw [List.length_flatten]
theorem lists_list {W : World} {xp : Option Addr} {l : Nat} {Q : Nat → Option Addr × Nat × Nat} {g : Nat → Nat → List Value} (h : Sl W 1 xp l (fun i => [.slice (Q i).1 (Q i).2.1 (Q i).2.2]))
    (hf : ∀ i, i < l → (Q i).2.1 ≤ (Q i).2.2 ∧ (Q i).2.2 ≤ maxLen ∧ Sl W 19 (Q i).1 (Q i).2.1 (g i) ∧ ∀ j, j < (Q i).2.1 → Fits recKs (g i j)) :
    ∃ rss : List (List Rec), ListsL W xp l rss ∧ (∀ rs ∈ rss, ∀ r ∈ rs, RecOk r) ∧ l + total rss = ((List.range l).map fun i => (Q i).2.1 + 1).sum := by
  obtain ⟨F, hF⟩ := Deep.choose_lt (α := List Rec) (n := l) (p := fun i rs => SlL recLay W (Q i).1 (Q i).2.1 rs ∧ ∀ r ∈ rs, RecOk r) fun i hi => recs_list (hf i hi).2.2.1 (hf i hi).2.2.2
  refine ⟨(List.range l).map F, ⟨(List.range l).map Q, ⟨by simp, fun i x hi => ?_⟩, by simp, fun i P rs hi hr => ?_⟩, fun rs hr => ?_, ?_⟩
  · have hlt : i < l := by have := (List.getElem?_eq_some_iff.1 hi).1; simpa using this
    have : x = Q i := by simp [hlt] at hi; exact hi.symm
    subst this
    obtain ⟨_, b, o, hp, hc⟩ := h i hlt
    exact ⟨b, o, hp, fun j hj => hc j hj⟩
  · have hlt : i < l := by have := (List.getElem?_eq_some_iff.1 hi).1; simpa using this
    have e1 : P = Q i := by simp [hlt] at hi; exact hi.symm
    have e2 : rs = F i := by simp [hlt] at hr; exact hr.symm
    subst e1 e2
    exact (hF i hlt).1
  · obtain ⟨i, hi, rfl⟩ := List.mem_map.1 hr
    exact (hF i (List.mem_range.1 hi)).2
  · rw [total_sum, List.map_map]
    have e : ((List.range l).map fun i => (Q i).2.1 + 1) = (List.range l).map fun i => (F i).length + 1 := List.map_congr_left fun i hi => by rw [(hF i (List.mem_range.1 hi)).1.1]
    rw [e]
    have : ∀ n, ((List.range n).map fun i => (F i).length + 1).sum = n + ((List.range n).map (List.length ∘ F)).sum := by
      intro n
      induction n with
      | zero => rfl
      | succ n ih => rw [List.range_succ, List.map_append, List.sum_append, ih, List.map_append, List.sum_append]; simp; omega
    rw [this]
end Go.Proofs
