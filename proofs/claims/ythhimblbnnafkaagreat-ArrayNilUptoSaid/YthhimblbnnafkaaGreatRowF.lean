/-
  APPEND, AND WHERE THE ROW LIES THEN: where it lay, or in a new block. No program is named here.
-/
import Derived.Test.YthhimblbnnafkaaGreatRow
import Derived.Deep.DeepAppendWide
import Derived.Laws.OwnMore
import Derived.Laws.Append
namespace Go.Ev
open Go
set_option linter.unusedSimpArgs false
set_option linter.unusedVariables false
section
variable {P : Program} {α : Type} {L : Lay α} {t e : TypeId} {bytes : Nat} {w : World} {base : Nat} {p : Option Addr} {l c : Nat} {xs : List α}
/-- 'append(xs, ys...)', with at least one y -/
theorem run_appendF (T : LayT P L t e bytes) (h : OwnL L w base e p l c xs) {p2 : Option Addr} {l2 c2 : Nat} {ys : List α} (h2 : SlL L w p2 l2 ys) {ty : TypeId}
    (hl : ((l + l2) + (l + l2) / 4 + 192) * bytes ≤ 281474976710656) (hm : l + l2 ≤ maxLen) (hbase : base ≤ w.heap.size) :
    ∃ p' c' w', (Builtin.append_ #[t, t] ty #[.slice p l c, .slice p2 l2 c2]).run P w = .ok (.slice p' (l + l2) c') w' ∧ OwnL L w' base e p' (l + l2) c' (xs ++ ys) ∧ Keep (fun k => p = some ⟨k, 0, none⟩) w w' ∧ (p' = p ∨ p' = some ⟨w.heap.size, 0, none⟩) := by
  obtain ⟨p', c', w', hr, ho, hk⟩ := run_appendL (P := P) (ty := ty) (c2 := c2) T h h2 hl hm hbase
  refine ⟨p', c', w', hr, ho, hk, ?_⟩
  obtain ⟨i, z, hi, hz, hsize, hby, hzs⟩ := T.info
  have h63 : maxLen ≤ 9223372036854775807 := by decide
  have hpos := L.pos
  by_cases h0 : 0 < l2
  · obtain ⟨b, o, rfl, hc⟩ := h2.cells h0
    have hnl : (L.rows ys).length = l2 * i.size := by rw [L.rows_len, h2.1, hsize]
    have hnews : ∀ j v, (L.rows ys)[j]? = some v → w.cell? ((⟨b, o, none⟩ : Addr).add j) = some v := fun j u hu => by rw [add_add]; exact hc j u hu
    have h1 : ∀ u ∈ L.rows ys, u.oneCell' = true := fun u hu => oneCell_of (L.rows_one ys u hu)
    rcases Own.cases h with ⟨rfl, rfl, rfl, _⟩ | ⟨g, cur, rfl, hbg, hg, hle, hcm, hs, ht⟩
    · right
      have hb := hl
      rw [Nat.zero_add] at hb
      have h48 : l2 * i.bytes ≤ 281474976710656 := by
        rw [hby]
        exact Nat.le_trans (Nat.mul_le_mul_right _ (by omega)) hb
      have := run_append_nil (P := P) w t ty e i z T.under hi hz ⟨b, o, none⟩ l2 c2 (L.rows ys) hnl hnews h0 (by omega) h48
      rw [this] at hr
      simp only [Result.ok.injEq, Value.slice.injEq] at hr
      exact hr.1.1.symm
    · by_cases hroom : l + l2 ≤ c
      · left
        obtain ⟨w2, hr2, _⟩ := run_append_fits (P := P) w base t ty e i L.size T.under hi hsize g l c (L.rows xs) h ⟨b, o, none⟩ l2 c2 (L.rows ys) (by rw [← hsize]; exact hnl) hnews h1 hroom
        rw [hr2] at hr
        simp only [Result.ok.injEq, Value.slice.injEq] at hr
        exact hr.1.1.symm
      · right
        have hfit : Builtin.nextslicecap (l + l2) c * i.bytes ≤ 281474976710656 := growslice_fits_wide (by omega) (by rw [hby]; exact hl)
        have holds : ∀ j v, (L.rows xs)[j]? = some v → w.cell? ((⟨g, 0, none⟩ : Addr).add j) = some v := by
          intro j v hv
          rw [add_add, Nat.zero_add, cell_of hg]
          have hj := (List.getElem?_eq_some_iff.1 hv).1
          rw [← ht] at hv hj
          rw [List.length_take] at hj
          rw [List.getElem?_take_of_lt (by omega), Array.getElem?_toList] at hv
          exact hv
        have hlx := OwnL.length h
        have := run_append_grow (P := P) w t ty e i z T.under hi hz ⟨g, 0, none⟩ l c (L.rows xs) (by rw [L.rows_len, ← hlx, hsize]) holds ⟨b, o, none⟩ l2 c2 (L.rows ys) hnl hnews (by omega) (by omega) hfit
        rw [this] at hr
        simp only [Result.ok.injEq, Value.slice.injEq] at hr
        exact hr.1.1.symm
  · have hz0 : l2 = 0 := by omega
    subst hz0
    have hsrc : Src P i.size t (.slice p2 0 c2) 0 [] w := by
      cases p2 with
      | none => exact Src.ofNil (e' := e) w T.under c2
      | some a => exact Src.ofSlice (e' := e) w T.under a 0 c2 [] (by simp) (fun j u h => by simp at h) (fun u h => by simp at h)
    have := run_append_nothing (P := P) w t t ty e i T.under hi p l c (OwnL.cap h).1 _ hsrc
    rw [this] at hr
    simp only [Result.ok.injEq, Value.slice.injEq] at hr
    exact Or.inl hr.1.1.symm
end
end Go.Ev
