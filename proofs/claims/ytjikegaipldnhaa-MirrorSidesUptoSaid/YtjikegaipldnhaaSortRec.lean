/-
  SORTING RECORDS: slices.SortFunc with the program's own comparison leaves the same records, by rising version and sector.
-/
import Derived.Test.YtjikegaipldnhaaRec
import Derived.Test.YtjikegaipldnhaaSort
namespace Go.Proofs
open Go Go.Ev Go.Sort
set_option linter.unusedSimpArgs false
set_option linter.unusedVariables false
set_option maxRecDepth 100000

theorem flatMap_rows (d : List Rec) : d.flatMap recL = (d.map recL).flatten := by rw [List.flatMap_def]
theorem rows_len (d : List Rec) : ∀ r ∈ d.map recL, r.length = 19 := by
  intro r hr
  obtain ⟨x, _, rfl⟩ := List.mem_map.1 hr
  rfl
theorem get_flat {d : Array Rec} {t : Nat} (h : t < d.size * 19) : (d.toList.flatMap recL)[t]? = some ((flatK recL 19 d)[t]!) := by
  rw [get_flatK _ _ _ _ h]
  have h1 : t / 19 < d.size := by omega
  have h2 : t % 19 < 19 := by omega
  have hg := get_rows (rows_len d.toList) (i := t / 19) (r := recL d[t / 19]) (by simp [h1]) (t % 19) h2
  rw [flatMap_rows]
  have e : t / 19 * 19 + t % 19 = t := by omega
  rw [e] at hg
  rw [hg, getElem!_pos d (t / 19) h1]
  have h3 : t % 19 < (recL d[t / 19]).length := by simpa using h2
  rw [List.getElem?_eq_getElem h3, getElem!_pos (recL d[t / 19]) (t % 19) h3]

theorem swk_own {w : World} {base : Nat} {T : TypeId} {b l c : Nat} {xs : List Value} (h : Own w base T 19 (some ⟨b, 0, none⟩) l c xs) (d : Array Rec) (hd : d.size = l) (n : Nat) (os : Array Obj) :
    Own (sortWorldK recL 19 w b 0 n d os) base T 19 (some ⟨b, 0, none⟩) l c (d.toList.flatMap recL) ∧ Keep (fun k => k = b) w (sortWorldK recL 19 w b 0 n d os) := by
  rcases h.cases with ⟨h, _⟩ | ⟨b', cur, hp, hb, hg, hle, hm, hs, ht⟩
  · cases h
  cases hp
  have hbs := hg.lt
  have hh : ∀ k, k < w.heap.size → (sortWorldK recL 19 w b 0 n d os).heap[k]? = (if b = k then (w.heap[k]?).map (onCells (putCells id 0 (flatK recL 19 d))) else w.heap[k]?) := by
    intro k hk
    show ((w.heap.modify b (onCells (putCells id 0 (flatK recL 19 d)))) ++ os)[k]? = _
    rw [Array.getElem?_append_left (by simpa using hk), Array.getElem?_modify]
  refine ⟨Own.mk (cur := putCells id 0 (flatK recL 19 d) cur) hb ?_ hle hm (by simp [putCells, hs]) ?_, ⟨rfl, rfl, rfl, ?_, fun k hk hS => ?_⟩⟩
  · unfold Has
    rw [hh b hbs, if_pos rfl]
    unfold Has at hg
    rw [hg]
    rfl
  · apply List.ext_getElem?
    intro i
    by_cases hi : i < l * 19
    · rw [List.getElem?_take_of_lt hi, get_flat (by rw [hd]; exact hi)]
      have hc : i < cur.size := by rw [hs]; have : l * 19 ≤ c * 19 := Nat.mul_le_mul_right _ hle; omega
      rw [Array.getElem?_toList]
      unfold putCells
      rw [Array.getElem?_mapIdx, Array.getElem?_eq_getElem hc]
      simp [hd, hi]
    · rw [List.getElem?_eq_none (by rw [List.length_take]; omega), List.getElem?_eq_none]
      rw [flatMap_rows, length_rows (rows_len _)]
      simp [hd]; omega
  · show w.heap.size ≤ ((w.heap.modify b _) ++ os).size
    simp
  · rw [hh k hk, if_neg (fun e => hS e.symm)]

theorem cmpI_lt {x y : Int} : cmpI x y < 0 ↔ x < y := by unfold cmpI; split <;> (try split) <;> omega
theorem cmpI_z {x y : Int} : cmpI x y = 0 ↔ x = y := by unfold cmpI; split <;> (try split) <;> omega
theorem cmpR_lt {r s : Rec} : cmpR r s < 0 ↔ r.ver < s.ver ∨ r.ver = s.ver ∧ r.lba < s.lba := by
  unfold cmpR
  split
  · rename_i h
    rw [cmpI_lt]
    have : r.ver ≠ s.ver := fun e => h (cmpI_z.2 e)
    omega
  · rename_i h
    have : r.ver = s.ver := cmpI_z.1 (by omega)
    rw [cmpI_lt]; omega
theorem swo_cmpR : SWO (ltOf cmpR) where
  irrefl x := by simp [ltOf, cmpR_lt]
  trans x y z h1 h2 := by simp only [ltOf, decide_eq_true_eq, cmpR_lt] at *; omega
  ntrans x y z h1 h2 := by simp only [ltOf, decide_eq_false_iff_not, cmpR_lt] at *; omega
theorem cmpLays_of {g : Nat} (hg : ∀ (r s : Rec) (w : World), Calls Try.prog g #[.agg (recV r), .agg (recV s)] w fun e w' => e = .returned (.int .i64 (cmpR r s)) ∧ ∃ q os, w' = grow (w.drewN q) os) (blk off size : Nat) (w : World) :
    CmpLays Try.prog g #[] recL 19 cmpR blk off size w := fun m os dk _ x y => hg x y _

/-- slices.SortFunc of records -/
theorem sort_recs {g : Nat} (hg : ∀ (r s : Rec) (w : World), Calls Try.prog g #[.agg (recV r), .agg (recV s)] w fun e w' => e = .returned (.int .i64 (cmpR r s)) ∧ ∃ q os, w' = grow (w.drewN q) os)
    (eg : ∀ args w, (callFunc g args).run Try.prog w = .ok (.enter g args) w) {w : World} {base : Nat} {T : TypeId} {b l c : Nat} {rs : List Rec} (h : Own w base T 19 (some ⟨b, 0, none⟩) l c (rs.flatMap recL)) (hsz : l < 4611686018427387904)
    {R : Value → World → Prop} (hK : ∀ (rs' : List Rec) (w' : World), rs'.Perm rs → rs'.Pairwise (fun r s => ¬ cmpR s r < 0) → Own w' base T 19 (some ⟨b, 0, none⟩) l c (rs'.flatMap recL) → Keep (fun k => k = b) w w' → R (.tuple #[]) w') :
    CallV Try.prog 88 #[.slice (some ⟨b, 0, none⟩) l c, .func (.func g) #[] #[]] w R := by
  have hl : l = rs.length := by
    have := h
    rw [flatMap_rows] at this
    simpa using this.count (rows_len rs) (by decide)
  have hds : rs.toArray.size = l := by simp [hl]
  have hlt := h.lt rfl
  have hH : HoldsK recL 19 w b 0 rs.toArray := by
    intro j hj
    have hj' : j < l * 19 := by simpa [hl] using hj
    rcases h.cases with ⟨h0, _⟩ | ⟨b', cur, hp, hb, hg, _⟩
    · cases h0
    cases hp
    refine ⟨?_, ?_⟩
    · rw [Nat.zero_add, h.cell hj']
      have := get_flat (d := rs.toArray) (t := j) (by rw [hds]; exact hj')
      simpa using this
    · exact frozen_of hg
  have := AnyQ.slices_SortFunc Try.sortRec 19 (by intro w; kernel_rfl) (by intro w; kernel_rfl) recL (fun _ => rfl) one_recL' cmpR swo_cmpR g #[] b 0 c rs.toArray w eg (cmpLays_of hg b 0 _ w) hH hlt.2 (by rw [hds]; exact hsz)
  rw [hds] at this
  refine Calls.mono this fun e w' ⟨he, d', n, os, hp, hs, hw⟩ => ⟨_, he, ?_⟩
  subst hw
  have hd' : d'.size = l := hp.1.trans hds
  obtain ⟨ho, hk⟩ := swk_own h d' hd' n os
  refine hK d'.toList _ ?_ ?_ ho hk
  · have := hp.2.2
    have e1 : d'.extract 0 l = d' := by rw [← hd']; simp
    have e2 : rs.toArray.extract 0 l = rs.toArray := by rw [← hds]; simp
    rw [e1, e2] at this
    simpa using this
  · rw [List.pairwise_iff_getElem]
    intro i j hi hj hij
    have := hs i j (Nat.zero_le _) hij (by simpa [hd'] using hj)
    rw [getElem!_pos d' j (by simpa using hj), getElem!_pos d' i (by simpa using hi)] at this
    simpa [ltOf] using this
end Go.Proofs
