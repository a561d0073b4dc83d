/-
  HistoryWider, the walk and the plain law: with later ends, or with writes that are not answered, what was orderly stays so.
-/
import Derived.Test.YtdjlmpkjdgmkkaaEvsA
namespace Go.Proofs
open Go Go.Ev Go.RowKit
set_option linter.unusedSimpArgs false
set_option linter.unusedVariables false
set_option maxRecDepth 100000

/-! ### the plain law -/
structure RelE (x y : Evt) : Prop where
  wr : y.wr = x.wr
  val : y.val = x.val
  fr : y.fr = x.fr
  to : 0 ≤ y.to → 0 ≤ x.to ∧ x.to ≤ y.to
  rd : 0 ≤ x.to → y.to < 0 → x.wr = true
theorem ord_mono {A B : List Evt} {start : Sec} (hlen : A.length ≤ B.length) (h : ∀ (i : Nat) x y, A[i]? = some x → B[i]? = some y → RelE x y) (h2 : ∀ (i : Nat) y, A.length ≤ i → B[i]? = some y → y.to < 0) (ho : Ord A start) : Ord B start := by
  have hget : ∀ i, i < A.length → RelE (A.getD i default) (B.getD i default) := fun i hi => h i _ _ (at_lt hi) (at_lt (by omega))
  have hcur : ∀ l : Int, l < A.length → cur B start l = cur A start l := by
    intro l hl
    unfold cur
    split
    · exact (hget _ (by omega)).val
    · rfl
  have hblk : ∀ d i, i < A.length → Blk B d i → Blk A d i := by
    rintro d i hi ⟨j, y, hy, h3, h4, h5⟩
    by_cases hj : j < A.length
    · have hr := h j _ y (at_lt hj) hy
      refine ⟨j, _, at_lt hj, h3, (hr.to h4).1, ?_⟩
      have := (hget i hi).fr
      have := (hr.to h4).2
      omega
    · have := h2 j y (by omega) hy
      omega
  have hr : ∀ s, Reach A start s → Reach B start s := by
    intro s hs
    induction hs with
    | start => exact Reach.start
    | step hs hm ih =>
      rename_i s i
      obtain ⟨x, hx, h3, h4, h5⟩ := id hm
      have hi := (List.getElem?_eq_some_iff.1 hx).1
      have hr := h i x _ hx (at_lt (by omega))
      have hsm := hs.small
      have hmB : May B start s i := by
        refine ⟨_, at_lt (by omega), h3, ?_, fun hb => h5 (hblk _ _ hi hb)⟩
        rcases h4 with h4 | ⟨h4, h6⟩
        · left; rw [hr.wr]; exact h4
        · by_cases h7 : 0 ≤ (B.getD i default).to
          · right
            refine ⟨h7, ?_⟩
            rw [hr.val, hcur _ hsm.2.2]; exact h6
          · left
            rw [hr.wr]
            exact hr.rd h4 (by omega)
      have hn : nxt B s i = nxt A s i := by
        unfold nxt
        rw [(hget i hi).wr]
      rw [← hn]
      exact ih.step hmB
  obtain ⟨s, hs, hc⟩ := ho
  refine ⟨s, hr s hs, fun i y hy h0 => ?_⟩
  by_cases hi : i < A.length
  · exact hc i _ (at_lt hi) ((h i _ y (at_lt hi) hy).to h0).1
  · have := h2 i y (by omega) hy
    omega
def wideE (ys : List Int) (i : Nat) (x : Evt) : Evt :=
  ⟨x.wr, x.val, x.fr, if x.wr = true ∧ i < ys.length ∧ Int.tmod (ys.getD i 0) 7 = 0 then -1 else if 0 ≤ x.to ∧ x.to < 1000000 ∧ i < ys.length then x.to + Int.tmod (ys.getD i 0) 5 else x.to⟩
def Bytes (ys : List Int) : Prop := ∀ y ∈ ys, 0 ≤ y ∧ y ≤ 255
theorem bytes_at {ys : List Int} (h : Bytes ys) {i : Nat} (hi : i < ys.length) : 0 ≤ ys.getD i 0 ∧ ys.getD i 0 ≤ 255 := by
  rw [List.getD_eq_getElem?_getD, List.getElem?_eq_getElem hi]
  exact h _ (List.getElem_mem _)
theorem tmod_lt {a : Int} (h : 0 ≤ a) {n : Int} (hn : 0 < n) : 0 ≤ Int.tmod a n ∧ Int.tmod a n < n := ⟨Int.tmod_nonneg n h, Int.tmod_lt_of_pos a hn⟩
theorem rel_wide {ys : List Int} (hy : Bytes ys) (i : Nat) (x : Evt) : RelE x (wideE ys i x) := by
  refine ⟨rfl, rfl, rfl, ?_, ?_⟩
  · intro h
    unfold wideE at h ⊢
    simp only at h ⊢
    split at h
    · omega
    · rename_i h1
      rw [if_neg h1]
      split at h
      · rename_i h2
        have := tmod_lt (bytes_at hy h2.2.2).1 (n := 5) (by decide)
        rw [if_pos h2]
        omega
      · rename_i h2
        rw [if_neg h2]
        omega
  · intro h0 h
    unfold wideE at h
    simp only at h
    split at h
    · rename_i h1; exact h1.1
    · split at h
      · rename_i h2
        have := tmod_lt (bytes_at hy h2.2.2).1 (n := 5) (by decide)
        omega
      · omega
theorem ok_wide {ys : List Int} (hy : Bytes ys) (i : Nat) {x : Evt} (h : EvOk x) : EvOk (wideE ys i x) := by
  refine ⟨h.sec, h.fr, ?_⟩
  have := h.to
  unfold wideE
  simp only
  split
  · omega
  · split
    · rename_i h2
      have := tmod_lt (bytes_at hy h2.2.2).1 (n := 5) (by decide)
      omega
    · omega
def wideL (ys : List Int) (evs : List Evt) (j : Nat) : List Evt := (List.range j).map fun i => wideE ys i (evs.getD i default)
theorem wide_get {ys : List Int} {evs : List Evt} {j i : Nat} {y : Evt} (h : (wideL ys evs j)[i]? = some y) : i < j ∧ y = wideE ys i (evs.getD i default) := by
  unfold wideL at h
  rw [List.getElem?_map] at h
  have hi : i < j := by
    by_cases hi : i < j
    · exact hi
    · rw [List.getElem?_eq_none (by simp; omega)] at h; cases h
  rw [List.getElem?_eq_getElem (by simpa using hi)] at h
  simp at h
  exact ⟨hi, h.symm⟩
@[simp] theorem len_wide (ys : List Int) (evs : List Evt) (j : Nat) : (wideL ys evs j).length = j := by simp [wideL]
theorem wide_ok {ys : List Int} (hy : Bytes ys) {evs : List Evt} (hok : ∀ x ∈ evs, EvOk x) {j : Nat} (hj : j ≤ evs.length) : ∀ y ∈ wideL ys evs j, EvOk y := by
  intro y hm
  obtain ⟨i, hi⟩ := List.mem_iff_getElem?.1 hm
  obtain ⟨h1, rfl⟩ := wide_get hi
  exact ok_wide hy i (hok _ (List.mem_of_getElem? (at_lt (by omega))))
theorem chkE_rel {x y : Evt} (h : RelE x y) (hc : chkE x = true) : chkE y = true := by
  unfold chkE at hc ⊢
  simp only [Bool.and_eq_true, Bool.or_eq_true, decide_eq_true_eq] at hc ⊢
  have := h.fr
  refine ⟨by omega, ?_⟩
  by_cases h0 : y.to < 0
  · exact Or.inl h0
  · have := h.to (by omega)
    right; omega
theorem wide_chk {ys : List Int} (hy : Bytes ys) {evs : List Evt} (hc : chk evs = true) : chk (wideL ys evs evs.length) = true := by
  have hl := chk_len hc
  rw [chk_iff (by simpa using hl)]
  intro i y h
  obtain ⟨h1, rfl⟩ := wide_get h
  exact chkE_rel (rel_wide hy i _) ((chk_iff hl).1 hc i _ (at_lt h1))
theorem wide_ord {ys : List Int} (hy : Bytes ys) {evs : List Evt} {start : Sec} (h : Ord evs start) : Ord (wideL ys evs evs.length) start := by
  refine ord_mono (by simp) (fun i x y hx hy' => ?_) (fun i y hi hy' => ?_) h
  · obtain ⟨h1, rfl⟩ := wide_get hy'
    rw [at_lt h1] at hx
    cases hx
    exact rel_wide hy i _
  · have := (wide_get hy').1
    omega
theorem more_ord {ws : List Evt} {z : Evt} {start : Sec} (hz : z.to < 0) (h : Ord ws start) : Ord (ws ++ [z]) start := by
  refine ord_mono (by simp) (fun i x y hx hy => ?_) (fun i y hi hy => ?_) h
  · have hi := (List.getElem?_eq_some_iff.1 hx).1
    rw [List.getElem?_append_left hi, hx] at hy
    cases hy
    exact ⟨rfl, rfl, rfl, fun h => ⟨h, Int.le_refl _⟩, fun h1 h2 => by omega⟩
  · rw [List.getElem?_append_right hi] at hy
    have := List.mem_of_getElem? hy
    rw [List.mem_singleton] at this
    rw [this]; exact hz
theorem more_chk {ws : List Evt} {z : Evt} (hc : chk ws = true) (hl : ws.length < 10) (hz : chkE z = true) : chk (ws ++ [z]) = true := by
  rw [chk_iff (by simp; omega)]
  intro i y hy
  have hm := List.mem_of_getElem? hy
  rcases List.mem_append.1 hm with h | h
  · obtain ⟨k, hk⟩ := List.mem_iff_getElem?.1 h
    exact (chk_iff (by omega)).1 hc k y hk
  · rw [List.mem_singleton.1 h]; exact hz
end Go.Proofs
