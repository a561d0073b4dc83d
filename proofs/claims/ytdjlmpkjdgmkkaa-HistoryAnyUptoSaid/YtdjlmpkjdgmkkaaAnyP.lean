/-
  HistoryAny: the plain law of writes that all overlap, and of writes one behind the other.
-/
import Derived.Test.YtdjlmpkjdgmkkaaStepsW
import Derived.Test.YtdjlmpkjdgmkkaaRefLast
import Derived.Test.YtdjlmpkjdgmkkaaFAny
namespace Go.Proofs
open Go Go.Ev Go.RowKit
set_option linter.unusedSimpArgs false
set_option linter.unusedVariables false
set_option maxRecDepth 100000

def vY (ys : List Int) (i : Nat) : Sec := sec [ys.getD i 0, 77]
def ovE (ys : List Int) (i : Nat) : Evt := ⟨true, vY ys i, (i : Int), 100⟩
def roE (ys : List Int) (i : Nat) : Evt := ⟨true, vY ys i, 2 * (i : Int), 2 * (i : Int) + 1⟩
def ovL (ys : List Int) (j : Nat) : List Evt := (List.range j).map (ovE ys)
def roL (ys : List Int) (j : Nat) : List Evt := (List.range j).map (roE ys)
section
variable {ys : List Int} {start : Sec}
theorem range_get {α : Type} {f : Nat → α} {j i : Nat} {x : α} (h : ((List.range j).map f)[i]? = some x) : i < j ∧ x = f i := by
  have hi : i < j := by have := (List.getElem?_eq_some_iff.1 h).1; simpa using this
  refine ⟨hi, ?_⟩
  rw [List.getElem?_map, List.getElem?_range hi] at h
  exact (Option.some.inj h).symm
theorem range_at {α : Type} {f : Nat → α} {j i : Nat} (hi : i < j) : ((List.range j).map f)[i]? = some (f i) := by rw [List.getElem?_map, List.getElem?_range hi]; rfl
theorem range_getD {f : Nat → Evt} {j i : Nat} (hi : i < j) : ((List.range j).map f).getD i default = f i := by rw [List.getD_eq_getElem?_getD, range_at hi]; rfl
theorem vY_ok (hy : Bytes ys) {i : Nat} (hi : i < ys.length) : SecOk (vY ys i) := by
  have := bytes_at hy hi
  refine sec_ok fun x hx => ?_
  simp only [List.mem_cons, List.not_mem_nil, or_false] at hx
  omega
theorem ovL_ok (hy : Bytes ys) {j : Nat} (hj : j ≤ ys.length) (h8 : j ≤ 8) : ∀ x ∈ ovL ys j, EvOk x := by
  intro x hx
  obtain ⟨i, hi⟩ := List.mem_iff_getElem?.1 hx
  obtain ⟨h1, rfl⟩ := range_get hi
  exact ⟨vY_ok hy (by omega), by show _ ≤ (i : Int) ∧ (i : Int) ≤ _; omega, show (-9223372036854775808 : Int) ≤ 100 ∧ (100 : Int) ≤ 9223372036854775807 by decide⟩
theorem roL_ok (hy : Bytes ys) {j : Nat} (hj : j ≤ ys.length) (h8 : j ≤ 8) : ∀ x ∈ roL ys j, EvOk x := by
  intro x hx
  obtain ⟨i, hi⟩ := List.mem_iff_getElem?.1 hx
  obtain ⟨h1, rfl⟩ := range_get hi
  exact ⟨vY_ok hy (by omega), by show _ ≤ 2 * (i : Int) ∧ 2 * (i : Int) ≤ _; omega, by show _ ≤ 2 * (i : Int) + 1 ∧ 2 * (i : Int) + 1 ≤ _; omega⟩
theorem ovL_chk {j : Nat} (h8 : j ≤ 8) : chk (ovL ys j) = true := by
  rw [chk_iff (by simp [ovL]; omega)]
  intro i x h
  obtain ⟨h1, rfl⟩ := range_get h
  unfold chkE ovE
  simp only [Bool.and_eq_true, Bool.or_eq_true, decide_eq_true_eq]
  omega
theorem roL_chk {j : Nat} (h8 : j ≤ 8) : chk (roL ys j) = true := by
  rw [chk_iff (by simp [roL]; omega)]
  intro i x h
  obtain ⟨h1, rfl⟩ := range_get h
  unfold chkE roE
  simp only [Bool.and_eq_true, Bool.or_eq_true, decide_eq_true_eq]
  omega
theorem seq_roL (j : Nat) : Seq (roL ys j) := by
  intro i x h
  obtain ⟨_, rfl⟩ := range_get h
  exact ⟨rfl, rfl⟩
theorem ro_holds (n : Nat) (v : Sec) : Holds21 (roL ys n) start v ↔ v = if n = 0 then start else vY ys (n - 1) := by
  rw [seq_holds (seq_roL n)]
  have hl : (roL ys n).length = n := by simp [roL]
  have hr : Right (roL ys n) start (roL ys n).length := by
    intro i hi hw
    rw [hl] at hi
    have : (roL ys n).getD i default = roE ys i := range_getD hi
    rw [this] at hw; cases hw
  have hlw : cur (roL ys n) start (lw (roL ys n) (roL ys n).length) = if n = 0 then start else vY ys (n - 1) := by
    rw [hl]
    cases n with
    | zero => rfl
    | succ m =>
      have hg : (roL ys (m + 1)).getD m default = roE ys m := range_getD (by omega)
      unfold lw
      rw [hg, if_pos (show (roE ys m).wr = true from rfl)]
      unfold cur
      rw [if_pos (by omega), Int.toNat_natCast, hg]
      simp [roE]
  rw [hlw]
  exact ⟨fun h => h.2, fun h => ⟨hr, h⟩⟩
theorem ov_free {n : Nat} (h8 : n ≤ 8) (d : Nat) {i : Nat} (hi : i < n) : ¬ Blk (ovL ys n) d i := by
  rintro ⟨j, x, hx, _, _, h3⟩
  obtain ⟨_, rfl⟩ := range_get hx
  have hg : (ovL ys n).getD i default = ovE ys i := range_getD hi
  rw [hg] at h3
  have h3 : (100 : Int) < (i : Int) := h3
  omega
theorem ov_path {n l : Nat} (h8 : n ≤ 8) : ∀ k, k ≤ n → ∃ s, Reach (ovL ys n) start s ∧ ∀ i, s.1.testBit i = (decide (i < k) && !decide (i = l))
  | 0, _ => ⟨(0, -1), Reach.start, fun i => by simp⟩
  | k + 1, hk => by
    obtain ⟨s, hr, hb⟩ := ov_path (l := l) h8 k (by omega)
    by_cases hkl : k = l
    · refine ⟨s, hr, fun i => ?_⟩
      rw [hb]
      by_cases h1 : i = l
      · simp [h1]
      · simp only [h1, decide_false, Bool.not_false, Bool.and_true]
        by_cases h2 : i < k
        · simp [h2, show i < k + 1 by omega]
        · simp [h2, show ¬ i < k + 1 by omega]
    · have hm : May (ovL ys n) start s k := ⟨ovE ys k, range_at (by omega), by rw [hb]; simp, Or.inl rfl, ov_free h8 _ (by omega)⟩
      refine ⟨_, hr.step hm, fun i => ?_⟩
      show (s.1 ||| 2 ^ k).testBit i = _
      rw [Nat.testBit_or, hb, Nat.testBit_two_pow]
      by_cases h1 : k = i
      · subst h1; simp [hkl]
      · by_cases h2 : i < k
        · simp [h1, h2, show i < k + 1 by omega]
        · simp [h1, h2, show ¬ i < k + 1 by omega]
theorem ov_holds {n : Nat} (h8 : n ≤ 8) (hn : 0 < n) (v : Sec) : Holds21 (ovL ys n) start v ↔ ∃ l, l < n ∧ v = vY ys l := by
  have hl : (ovL ys n).length = n := by simp [ovL]
  constructor
  · rintro ⟨s, hr, hc, rfl⟩
    have hinv : ∀ s, Reach (ovL ys n) start s → s.2 < 0 → s.1 = 0 := by
      intro s hs
      cases hs with
      | start => intro _; rfl
      | step hs hm =>
        rename_i s i
        intro h
        obtain ⟨x, hx, _⟩ := hm
        obtain ⟨hi, rfl⟩ := range_get hx
        have hg : (ovL ys n).getD i default = ovE ys i := range_getD hi
        unfold nxt at h
        rw [hg] at h
        have h : (i : Int) < 0 := h
        omega
    have hsm := hr.small
    have h0 : 0 ≤ s.2 := by
      apply Classical.byContradiction
      intro h
      have hz := hinv s hr (by omega)
      have := hc 0 (ovE ys 0) (range_at hn) (show (0 : Int) ≤ 100 by decide)
      rw [hz] at this
      simp at this
    refine ⟨s.2.toNat, by omega, ?_⟩
    have hg : (ovL ys n).getD s.2.toNat default = ovE ys s.2.toNat := range_getD (by omega)
    unfold cur
    rw [if_pos h0, hg]; rfl
  · rintro ⟨l, hln, rfl⟩
    obtain ⟨s, hr, hb⟩ := ov_path (ys := ys) (start := start) (l := l) h8 n (Nat.le_refl _)
    have hm : May (ovL ys n) start s l := ⟨ovE ys l, range_at hln, by rw [hb]; simp, Or.inl rfl, ov_free h8 _ hln⟩
    have hg : (ovL ys n).getD l default = ovE ys l := range_getD hln
    refine ⟨_, hr.step hm, fun i x hx _ => ?_, ?_⟩
    · obtain ⟨hi, _⟩ := range_get hx
      show (s.1 ||| 2 ^ l).testBit i = true
      rw [Nat.testBit_or, hb, Nat.testBit_two_pow]
      by_cases h : i = l
      · simp [h]
      · simp [hi, h]
    · unfold nxt
      rw [hg]
      show vY ys l = cur _ _ (l : Int)
      unfold cur
      rw [if_pos (by omega), Int.toNat_natCast, hg]; rfl
theorem ov_holds0 (v : Sec) : Holds21 (ovL ys 0) start v ↔ v = start := by
  constructor
  · rintro ⟨s, hr, _, rfl⟩
    have := hr.small
    unfold cur
    rw [if_neg (by have h : (ovL ys 0).length = 0 := rfl; rw [h] at this; omega)]
  · rintro rfl
    exact ⟨(0, -1), Reach.start, fun i x hx => by simp [ovL] at hx, rfl⟩

/-! ### the values, each once -/
def dis (ys : List Int) : Nat → List Int
  | 0 => []
  | j + 1 => if ys.getD j 0 ∈ dis ys j then dis ys j else dis ys j ++ [ys.getD j 0]
theorem dis_mem : ∀ (j : Nat) (y : Int), y ∈ dis ys j ↔ ∃ i, i < j ∧ ys.getD i 0 = y
  | 0, y => by simp [dis]
  | j + 1, y => by
    have ih := dis_mem j
    unfold dis
    by_cases h : ys.getD j 0 ∈ dis ys j
    · rw [if_pos h, ih]
      constructor
      · rintro ⟨i, h1, h2⟩; exact ⟨i, by omega, h2⟩
      · rintro ⟨i, h1, h2⟩
        by_cases hi : i = j
        · subst hi; rw [h2] at h; exact (ih y).1 h
        · exact ⟨i, by omega, h2⟩
    · rw [if_neg h, List.mem_append, ih, List.mem_singleton]
      constructor
      · rintro (⟨i, h1, h2⟩ | h1)
        · exact ⟨i, by omega, h2⟩
        · exact ⟨j, by omega, h1.symm⟩
      · rintro ⟨i, h1, h2⟩
        by_cases hi : i = j
        · subst hi; exact Or.inr h2.symm
        · exact Or.inl ⟨i, by omega, h2⟩
theorem dis_nodup : ∀ j, (dis ys j).Nodup
  | 0 => by simp [dis]
  | j + 1 => by
    have ih := dis_nodup j
    unfold dis
    by_cases h : ys.getD j 0 ∈ dis ys j
    · rw [if_pos h]; exact ih
    · rw [if_neg h, List.nodup_append]
      refine ⟨ih, by simp, fun a ha b hb e => ?_⟩
      simp only [List.mem_singleton] at hb
      subst hb; subst e
      exact h ha
def wY (y : Int) : Sec := sec [y, 77]
theorem wY_inj {y z : Int} (h : wY y = wY z) : y = z := congrFun h 0
theorem dis_len {vs : List Sec} {n : Nat} (hs : Srt vs) (hm : ∀ v, v ∈ vs ↔ ∃ l, l < n ∧ v = vY ys l) : vs.length = (dis ys n).length := by
  have hn : vs.Nodup := hs.imp fun {a b} h e => by rw [e, cmpS_self] at h; omega
  have hd : ((dis ys n).map wY).Nodup := by
    unfold List.Nodup
    rw [List.pairwise_map]
    exact (dis_nodup n).imp fun {a b} h e => h (wY_inj e)
  have hmem : ∀ v, v ∈ (dis ys n).map wY ↔ v ∈ vs := by
    intro v
    rw [hm, List.mem_map]
    constructor
    · rintro ⟨y, hy, rfl⟩
      obtain ⟨i, h1, rfl⟩ := (dis_mem n y).1 hy
      exact ⟨i, h1, rfl⟩
    · rintro ⟨l, h1, rfl⟩
      exact ⟨_, (dis_mem n _).2 ⟨l, h1, rfl⟩, rfl⟩
  have h1 := @nodup_len Sec (fun a b => Classical.propDecidable (a = b)) vs ((dis ys n).map wY) hn fun v hv => (hmem v).2 hv
  have h2 := @nodup_len Sec (fun a b => Classical.propDecidable (a = b)) ((dis ys n).map wY) vs hd fun v hv => (hmem v).1 hv
  rw [List.length_map] at h1 h2
  omega
theorem wY_lt {y z : Int} (hy : 0 ≤ y ∧ y ≤ 255) (hz : 0 ≤ z ∧ z ≤ 255) (h : cmpS (wY y) (wY z) < 0) : y < z := by
  have ok : ∀ x : Int, 0 ≤ x ∧ x ≤ 255 → SecOk (wY x) := fun x hx => sec_ok fun u hu => by
    simp only [List.mem_cons, List.not_mem_nil, or_false] at hu
    omega
  have hne : y ≠ z := fun e => by subst e; rw [cmpS_self] at h; omega
  exact (cmpS_at (ok y hy) (ok z hz) (k := 0) (by decide) (fun j hj => by omega) hne).1 h
end
end Go.Proofs
