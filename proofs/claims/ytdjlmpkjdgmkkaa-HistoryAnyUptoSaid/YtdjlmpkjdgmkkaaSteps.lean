/-
  HistorySteps: the plain law of what is done one by one, and the walk.
-/
import Derived.Test.YtdjlmpkjdgmkkaaOpens
import Derived.Test.YtdjlmpkjdgmkkaaFSteps
namespace Go.Proofs
open Go Go.Ev Go.RowKit
set_option linter.unusedSimpArgs false
set_option linter.unusedVariables false
set_option maxRecDepth 100000

/-! ### one by one, plain -/
def Seq (evs : List Evt) : Prop := ∀ (i : Nat) x, evs[i]? = some x → x.fr = 2 * (i : Int) ∧ x.to = 2 * (i : Int) + 1
def lw (evs : List Evt) : Nat → Int
  | 0 => -1
  | k + 1 => if (evs.getD k default).wr = true then (k : Int) else lw evs k
def Right (evs : List Evt) (start : Sec) (k : Nat) : Prop := ∀ i, i < k → (evs.getD i default).wr = false → (evs.getD i default).val = cur evs start (lw evs i)
theorem mask_or (k : Nat) : (2 ^ k - 1) ||| 2 ^ k = 2 ^ (k + 1) - 1 := by
  apply Nat.eq_of_testBit_eq
  intro i
  rw [Nat.testBit_or, Nat.testBit_two_pow_sub_one, Nat.testBit_two_pow_sub_one, Nat.testBit_two_pow]
  by_cases h1 : i < k
  · simp [h1, show i < k + 1 by omega]
  · by_cases h2 : k = i
    · simp [h2]
    · simp [h1, h2, show ¬ i < k + 1 by omega]
section seq
variable {evs : List Evt} {start : Sec}
theorem seq_reach (hs : Seq evs) : ∀ k, k ≤ evs.length → Right evs start k → Reach evs start (2 ^ k - 1, lw evs k)
  | 0, _, _ => Reach.start
  | k + 1, hk, hr => by
    have h := seq_reach hs k (by omega) fun i hi => hr i (by omega)
    have hx := at_lt (evs := evs) (i := k) (by omega)
    have hm : May evs start (2 ^ k - 1, lw evs k) k := by
      refine ⟨_, hx, by rw [Nat.testBit_two_pow_sub_one]; simp, ?_, ?_⟩
      · by_cases hw : (evs.getD k default).wr = true
        · exact Or.inl hw
        · exact Or.inr ⟨by rw [(hs k _ hx).2]; omega, hr k (by omega) (by simpa using hw)⟩
      · rintro ⟨j, y, hy, h1, _, h3⟩
        rw [Nat.testBit_two_pow_sub_one] at h1
        have hj : ¬ j < k := by simpa using h1
        rw [(hs j y hy).2, (hs k _ hx).1] at h3
        omega
    have := h.step hm
    unfold nxt at this
    rw [mask_or] at this
    exact this
theorem reach_seq (hs : Seq evs) {s : Stt} (h : Reach evs start s) : ∃ k, k ≤ evs.length ∧ s = (2 ^ k - 1, lw evs k) ∧ Right evs start k := by
  induction h with
  | start => exact ⟨0, by omega, rfl, fun i hi => by omega⟩
  | step h hm ih =>
    obtain ⟨k, hk, rfl, hr⟩ := ih
    rename_i i
    obtain ⟨x, hx, h1, h2, h3⟩ := hm
    have hi := (List.getElem?_eq_some_iff.1 hx).1
    rw [Nat.testBit_two_pow_sub_one] at h1
    have hki : k ≤ i := by
      have : ¬ i < k := by simpa using h1
      omega
    have e : i = k := by
      apply Classical.byContradiction
      intro hne
      have hy := at_lt (evs := evs) (i := k) (by omega)
      refine h3 ⟨k, _, hy, by rw [Nat.testBit_two_pow_sub_one]; simp, by rw [(hs k _ hy).2]; omega, ?_⟩
      rw [(hs k _ hy).2, (hs i _ (at_lt hi)).1]
      omega
    subst e
    rw [at_lt hi] at hx
    cases hx
    refine ⟨i + 1, by omega, ?_, fun j hj hw => ?_⟩
    · unfold nxt
      rw [mask_or]; rfl
    · rcases Nat.lt_succ_iff_lt_or_eq.1 hj with h | h
      · exact hr j h hw
      · subst h
        rcases h2 with h2 | h2
        · rw [h2] at hw; cases hw
        · exact h2.2
theorem seq_cmp (hs : Seq evs) {k : Nat} {l : Int} (hk : k ≤ evs.length) : Cmp evs (2 ^ k - 1, l) ↔ k = evs.length := by
  constructor
  · intro hc
    apply Classical.byContradiction
    intro hne
    have hx := at_lt (evs := evs) (i := k) (by omega)
    have := hc k _ hx (by rw [(hs k _ hx).2]; omega)
    rw [Nat.testBit_two_pow_sub_one] at this
    simp at this
  · rintro rfl i x hx _
    rw [Nat.testBit_two_pow_sub_one]
    simpa using (List.getElem?_eq_some_iff.1 hx).1
theorem seq_ord (hs : Seq evs) : Ord evs start ↔ Right evs start evs.length := by
  constructor
  · rintro ⟨s, hr, hc⟩
    obtain ⟨k, hk, rfl, hright⟩ := reach_seq hs hr
    rw [← (seq_cmp hs hk).1 hc]; exact hright
  · intro h
    exact ⟨_, seq_reach hs _ (Nat.le_refl _) h, (seq_cmp hs (Nat.le_refl _)).2 rfl⟩
theorem seq_holds (hs : Seq evs) (v : Sec) : Holds21 evs start v ↔ Right evs start evs.length ∧ v = cur evs start (lw evs evs.length) := by
  constructor
  · rintro ⟨s, hr, hc, rfl⟩
    obtain ⟨k, hk, rfl, hright⟩ := reach_seq hs hr
    have e := (seq_cmp hs hk).1 hc
    subst e
    exact ⟨hright, rfl⟩
  · rintro ⟨h, rfl⟩
    exact ⟨_, seq_reach hs _ (Nat.le_refl _) h, (seq_cmp hs (Nat.le_refl _)).2 rfl, rfl⟩
end seq

/-! ### the law's events -/
def flipS (f : Sec) : Sec := fun k => if k.val = 15 then ibits .xor .u8 (f 15) 1 else f k
theorem xor_ok : ∀ a : Nat, a < 256 → 0 ≤ ibits .xor .u8 (a : Int) 1 ∧ ibits .xor .u8 (a : Int) 1 ≤ 255 ∧ ibits .xor .u8 (a : Int) 1 ≠ (a : Int) := by decide +kernel
theorem flip_ok {f : Sec} (h : SecOk f) : SecOk (flipS f) := by
  intro k
  unfold flipS
  split
  · have h1 := h 15
    have := xor_ok (f 15).toNat (by omega)
    rw [show (((f 15).toNat : Nat) : Int) = f 15 by omega] at this
    exact ⟨this.1, this.2.1⟩
  · exact h k
theorem flip_ne {f : Sec} (h : SecOk f) : flipS f ≠ f := by
  intro e
  have h0 := congrFun e 15
  have h0 : ibits .xor .u8 (f 15) 1 = f 15 := h0
  have h1 := h 15
  have := xor_ok (f 15).toNat (by omega)
  rw [show (((f 15).toNat : Nat) : Int) = f 15 by omega] at this
  exact this.2.2 h0
section law
variable (start : Sec) (bs : List Bool) (ys : List Int) (lie : Int) (lies : Bool)
def valS (i : Nat) : Sec := if i < ys.length then sec [Int.tmod (ys.getD i 0) 3, 5] else sec []
def nowS : Nat → Sec
  | 0 => start
  | i + 1 => if bs.getD i false = true then valS ys i else nowS i
def lieAt (i : Nat) : Bool := lies && (Int.tmod lie 10 == (i : Int))
def evS (i : Nat) : Evt := if bs.getD i false = true then ⟨true, valS ys i, 2 * (i : Int), 2 * (i : Int) + 1⟩ else ⟨false, if lieAt lie lies i = true then flipS (nowS start bs ys i) else nowS start bs ys i, 2 * (i : Int), 2 * (i : Int) + 1⟩
def evsS (j : Nat) : List Evt := (List.range j).map (evS start bs ys lie lies)
def wrongS : Nat → Bool
  | 0 => false
  | i + 1 => if bs.getD i false = true then wrongS i else if lieAt lie lies i = true then true else wrongS i
variable {start bs ys lie lies}
theorem valS_ok (hy : Bytes ys) (i : Nat) : SecOk (valS ys i) := by
  unfold valS
  split
  · rename_i h
    have := tmod_lt (bytes_at hy h).1 (n := 3) (by decide)
    refine sec_ok fun x hx => ?_
    simp only [List.mem_cons, List.not_mem_nil, or_false] at hx
    omega
  · exact sec_ok (by simp)
theorem nowS_ok (hst : SecOk start) (hy : Bytes ys) : ∀ i, SecOk (nowS start bs ys i)
  | 0 => hst
  | i + 1 => by
    unfold nowS
    split
    · exact valS_ok hy i
    · exact nowS_ok hst hy i
theorem evsS_get {j i : Nat} (hi : i < j) : (evsS start bs ys lie lies j).getD i default = evS start bs ys lie lies i := by
  unfold evsS
  rw [List.getD_eq_getElem?_getD, List.getElem?_map, List.getElem?_range hi]; rfl
theorem evsS_some {j i : Nat} {x : Evt} (h : (evsS start bs ys lie lies j)[i]? = some x) : i < j ∧ x = evS start bs ys lie lies i := by
  have hi : i < j := by
    have := (List.getElem?_eq_some_iff.1 h).1
    simpa [evsS] using this
  refine ⟨hi, ?_⟩
  rw [at_lt (List.getElem?_eq_some_iff.1 h).1, evsS_get hi] at h
  exact (Option.some.inj h).symm
@[simp] theorem evsS_len (j : Nat) : (evsS start bs ys lie lies j).length = j := by simp [evsS]
theorem evS_fr (i : Nat) : (evS start bs ys lie lies i).fr = 2 * (i : Int) ∧ (evS start bs ys lie lies i).to = 2 * (i : Int) + 1 := by unfold evS; split <;> exact ⟨rfl, rfl⟩
theorem evS_wr (i : Nat) : (evS start bs ys lie lies i).wr = bs.getD i false := by
  unfold evS
  cases h : bs.getD i false <;> simp
theorem seq_evsS (j : Nat) : Seq (evsS start bs ys lie lies j) := by
  intro i x h
  obtain ⟨_, rfl⟩ := evsS_some h
  exact evS_fr i
theorem cur_lw (j : Nat) : ∀ k, k ≤ j → cur (evsS start bs ys lie lies j) start (lw (evsS start bs ys lie lies j) k) = nowS start bs ys k
  | 0, _ => rfl
  | k + 1, hk => by
    have ih := cur_lw j k (by omega)
    have hg := evsS_get (start := start) (bs := bs) (ys := ys) (lie := lie) (lies := lies) (i := k) (j := j) (by omega)
    unfold lw nowS
    rw [hg, evS_wr]
    by_cases hw : bs.getD k false = true
    · rw [if_pos hw, if_pos hw]
      unfold cur
      rw [if_pos (by omega), Int.toNat_natCast, hg]
      unfold evS
      rw [if_pos hw]
    · rw [if_neg hw, if_neg hw]
      exact ih
theorem wrong_iff : ∀ j, wrongS bs lie lies j = true ↔ ∃ i, i < j ∧ bs.getD i false = false ∧ lieAt lie lies i = true
  | 0 => by simp [wrongS]
  | j + 1 => by
    have ih := wrong_iff j
    unfold wrongS
    by_cases hw : bs.getD j false = true
    · rw [if_pos hw, ih]
      exact ⟨fun ⟨i, h1, h2⟩ => ⟨i, by omega, h2⟩, fun ⟨i, h1, h2, h3⟩ => ⟨i, by
        by_cases e : i = j
        · subst e; rw [hw] at h2; cases h2
        · omega, h2, h3⟩⟩
    · rw [if_neg hw]
      by_cases hl : lieAt lie lies j = true
      · rw [if_pos hl]
        exact ⟨fun _ => ⟨j, by omega, by simpa using hw, hl⟩, fun _ => rfl⟩
      · rw [if_neg hl, ih]
        exact ⟨fun ⟨i, h1, h2⟩ => ⟨i, by omega, h2⟩, fun ⟨i, h1, h2, h3⟩ => ⟨i, by
          by_cases e : i = j
          · subst e; exact absurd h3 hl
          · omega, h2, h3⟩⟩
theorem right_iff (hst : SecOk start) (hy : Bytes ys) (j : Nat) : Right (evsS start bs ys lie lies j) start j ↔ wrongS bs lie lies j = false := by
  have hw := wrong_iff (bs := bs) (lie := lie) (lies := lies) j
  have key : Right (evsS start bs ys lie lies j) start j ↔ ¬ ∃ i, i < j ∧ bs.getD i false = false ∧ lieAt lie lies i = true := by
    unfold Right
    constructor
    · rintro h ⟨i, h1, h2, h3⟩
      have := h i h1
      rw [evsS_get h1, evS_wr, cur_lw j i (by omega)] at this
      have := this h2
      unfold evS at this
      rw [if_neg (by rw [h2]; simp)] at this
      simp only [h3, if_true] at this
      exact flip_ne (nowS_ok hst hy i) this
    · intro h i h1 h2
      rw [evsS_get h1] at h2 ⊢
      rw [evS_wr] at h2
      rw [cur_lw j i (by omega)]
      have h3 : lieAt lie lies i = false := by
        cases hl : lieAt lie lies i
        · rfl
        · exact absurd ⟨i, h1, h2, hl⟩ h
      unfold evS
      rw [if_neg (by rw [h2]; simp)]
      simp [h3]
  rw [key, ← hw]
  simp
theorem evS_ok (hst : SecOk start) (hy : Bytes ys) {i : Nat} (hi : i < 10) : EvOk (evS start bs ys lie lies i) := by
  have hf := evS_fr (start := start) (bs := bs) (ys := ys) (lie := lie) (lies := lies) i
  refine ⟨?_, by rw [hf.1]; omega, by rw [hf.2]; omega⟩
  unfold evS
  split
  · exact valS_ok hy i
  · simp only
    split
    · exact flip_ok (nowS_ok hst hy i)
    · exact nowS_ok hst hy i
theorem evsS_ok (hst : SecOk start) (hy : Bytes ys) {j : Nat} (hj : j ≤ 10) : ∀ x ∈ evsS start bs ys lie lies j, EvOk x := by
  intro x hx
  obtain ⟨i, hi⟩ := List.mem_iff_getElem?.1 hx
  obtain ⟨h1, rfl⟩ := evsS_some hi
  exact evS_ok hst hy (by omega)
theorem evsS_chk {j : Nat} (hj : j ≤ 10) : chk (evsS start bs ys lie lies j) = true := by
  rw [chk_iff (by simpa using hj)]
  intro i x h
  obtain ⟨h1, rfl⟩ := evsS_some h
  have hf := evS_fr (start := start) (bs := bs) (ys := ys) (lie := lie) (lies := lies) i
  unfold chkE
  rw [hf.1, hf.2]
  simp only [Bool.and_eq_true, Bool.or_eq_true, decide_eq_true_eq]
  omega
theorem evsS_succ (j : Nat) : evsS start bs ys lie lies (j + 1) = evsS start bs ys lie lies j ++ [evS start bs ys lie lies j] := by
  unfold evsS
  rw [List.range_succ, List.map_append]; rfl
end law
end Go.Proofs
