/-
  The document's Last: the same list; HistoryLasts, the walk.
-/
import Derived.Test.YtdjlmpkjdgmkkaaLast21
import Derived.Test.YtdjlmpkjdgmkkaaFRefLast
import Derived.Test.YtdjlmpkjdgmkkaaFLasts
namespace Go.Proofs
open Go Go.Ev Go.RowKit
set_option linter.unusedSimpArgs false
set_option linter.unusedVariables false
set_option maxRecDepth 100000

/-! ### less -/
theorem get_secV (f : Sec) {k : Nat} (hk : k < 16) : (secV f)[k]? = some (.int .u8 (f ⟨k, hk⟩)) := by
  match k, hk with
  | 0, _ => rfl | 1, _ => rfl | 2, _ => rfl | 3, _ => rfl | 4, _ => rfl | 5, _ => rfl | 6, _ => rfl | 7, _ => rfl
  | 8, _ => rfl | 9, _ => rfl | 10, _ => rfl | 11, _ => rfl | 12, _ => rfl | 13, _ => rfl | 14, _ => rfl | 15, _ => rfl
  | n + 16, h => exact absurd h (by omega)
theorem get_secL (f : Sec) {k : Nat} (hk : k < 16) : (secL f)[k]? = some (f ⟨k, hk⟩) := by
  match k, hk with
  | 0, _ => rfl | 1, _ => rfl | 2, _ => rfl | 3, _ => rfl | 4, _ => rfl | 5, _ => rfl | 6, _ => rfl | 7, _ => rfl
  | 8, _ => rfl | 9, _ => rfl | 10, _ => rfl | 11, _ => rfl | 12, _ => rfl | 13, _ => rfl | 14, _ => rfl | 15, _ => rfl
  | n + 16, h => exact absurd h (by omega)
/-- the first bytes that differ decide -/
theorem cb_at : ∀ (a b : List Int) (k : Nat) (x y : Int), (∀ z ∈ a, 0 ≤ z ∧ z ≤ 255) → (∀ z ∈ b, 0 ≤ z ∧ z ≤ 255) → a[k]? = some x → b[k]? = some y → (∀ j, j < k → a[j]? = b[j]?) → x ≠ y →
    (Lib.compareBytes (Lib.bytesOf a) (Lib.bytesOf b) < 0 ↔ x < y)
  | [], _, _, _, _, _, _, h, _, _, _ => by simp at h
  | _ :: _, [], _, _, _, _, _, _, h, _, _ => by simp at h
  | u :: a, v :: b, 0, x, y, ha, hb, hx, hy, _, hne => by
    simp only [List.getElem?_cons_zero, Option.some.injEq] at hx hy
    subst hx hy
    have h1 := ha u (by simp)
    have h2 := hb v (by simp)
    simp only [Lib.bytesOf, List.map_cons, Lib.compareBytes, UInt8.lt_iff_toNat_lt, UInt8.toNat_ofNat']
    rw [Nat.mod_eq_of_lt (show u.toNat < 256 by omega), Nat.mod_eq_of_lt (show v.toNat < 256 by omega)]
    by_cases h : u.toNat < v.toNat
    · rw [if_pos h]; exact ⟨fun _ => by omega, fun _ => by decide⟩
    · rw [if_neg h, if_pos (by omega)]; exact ⟨fun h => absurd h (by decide), fun h => by omega⟩
  | u :: a, v :: b, k + 1, x, y, ha, hb, hx, hy, hpre, hne => by
    have e := hpre 0 (by omega)
    simp only [List.getElem?_cons_zero, Option.some.injEq] at e
    subst e
    simp only [List.getElem?_cons_succ] at hx hy
    have ih := cb_at a b k x y (fun z hz => ha z (by simp [hz])) (fun z hz => hb z (by simp [hz])) hx hy (fun j hj => by have := hpre (j + 1) (by omega); simpa using this) hne
    simp only [Lib.bytesOf, List.map_cons, Lib.compareBytes, UInt8.lt_iff_toNat_lt] at ih ⊢
    rw [if_neg (by omega), if_neg (by omega)]
    exact ih
theorem secL_ok {f : Sec} (h : SecOk f) : ∀ z ∈ secL f, 0 ≤ z ∧ z ≤ 255 := by
  intro z hz
  simp only [secL, List.mem_cons, List.not_mem_nil, or_false] at hz
  rcases hz with rfl | rfl | rfl | rfl | rfl | rfl | rfl | rfl | rfl | rfl | rfl | rfl | rfl | rfl | rfl | rfl <;> exact h _
theorem cmpS_at {f g : Sec} (hf : SecOk f) (hg : SecOk g) {k : Nat} (hk : k < 16) (hpre : ∀ j (hj : j < k), f ⟨j, by omega⟩ = g ⟨j, by omega⟩) (hne : f ⟨k, hk⟩ ≠ g ⟨k, hk⟩) : cmpS f g < 0 ↔ f ⟨k, hk⟩ < g ⟨k, hk⟩ :=
  cb_at _ _ k _ _ (secL_ok hf) (secL_ok hg) (get_secL f hk) (get_secL g hk) (fun j hj => by rw [get_secL f (by omega), get_secL g (by omega), hpre j hj]) hne
section calls
variable {w : World} {R : Value → World → Prop}
theorem ref_less {f g : Sec} (hf : SecOk f) (hg : SecOk g) (hK : ∀ w', Keep (fun _ => False) w w' → R (.bool (decide (cmpS f g < 0))) w') : CallV Try.prog 61 #[.agg (secV f), .agg (secV g)] w R := by
  apply C_ravelinref21_less
  unfold F_ravelinref21_less
  refine alc_new fun w1 h1 k1 _ => ?_
  refine alc_new fun w2 h2 k2 _ => ?_
  have h12 := k2.has h1 (by simp)
  have k02 := k1.trans k2
  refine LoopC_of (σ := Int × Unit) (fun s w' => Keep (fun _ => False) w2 w' ∧ ∃ j : Nat, s.1 = j ∧ j ≤ 16 ∧ ∀ i (hi : i < 16), i < j → f ⟨i, hi⟩ = g ⟨i, hi⟩) (fun s _ => (16 - s.1).toNat) ⟨Keep.refl _ _, 0, rfl, by omega, fun i hi h => by omega⟩ ?_
  rintro _ ⟨i1, u⟩ w3 ⟨k3, j, hj, hjl, hpre⟩
  simp only at hj ⊢
  subst hj
  have a1 := k3.has h12 (by simp)
  have a2 := k3.has h2 (by simp)
  refine Cb_of (fun hc => ?_) (fun hc => ?_)
  · have hj : j < 16 := by simp only [decide_eq_true_eq] at hc; omega
    have ew : IntKind.wrap .i64 ((j : Int) + 1) = ((j + 1 : Nat) : Int) := by rw [wrapI (by omega) (by omega)]; omega
    have eo : 0 + Int.toNat (j : Int) * 1 = j := by simp
    rw [ew, eo]
    refine ⟨by omega, ?_⟩
    refine LdV_has (v := .int .u8 (f ⟨j, hj⟩)) a1 (get_secV f hj) ?_
    rw [OpI_int]
    refine ⟨by omega, ?_⟩
    refine LdV_has (v := .int .u8 (g ⟨j, hj⟩)) a2 (get_secV g hj) ?_
    rw [OpI_int]
    intro d
    refine Cb_of (fun hne => ?_) (fun hne => ?_)
    · have hne : f ⟨j, hj⟩ ≠ g ⟨j, hj⟩ := by simpa using hne
      refine ⟨by omega, ?_⟩
      refine LdV_has (v := .int .u8 (f ⟨j, hj⟩)) (a1.dr d) (get_secV f hj) ?_
      rw [OpI_int]
      refine ⟨by omega, ?_⟩
      refine LdV_has (v := .int .u8 (g ⟨j, hj⟩)) (a2.dr d) (get_secV g hj) ?_
      rw [OpI_int]
      intro d2
      refine Ret_nil.2 ?_
      have := hK _ ((k02.trans (k3.dr d)).dr d2)
      have e : decide (cmpS f g < 0) = decide (f ⟨j, hj⟩ < g ⟨j, hj⟩) := by
        rw [decide_eq_decide]
        exact cmpS_at hf hg hj (fun i hi => hpre i (by omega) hi) hne
      rw [e] at this
      exact this
    · have he : f ⟨j, hj⟩ = g ⟨j, hj⟩ := by simpa using hne
      refine ⟨_, by omega, ⟨k3.dr d, j + 1, rfl, hj, fun i hi h => ?_⟩, rfl⟩
      rcases Nat.lt_succ_iff_lt_or_eq.1 h with h | h
      · exact hpre i hi h
      · subst h; exact he
  · have hj : j = 16 := by simp only [decide_eq_false_iff_not] at hc; omega
    subst hj
    have e : f = g := funext fun i => hpre i.val i.isLt i.isLt
    rw [Ret_nil]
    have := hK w3 (k02.trans k3)
    rw [e, cmpS_self] at this
    exact this
/-! ### SameSectors -/
theorem ref_SameSectors {p q : Option Addr} {l m c d : Nat} {vs : List Sec} (h1 : SlL seLay w p l vs) (h2 : SlL seLay w q m vs) (hok : ∀ v ∈ vs, SecOk v) (hl : l ≤ 1000000) (hK : ∀ w', Keep (fun _ => False) w w' → R (.bool true) w') :
    CallV Try.prog 45 #[.slice p l c, .slice q m d] w R := by
  apply C_ravelinref09_SameSectors
  unfold F_ravelinref09_SameSectors
  have e : l = m := h1.1.trans h2.1.symm
  subst e
  have hlen := h1.1
  refine Cb_of (fun hc => by simp at hc) (fun _ => ?_)
  refine LoopC_of (σ := Int × Unit) (fun s w' => Keep (fun _ => False) w w' ∧ ∃ j : Nat, s.1 = j ∧ j ≤ l) (fun s _ => (l - s.1).toNat) ⟨Keep.refl _ _, 0, rfl, by omega⟩ ?_
  rintro _ ⟨i1, u⟩ w1 ⟨k1, j, hj, hjl⟩
  simp only at hj ⊢
  subst hj
  refine Cb_of (fun hc => ?_) (fun hc => ?_)
  · have hj : j < l := by simp only [decide_eq_true_eq] at hc; omega
    have ew : IntKind.wrap .i64 ((j : Int) + 1) = ((j + 1 : Nat) : Int) := by rw [wrapI (by omega) (by omega)]; omega
    rw [ew]
    have g' : vs[j]? = some (vs[j]'(by omega)) := by simp [show j < vs.length by omega]
    have g : vs[((j : Nat) : Int).toNat]? = some (vs[j]'(by omega)) := by rw [Int.toNat_natCast]; exact g'
    have hv := hok _ (List.mem_of_getElem? g')
    refine (h1.keepB k1 (by simp)).ldA rfl (by omega) g ?_
    refine (h2.keepB k1 (by simp)).ldA rfl (by omega) g ?_
    refine EqB_sec_ne hv hv fun r hr => ?_
    have hrf : r = false := by cases r <;> simp_all
    subst hrf
    intro d
    refine (Cb_false (p := _)).2 ?_
    exact ⟨_, by omega, ⟨k1.dr d, j + 1, rfl, hj⟩, rfl⟩
  · rw [Ret_nil]
    exact hK w1 k1
end calls
end Go.Proofs
