/-
  '!=' of two records; the references' SameRecords.
-/
import Derived.Test.YtacnieopbkeoiaaEpochs
import Derived.Test.YtacnieopbkeoiaaFTop
namespace Go.Proofs
open Go Go.Ev Go.RowKit
set_option linter.unusedSimpArgs false
set_option linter.unusedVariables false
set_option maxRecDepth 100000
theorem EqB_rec_ne {x y : Operand} {r s : Rec} {C : World → Prop} {K : Bool → Prop} (hr : RecOk r) (hs : RecOk s) (hK : ∀ b : Bool, (b = true ↔ r ≠ s) → K b) :
    EqB Try.prog .neq 42 x y (.agg (recV r)) (.agg (recV s)) C K :=
  EqB_flat_ne (ks := recKs) (by kernel_rfl) (by kernel_rfl) (by kernel_rfl) (by kernel_rfl) (by kernel_rfl) (by simpa [recV] using fits_recL hr) (by simpa [recV] using fits_recL hs)
    fun b hb => hK b (hb.trans ⟨fun h e => h (by rw [e]), fun h e => h (recL_inj (by simpa [recV] using e))⟩)

/-- ravelinref04.SameRecords -/
theorem same_recs {ap bp : Option Addr} {al ac bl bc : Nat} {ra rb : List Rec} {w : World} {R : Value → World → Prop} (ha : RecSl w ap al ra) (hb : RecSl w bp bl rb) (hl : al ≤ maxLen) (oa : ∀ r ∈ ra, RecOk r) (ob : ∀ r ∈ rb, RecOk r)
    (hK : ∀ (b : Bool) w', (b = true ↔ ra = rb) → Keep (fun _ => False) w w' → R (.bool b) w') :
    CallV Try.prog 21 #[.slice ap al ac, .slice bp bl bc] w R := by
  apply C_ravelinref04_SameRecords
  unfold F_ravelinref04_SameRecords
  have hmax : al ≤ 9223372036854775807 := by simpa [maxLen] using hl
  obtain ⟨la, sa⟩ := ha
  obtain ⟨lb, sb⟩ := hb
  refine Cb_of (fun hc => ?_) (fun hc => ?_)
  · simp only [Ret_nil]
    refine hK false w ⟨fun h => by simp at h, fun h => ?_⟩ (Keep.refl _ _)
    subst h
    simp [la, lb] at hc
  · have hab : al = bl := by have : ((al : Nat) : Int) = ((bl : Nat) : Int) := by simpa using hc
                             omega
    refine LoopC_of (σ := Int × Unit) (fun s w' => ∃ j : Nat, s.1 = j ∧ j ≤ al ∧ (∀ i, i < j → ra.getD i default = rb.getD i default) ∧ Keep (fun _ => False) w w') (fun s _ => (al - s.1).toNat) ⟨0, rfl, by omega, fun i hi => by omega, Keep.refl _ _⟩ ?_
    intro _ s w1 hs
    obtain ⟨i, u⟩ := s
    obtain ⟨j, hij, hjl, hno, k1⟩ := hs
    simp only at hij ⊢
    subst hij
    refine Cb_of (fun hc => ?_) (fun hc => ?_)
    · have hj : j < al := by simp only [decide_eq_true_eq] at hc; omega
      have ew : IntKind.wrap .i64 ((j : Int) + 1) = ((j + 1 : Nat) : Int) := by rw [wrapI (by omega) (by omega)]; omega
      rw [ew]
      refine sl_rec (sa.keep k1 (by simp)) (by omega) (by omega) ?_
      refine sl_rec (sb.keep k1 (by simp)) (by omega) (by omega) ?_
      rw [show ((j : Nat) : Int).toNat = j by omega]
      have m1 : ra.getD j default ∈ ra := by rw [List.getD, List.getElem?_eq_getElem (show j < ra.length by omega)]; simp
      have m2 : rb.getD j default ∈ rb := by rw [List.getD, List.getElem?_eq_getElem (show j < rb.length by omega)]; simp
      refine EqB_rec_ne (oa _ m1) (ob _ m2) fun b hb d => ?_
      refine Cb_of (fun h => ?_) (fun h => ?_)
      · simp only [Ret_nil]
        exact hK false _ ⟨fun h => by simp at h, fun e => absurd (by rw [e]) (hb.1 h)⟩ (k1.dr d)
      · have he : ra.getD j default = rb.getD j default := by
          by_cases e : ra.getD j default = rb.getD j default
          · exact e
          · rw [hb.2 e] at h; cases h
        exact ⟨_, by omega, ⟨j + 1, rfl, hj, fun i hi => by rcases Nat.lt_succ_iff_lt_or_eq.1 hi with h | h; exact hno i h; subst h; exact he, k1.dr d⟩, rfl⟩
    · have hj : j = al := by simp only [decide_eq_false_iff_not] at hc; omega
      subst hj
      simp only [Ret_nil]
      refine hK true w1 ⟨fun _ => ?_, fun _ => rfl⟩ k1
      apply List.ext_getElem (by omega)
      intro i h1 h2
      have := hno i (by omega)
      simpa [List.getD, h1, h2] using this
end Go.Proofs
