/-
  The document's After, where the club is.
-/
import Derived.Test.YtdjlmpkjdgmkkaaMem2
import Derived.Test.YtdjlmpkjdgmkkaaFAfterR
namespace Go.Proofs
open Go Go.Ev
set_option linter.unusedSimpArgs false
set_option linter.unusedVariables false
set_option maxRecDepth 100000
theorem ref_After {e side : Int} {w : World} {R : Value → World → Prop} (h0 : 0 ≤ e) (h1 : e ≤ 4294967295) (hK : R (.tuple #[.int .u32 (afterS e side).1, .int .i64 (afterS e side).2]) w) :
    CallV Try.prog 53 #[.int .u32 e, .int .i64 side] w R := by
  apply C_ravelinref13_After
  unfold F_ravelinref13_After
  simp only [Req_true, Req_rfl]
  by_cases hn : sideOk side
  · have e0 : (cond (side != 0) (side != 1) false) = false := by rcases hn with rfl | rfl <;> rfl
    rw [e0, Cb_false]
    have w1 : IntKind.wrap .u64 e = e := wrapU64 (by omega) (by omega)
    have w3 : IntKind.wrap .u64 side = side := wrapU64 (by rcases hn with rfl | rfl <;> omega) (by rcases hn with rfl | rfl <;> omega)
    rw [w1, w3]
    have hs2 : side = 0 ∨ side = 1 := hn
    refine LoopC_of (σ := Int × Unit) (fun s w' => w' = w ∧ (s.1 = 1 ∨ s.1 = 2 ∧ ¬ ((e + 1) % 2 = side ∧ e + 1 ≤ 4294967295) ∨ s.1 = 3 ∧ ¬ ((e + 1) % 2 = side ∧ e + 1 ≤ 4294967295) ∧ ¬ ((e + 2) % 2 = side ∧ e + 2 ≤ 4294967295))) (fun s _ => (4 - s.1).toNat) ⟨rfl, Or.inl rfl⟩ ?_
    intro _ s w' hI
    obtain ⟨d, u⟩ := s
    obtain ⟨rfl, hI⟩ := hI
    simp only at hI ⊢
    have hd : d = 1 ∨ d = 2 ∨ d = 3 := by rcases hI with h | h | h <;> omega
    have hw : IntKind.wrap .u64 (e + d) = e + d := wrapU64 (by omega) (by omega)
    have hw2 : IntKind.wrap .u64 (d + 1) = d + 1 := wrapU64 (by omega) (by omega)
    rw [hw, hw2, Int.tmod_eq_emod_of_nonneg (show 0 ≤ e + d by omega)]
    refine Cb_of (fun hc => ?_) (fun hc => ?_)
    · have hc' : d ≤ 2 := by simpa using hc
      refine ⟨by decide, Cb_of (fun hr => ?_) (fun hr => ?_)⟩
      · have hr' : (e + d) % 2 = side ∧ e + d ≤ 4294967295 := by
          by_cases hx : (e + d) % 2 = side
          · simp [hx] at hr; exact ⟨hx, hr⟩
          · simp [hx] at hr
        have ea : afterS e side = (e + d, 0) := by
          unfold afterS
          rw [if_neg (by simpa using hn)]
          simp only
          have : (if (e + 1) % 2 = side then e + 1 else e + 2) = e + d := by
            rcases hd with rfl | rfl | rfl
            · rw [if_pos hr'.1]
            · rw [if_neg (by omega)]
            · omega
          rw [this, if_neg (by omega)]
        rw [ea] at hK
        simp only [Ret_nil]
        rw [wrapU32 (by omega) hr'.2]
        exact hK
      · have hr' : ¬ ((e + d) % 2 = side ∧ e + d ≤ 4294967295) := by
          rintro ⟨a, b⟩
          simp [a, b] at hr
        refine ⟨_, by omega, ⟨trivial, ?_⟩, rfl⟩
        rcases hI with h | ⟨h, g⟩ | ⟨h, g⟩
        · subst h; exact Or.inr (Or.inl ⟨rfl, hr'⟩)
        · subst h; exact Or.inr (Or.inr ⟨rfl, g, hr'⟩)
        · omega
    · have hc' : ¬ d ≤ 2 := by simpa using hc
      have hd3 : d = 3 := by omega
      subst hd3
      have g : ¬ ((e + 1) % 2 = side ∧ e + 1 ≤ 4294967295) ∧ ¬ ((e + 2) % 2 = side ∧ e + 2 ≤ 4294967295) := by rcases hI with h | ⟨h, g⟩ | ⟨h, g⟩ <;> first | omega | exact g
      have ea : afterS e side = (0, 14) := by
        unfold afterS
        rw [if_neg (by simpa using hn)]
        simp only
        rw [if_pos (by split <;> omega)]
      rw [ea] at hK
      simp only [Ret_nil]
      exact hK
  · have e0 : (cond (side != 0) (side != 1) false) = true := by
      unfold sideOk at hn
      have h1 : (side != 0) = true := by simp; omega
      have h2 : (side != 1) = true := by simp; omega
      rw [h1, h2]; rfl
    have ea : afterS e side = (0, 2) := by unfold afterS; rw [if_pos hn]
    rw [ea] at hK
    rw [e0, Cb_true]
    simpa using hK

end Go.Proofs
