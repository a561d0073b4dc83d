/-
  merge.After: the epoch that a side takes behind others. (The same text stands in Mem: import one of the two.)
-/
import Derived.Test.YtacnieopbkeoiaaLib
import Derived.Test.YtacnieopbkeoiaaFAfter
namespace Go.Proofs
open Go Go.Ev
set_option linter.unusedSimpArgs false
set_option linter.unusedVariables false
set_option maxRecDepth 100000
def sideOk (n : Int) : Prop := n = 0 ∨ n = 1
instance (n : Int) : Decidable (sideOk n) := inferInstanceAs (Decidable (_ ∨ _))
theorem side0 : sideOk 0 := Or.inl rfl
theorem side1 : sideOk 1 := Or.inr rfl
def afterS (e side : Int) : Int × Int :=
  if ¬ sideOk side then (0, 2) else
    let x := if (e + 1) % 2 = side then e + 1 else e + 2
    if 4294967295 < x then (0, 14) else (x, 0)
theorem merge_After {e side : Int} {w : World} {R : Value → World → Prop} (h0 : 0 ≤ e) (h1 : e ≤ 4294967295) (hs : -9223372036854775808 ≤ side ∧ side ≤ 9223372036854775807) (hK : R (.tuple #[.int .u32 (afterS e side).1, .int .i64 (afterS e side).2]) w) :
    CallV Try.prog 26 #[.int .u32 e, .int .i64 side] w R := by
  apply C_merge_After
  unfold F_merge_After
  simp only [Req_true, Req_rfl]
  unfold afterS at hK
  by_cases hn : sideOk side
  · rw [if_neg (by simpa using hn)] at hK
    have e0 : (cond (side != 0) (side != 1) false) = false := by rcases hn with rfl | rfl <;> rfl
    have w1 : IntKind.wrap .u64 e = e := wrapU64 (by omega) (by omega)
    have w2 : IntKind.wrap .u64 (e + 1) = e + 1 := wrapU64 (by omega) (by omega)
    have w3 : IntKind.wrap .u64 side = side := wrapU64 (by rcases hn with rfl | rfl <;> omega) (by rcases hn with rfl | rfl <;> omega)
    have w4 : IntKind.wrap .u64 (e + 1 + 1) = e + 2 := by rw [wrapU64 (by omega) (by omega)]; omega
    rw [e0, Cb_false]
    refine ⟨by decide, ?_⟩
    simp only [w1, w2, w3, w4, Int.tmod_eq_emod_of_nonneg (show 0 ≤ e + 1 by omega)]
    refine Cb_of (fun hc => ?_) (fun hc => ?_)
    · have hx : (if (e + 1) % 2 = side then e + 1 else e + 2) = e + 2 := if_neg (by simpa using hc)
      simp only [hx] at hK
      refine Cb_of (fun hg => ?_) (fun hg => ?_)
      · have hg' : 4294967295 < e + 2 := by simpa using hg
        rw [if_pos hg'] at hK; simpa using hK
      · have hg' : ¬ 4294967295 < e + 2 := by simpa using hg
        rw [if_neg hg'] at hK
        rw [wrapU32 (by omega) (by omega)]; simpa using hK
    · have hx : (if (e + 1) % 2 = side then e + 1 else e + 2) = e + 1 := if_pos (by simpa using hc)
      simp only [hx] at hK
      refine Cb_of (fun hg => ?_) (fun hg => ?_)
      · have hg' : 4294967295 < e + 1 := by simpa using hg
        rw [if_pos hg'] at hK; simpa using hK
      · have hg' : ¬ 4294967295 < e + 1 := by simpa using hg
        rw [if_neg hg'] at hK
        rw [wrapU32 (by omega) (by omega)]; simpa using hK
  · rw [if_pos hn] at hK
    have e0 : (cond (side != 0) (side != 1) false) = true := by
      unfold sideOk at hn
      have h1 : (side != 0) = true := by simp; omega
      have h2 : (side != 1) = true := by simp; omega
      rw [h1, h2]; rfl
    rw [e0, Cb_true]
    simpa using hK
end Go.Proofs
