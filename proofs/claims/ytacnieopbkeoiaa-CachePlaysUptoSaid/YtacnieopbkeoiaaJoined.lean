/-
  ravelinref13.joined: all lists, one behind the other.
-/
import Derived.Test.YtacnieopbkeoiaaTop
namespace Go.Proofs
open Go Go.Ev Go.RowKit
set_option linter.unusedSimpArgs false
set_option linter.unusedVariables false
set_option maxRecDepth 100000
theorem bsl_none (w : World) : (Instr.buildSlice 37 0 #[]).run Try.prog w = .ok (.slice (some ⟨w.heap.size, 0, none⟩) 0 0) (w.alloc (.cells #[] 42)) := by kernel_rfl
theorem ref_joined {xp : Option Addr} {n c : Nat} {rss : List (List Rec)} {w : World} {R : Value → World → Prop} (h : Lists w xp n rss) (hn : n ≤ 1000000000) (ht : total rss ≤ 1000000000)
    (hK : ∀ p l cp w', Own w' w.heap.size 42 19 p l cp (rss.flatten.flatMap recL) → Keep (fun _ => False) w w' → R (.slice p l cp) w') :
    CallV Try.prog 42 #[.slice xp n c] w R := by
  apply C_ravelinref13_joined
  unfold F_ravelinref13_joined
  obtain ⟨hl, P, hP, hr⟩ := id h
  have ld : ∀ {w' : World}, Keep (fun _ => False) w w' → ∀ j : Nat, j < n → ∀ K : Value → Prop, K (.slice (P j).1 (P j).2.1 (P j).2.2) → IdxS xp n (j : Int) 1 fun b o => LdV b o (At w') K := by
    intro w' hk j hj K hK
    exact ((hP.keep hk (by simp)).ld_iff (i := (j : Int)) (by omega) (by omega) (v := .slice (P j).1 (P j).2.1 (P j).2.2) (by simp)).2 hK
  refine ⟨_, _, bsl_none w, ?_⟩
  simp only [OpS_slice]
  have ho : Own (w.alloc (.cells #[] 42)) w.heap.size 42 19 (some ⟨w.heap.size, 0, none⟩) 0 0 [] := Own.mk (Nat.le_refl _) (Has.new _ _) (Nat.le_refl _) (by simp [maxLen]) rfl rfl
  refine LoopC_of (σ := (Option Addr × Nat × Nat) × Int × Unit) (fun s w' => ∃ i : Nat, s.2.1 = i ∧ i ≤ n ∧ Keep (fun _ => False) w w' ∧ Own w' w.heap.size 42 19 s.1.1 s.1.2.1 s.1.2.2 ((rss.take i).flatten.flatMap recL)) (fun s _ => (n - s.2.1).toNat)
    ⟨0, rfl, by omega, Keep.new _ _ _, by simpa using ho⟩ ?_
  intro _ s w3 hs
  obtain ⟨⟨q, l, cq⟩, i, u⟩ := s
  obtain ⟨i, hij, hin, k3, ho3⟩ := hs
  simp only at hij ho3 ⊢
  subst hij
  refine Cb_of (fun hc => ?_) (fun hc => ?_)
  · have hi : i < n := by simp only [decide_eq_true_eq] at hc; omega
    refine ld k3 i hi _ ?_
    simp only [OpS_slice]
    have e1 := take_succ_get (rss := rss) (j := i) (by omega)
    have e2 := total_take (rss := rss) (i + 1)
    rw [e1, List.length_append] at e2
    have e3 := (hr i hi).1
    have hlq : l = (rss.take i).flatten.length := by
      have h5 := ho3
      rw [flatMap_rows] at h5
      have h6 := h5.count (rows_len _) (by decide)
      rwa [List.length_map] at h6
    obtain ⟨p', c2, w4, hr4, ho4, k4⟩ := app_recs (c2 := (P i).2.2) ho3 ((hr i hi).keep k3 (by simp)) (by omega) (by have := k3.size; omega)
    refine ⟨_, _, hr4, ?_⟩
    simp only [OpS_slice]
    have ew2 : IntKind.wrap .i64 ((i : Int) + 1) = ((i + 1 : Nat) : Int) := by rw [wrapI (by omega) (by omega)]; omega
    rw [ew2]
    exact ⟨_, by omega, ⟨i + 1, rfl, hi, k3.trans' k4 (fun k hk hp => by have := (ho3.lt hp).1; omega), by rw [e1]; exact ho4⟩, rfl⟩
  · have hi : i = n := by simp only [decide_eq_false_iff_not] at hc; omega
    subst hi
    simp only [Ret_nil]
    have : rss.take i = rss := by rw [hl]; simp
    rw [this] at ho3
    exact hK q l cq w3 ho3 k3
end Go.Proofs
