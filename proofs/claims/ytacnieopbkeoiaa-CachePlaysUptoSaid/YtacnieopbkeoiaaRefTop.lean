/-
  The document's Top.
-/
import Derived.Test.YtacnieopbkeoiaaJoined
namespace Go.Proofs
open Go Go.Ev Go.RowKit
set_option linter.unusedSimpArgs false
set_option linter.unusedVariables false
set_option maxRecDepth 100000
/-- a cell of a record of a row of one's own -/
theorem LdV_row {w : World} {base : Nat} {T : TypeId} {p : Option Addr} {l c : Nat} {rs : List Rec} (h : Own w base T 19 p l c (rs.flatMap recL)) {i : Int} {r : Rec} {t : Nat} {v : Value} (h0 : 0 ≤ i) (hi : rs[i.toNat]? = some r) (ht : t < 19)
    (hv : (recL r)[t]? = some v) {K : Value → Prop} (hK : K v) : IdxS p l i 19 fun b o => LdV b (o + t) (At w) K := by
  have h2 := h
  rw [flatMap_rows] at h2
  have hlr : l = rs.length := by simpa using h2.count (rows_len rs) (by decide)
  have hlt := (List.getElem?_eq_some_iff.1 hi).1
  obtain ⟨b, rfl, hc⟩ := h2.at (rows_len rs) (by decide) (i := i.toNat) (r := recL r) (by simp [hi])
  exact ⟨b, 0, rfl, h0, by omega, LdV_at.2 ⟨v, by rw [Nat.zero_add, hc t ht]; exact hv, hK⟩⟩

theorem ref_Top {xp : Option Addr} {n c : Nat} {rss : List (List Rec)} {w : World} {R : Value → World → Prop} (h : Lists w xp n rss) (hn : n ≤ 1000000000) (ht : total rss ≤ 10000000)
    (hK : ∀ w', Keep (fun _ => False) w w' → R (.int .u64 (rss.flatten.foldl topStep 0)) w') : CallV Try.prog 25 #[.slice xp n c] w R := by
  apply C_ravelinref13_Top
  unfold F_ravelinref13_Top
  refine ref_joined h hn (by omega) fun p l cp w1 ho k1 => ?_
  simp only [OpS_slice]
  have hlen : l = rss.flatten.length := by
    have h5 := ho
    rw [flatMap_rows] at h5
    have h6 := h5.count (rows_len _) (by decide)
    rwa [List.length_map] at h6
  have hbd : rss.flatten.length ≤ 10000000 := ht
  generalize rss.flatten = all at *
  refine LoopC_of (σ := Int × Int × Unit) (fun s w' => w' = w1 ∧ ∃ j : Nat, s.2.1 = j ∧ j ≤ l ∧ s.1 = (all.take j).foldl topStep 0) (fun s _ => (l - s.2.1).toNat) ⟨rfl, 0, rfl, by omega, rfl⟩ ?_
  intro _ s w2 hs
  obtain ⟨t, i, u⟩ := s
  obtain ⟨rfl, j, hij, hjl, htt⟩ := hs
  simp only at hij htt ⊢
  subst hij htt
  refine Cb_of (fun hc => ?_) (fun hc => ?_)
  · have hj : j < l := by simp only [decide_eq_true_eq] at hc; omega
    have hget : all[((j : Nat) : Int).toNat]? = some all[j] := by simp [show j < all.length by omega]
    generalize hr : all[j] = r at *
    have hstep : (all.take (j + 1)).foldl topStep 0 = topStep ((all.take j).foldl topStep 0) r := by
      rw [List.take_add_one, List.foldl_append, show all[j]? = some r by simpa using hget]
      rfl
    have ew : IntKind.wrap .i64 ((j : Int) + 1) = ((j + 1 : Nat) : Int) := by rw [wrapI (by omega) (by omega)]; omega
    rw [ew]
    generalize (all.take j).foldl topStep 0 = t at *
    have fin : ∀ t', t' = topStep t r → ∃ m', m' < ((l : Int) - (j : Int)).toNat ∧ ((True ∧ ∃ j' : Nat, ((j + 1 : Nat) : Int) = j' ∧ j' ≤ l ∧ t' = (all.take j').foldl topStep 0) ∧ ((l : Int) - ((j + 1 : Nat) : Int)).toNat = m') :=
      fun t' e => ⟨_, by omega, ⟨trivial, j + 1, rfl, hj, by rw [hstep]; exact e⟩, rfl⟩
    refine LdV_row (t := 0) ho (by omega) hget (by decide) (v := .int .i64 r.kind) rfl ?_
    simp only [OpI_int]
    refine Cb_of (fun h1 => ?_) (fun h1 => ?_)
    · refine LdV_row (t := 0) ho (by omega) hget (by decide) (v := .int .i64 r.kind) rfl ?_
      simp only [OpI_int]
      refine Cb_of (fun h5 => ?_) (fun h5 => ?_)
      · have hk : 1 ≤ r.kind ∧ r.kind ≤ 5 := ⟨by simpa using h1, by simpa using h5⟩
        refine LdV_row (t := 1) ho (by omega) hget (by decide) (v := .int .u64 r.ver) rfl ?_
        simp only [OpI_int]
        refine Cb_of (fun hv => ?_) (fun hv => ?_)
        · refine LdV_row (t := 1) ho (by omega) hget (by decide) (v := .int .u64 r.ver) rfl ?_
          simp only [OpI_int]
          refine fin _ ?_
          unfold topStep
          rw [if_pos hk]
          have : r.ver > t := by simpa using hv
          omega
        · refine fin _ ?_
          unfold topStep
          rw [if_pos hk]
          have : ¬ r.ver > t := by simpa using hv
          omega
      · refine fin _ ?_
        unfold topStep
        rw [if_neg (fun hh => by have := hh.2; simp at h5; omega)]
    · refine fin _ ?_
      unfold topStep
      rw [if_neg (fun hh => by have := hh.1; simp at h1; omega)]
  · have hj : j = l := by simp only [decide_eq_false_iff_not] at hc; omega
    subst hj
    have e0 : all.take j = all := by rw [hlen]; simp
    rw [e0]
    simp only [Ret_nil]
    exact hK w2 k1
end Go.Proofs
