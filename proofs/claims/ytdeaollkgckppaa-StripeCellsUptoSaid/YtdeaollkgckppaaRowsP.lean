/-
  StripeRows, plain: how many columns are lost.
-/
import Derived.Test.YtdeaollkgckppaaHurtP
namespace Go.Proofs
open Go Go.Ev
set_option linter.unusedSimpArgs false
set_option linter.unusedVariables false
set_option maxRecDepth 100000

theorem col_of {g : Geo} (hg : GeoOk g) (st off : Int) {i : Int} (hi : 0 ≤ i ∧ i < g.d) : ∃ k : Nat, k < g.d.toNat ∧ (plcP g st off (k : Int)).dk = i := by
  have hd := hg.d
  have h0 := Int.emod_nonneg (i - firstP g st) (show g.d ≠ 0 by omega)
  have h1 := Int.emod_lt_of_pos (i - firstP g st) (show 0 < g.d by omega)
  refine ⟨((i - firstP g st) % g.d).toNat, by omega, ?_⟩
  show (firstP g st + ((((i - firstP g st) % g.d).toNat : Nat) : Int)) % g.d = i
  rw [show ((((i - firstP g st) % g.d).toNat : Nat) : Int) = (i - firstP g st) % g.d by omega, Int.add_emod_emod, show firstP g st + (i - firstP g st) = i by omega]
  exact Int.emod_eq_of_lt hi.1 hi.2
theorem lost_mem {g : Geo} {s : SS} {st off : Int} {k : Nat} (hk : k < g.d.toNat) (hv : viewS s (plcP g st off (k : Int)).dk (plcP g st off (k : Int)).at_ = none) : (k : Int) ∈ goneL (colsS g s st off) := by
  have := colsS_view (g := g) (s := s) (st := st) (off := off) hk
  rw [hv] at this
  exact gone_mem this
/-- at least as many columns are lost as disks that are hurt in the row -/
theorem lost_ge1 {g : Geo} (hg : GeoOk g) {s : SS} {st off : Int} {i a : Int} (ha : a = st * g.c + off) (hi : 0 ≤ i ∧ i < g.d) (hv : viewS s i a = none) : 1 ≤ lostN (colsS g s st off) := by
  obtain ⟨k, hk, e⟩ := col_of hg st off hi
  have hm := lost_mem (s := s) (off := off) hk (by rw [e]; rw [ha] at hv; exact hv)
  rw [← goneL_len]
  exact List.length_pos_of_mem hm
theorem lost_ge2 {g : Geo} (hg : GeoOk g) {s : SS} {st off : Int} {i j a : Int} (ha : a = st * g.c + off) (hi : 0 ≤ i ∧ i < g.d) (hj : 0 ≤ j ∧ j < g.d) (hij : i ≠ j) (hv : viewS s i a = none) (hw : viewS s j a = none) : 2 ≤ lostN (colsS g s st off) := by
  obtain ⟨k, hk, e⟩ := col_of hg st off hi
  obtain ⟨l, hl, e2⟩ := col_of hg st off hj
  have hm := lost_mem (s := s) (off := off) hk (by rw [e]; rw [ha] at hv; exact hv)
  have hn := lost_mem (s := s) (off := off) hl (by rw [e2]; rw [ha] at hw; exact hw)
  have hkl : (k : Int) ≠ (l : Int) := fun h => hij (by rw [← e, ← e2, h])
  rw [← goneL_len]
  match hG : goneL (colsS g s st off) with
  | [] => rw [hG] at hm; cases hm
  | [x] =>
    rw [hG] at hm hn
    exact absurd ((List.mem_singleton.1 hm).trans (List.mem_singleton.1 hn).symm) hkl
  | x :: y :: r => simp
theorem lost_ge3 {g : Geo} (hg : GeoOk g) {s : SS} {st off : Int} {i j z a : Int} (ha : a = st * g.c + off) (hi : 0 ≤ i ∧ i < g.d) (hj : 0 ≤ j ∧ j < g.d) (hz : 0 ≤ z ∧ z < g.d) (hij : i ≠ j) (hiz : i ≠ z) (hjz : j ≠ z) (hv : viewS s i a = none) (hw : viewS s j a = none) (hu : viewS s z a = none) : 3 ≤ lostN (colsS g s st off) := by
  obtain ⟨k, hk, e⟩ := col_of hg st off hi
  obtain ⟨l, hl, e2⟩ := col_of hg st off hj
  obtain ⟨n, hn', e3⟩ := col_of hg st off hz
  have hm := lost_mem (s := s) (off := off) hk (by rw [e]; rw [ha] at hv; exact hv)
  have hn := lost_mem (s := s) (off := off) hl (by rw [e2]; rw [ha] at hw; exact hw)
  have ho := lost_mem (s := s) (off := off) hn' (by rw [e3]; rw [ha] at hu; exact hu)
  have h1 : (k : Int) ≠ (l : Int) := fun h => hij (by rw [← e, ← e2, h])
  have h2 : (k : Int) ≠ (n : Int) := fun h => hiz (by rw [← e, ← e3, h])
  have h3 : (l : Int) ≠ (n : Int) := fun h => hjz (by rw [← e2, ← e3, h])
  rw [← goneL_len]
  match hG : goneL (colsS g s st off) with
  | [] => rw [hG] at hm; cases hm
  | [x] =>
    rw [hG] at hm hn
    exact absurd ((List.mem_singleton.1 hm).trans (List.mem_singleton.1 hn).symm) h1
  | [x, y] =>
    rw [hG] at hm hn ho
    simp only [List.mem_cons, List.not_mem_nil, or_false] at hm hn ho
    omega
  | x :: y :: z :: r => simp
/-- one disk at most -/
theorem lost_le1 {g : Geo} (hg : GeoOk g) {s : SS} {st off : Int} (hst : 0 ≤ st ∧ st < g.s) (hof : 0 ≤ off ∧ off < g.c) (i : Int) (h : ∀ k : Nat, k < g.d.toNat → viewS s (plcP g st off (k : Int)).dk (plcP g st off (k : Int)).at_ = none → (plcP g st off (k : Int)).dk = i) : lostN (colsS g s st off) ≤ 1 := by
  have hd := hg.d
  have hl := goneL_len (colsS g s st off)
  have idx : ∀ x ∈ goneL (colsS g s st off), ∃ n : Nat, x = (n : Int) ∧ n < g.d.toNat ∧ (plcP g st off x).dk = i := fun x hx => by
    obtain ⟨n, h1, h2, h3⟩ := goneI_lt (colsS g s st off) _ x hx
    rw [len_colsS] at h2
    rw [colsS_view h2] at h3
    exact ⟨n, h1, h2, by rw [h1]; exact h n h2 (Option.some.inj h3)⟩
  have hs := goneI_sorted (colsS g s st off) (colsS g s st off).length
  have hs : (goneL (colsS g s st off)).Pairwise (· < ·) := hs
  match hG : goneL (colsS g s st off) with
  | [] => rw [hG] at hl; simp at hl; omega
  | [x] => rw [hG] at hl; simp at hl; omega
  | x :: y :: l =>
    exfalso
    rw [hG] at hs idx
    have hxy : x < y := by
      simp only [List.pairwise_cons, List.mem_cons] at hs
      exact hs.1 y (Or.inl rfl)
    obtain ⟨n1, e1, l1, d1⟩ := idx x (by simp)
    obtain ⟨n2, e2, l2, d2⟩ := idx y (by simp)
    have := (plcP_inj hg hst hof hst hof (k := x) (k2 := y) (by omega) (by omega) (by rw [d1, d2]) rfl).2.2
    omega
end Go.Proofs
