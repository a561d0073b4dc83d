/-
  THE REFERENCES' LAYOUT: Column.
-/
import Derived.Test.YtdeaollkgckppaaHurtP
namespace Go.Proofs
open Go Go.Ev
set_option linter.unusedSimpArgs false
set_option linter.unusedVariables false
set_option maxRecDepth 100000

theorem first_of {g : Geo} (hg : GeoOk g) {st : Int} (k : Int) : (plcP g st 0 k).dk = (g.d + 1 - st % g.d + k) % g.d := by
  show (firstP g st + k) % g.d = _
  unfold firstP
  rw [Int.emod_add_emod]
  have : 2 * g.d + 1 - st % g.d + k = (g.d + 1 - st % g.d + k) + g.d := by omega
  rw [this, Int.add_emod_right]
/-- the spot of the next sector -/
theorem spot_succ {g : Geo} (hg : GeoOk g) {i : Int} (h0 : 0 ≤ i) (h1 : i < (g.d - 2) * g.c * g.s) : spotP g (i + 1) =
    if (spotP g i).2.2 + 1 = g.c then (if (spotP g i).2.1 + 1 = g.d - 2 then ((spotP g i).1 + 1, 0, 0) else ((spotP g i).1, (spotP g i).2.1 + 1, 0)) else ((spotP g i).1, (spotP g i).2.1, (spotP g i).2.2 + 1) := by
  obtain ⟨pst, pco, pof⟩ := spotP_ok hg h0 h1
  have hl := lbaP_spot hg i
  have hc := hg.c
  have hd := hg.d
  generalize spotP g i = x at *
  unfold lbaP at hl
  by_cases e : x.2.2 + 1 = g.c
  · rw [if_pos e]
    by_cases e2 : x.2.1 + 1 = g.d - 2
    · rw [if_pos e2]
      have : i + 1 = lbaP g (x.1 + 1) 0 0 := by
        unfold lbaP
        rw [Int.add_mul x.1, Int.add_zero, Int.add_zero, Int.one_mul, ← e2, ← Int.add_assoc, Int.add_mul _ 1, Int.one_mul, e2, ← hl, ← e]
        omega
      rw [this]
      exact spotP_lba hg (by omega) (by omega) (by omega)
    · rw [if_neg e2]
      have : i + 1 = lbaP g x.1 0 (x.2.1 + 1) := by
        unfold lbaP
        rw [← Int.add_assoc, Int.add_mul _ 1, Int.one_mul, ← hl]
        omega
      rw [this]
      exact spotP_lba hg (by omega) (by omega) (by omega)
  · rw [if_neg e]
    have : i + 1 = lbaP g x.1 (x.2.2 + 1) x.2.1 := by
      unfold lbaP
      rw [← hl]
      omega
    rw [this]
    exact spotP_lba hg (by omega) (by omega) (by omega)
section calls
variable {w : World} {g : Geo} {R : Value → World → Prop}
theorem r3_Column (hg : GeoOk g) {st k : Int} (hst : 0 ≤ st ∧ st ≤ 1000) (hk : 0 ≤ k ∧ k < g.d) (hK : ∀ w', Keep (fun _ => False) w w' → R (.int .i64 (plcP g st 0 k).dk) w') : CallV Try.prog 27 #[.agg (geoV g), .int .i64 st, .int .i64 k] w R := by
  apply C_ravelinref03_Column
  unfold F_ravelinref03_Column
  have hf := first_of hg (st := st) k
  obtain ⟨⟨d1, d2⟩, _, _⟩ := hg
  have m0 := Int.emod_nonneg st (show g.d ≠ 0 by omega)
  have m1 := Int.emod_lt_of_pos st (show 0 < g.d by omega)
  refine alc_fresh fun w1 hb k1 z1 => ?_
  refine LdV_has (v := .int .i64 g.d) hb rfl (OpI_int.2 ?_)
  refine LdV_has (v := .int .i64 g.d) hb rfl (OpI_int.2 ⟨by omega, fun d => ?_⟩)
  have hb1 := hb.dr d
  have kd := k1.dr d
  rw [Int.tmod_eq_emod_of_nonneg hst.1, wrapI (x := g.d - 1) (by omega) (by omega), wrapI (x := g.d - 1 - st % g.d) (by omega) (by omega)]
  refine LdV_has (v := .int .i64 g.d) hb1 rfl (OpI_int.2 ?_)
  rw [wrapI (x := g.d - 2) (by omega) (by omega)]
  rw [hf] at hK
  generalize st % g.d = r at *
  refine Cb_of (fun h => ?_) (fun h => ?_)
  · have h : k = g.d - 2 := by simpa using h
    refine Ret_nil.2 ?_
    have e : (g.d + 1 - r + k) % g.d = g.d - 1 - r := by
      rw [h, show g.d + 1 - r + (g.d - 2) = (g.d - 1 - r) + g.d by omega, Int.add_emod_right]
      exact Int.emod_eq_of_lt (by omega) (by omega)
    rw [e] at hK
    exact hK _ kd
  · have h : ¬ k = g.d - 2 := by simpa using h
    refine LdV_has (v := .int .i64 g.d) hb1 rfl (OpI_int.2 ⟨by omega, ?_⟩)
    rw [wrapI (x := g.d - 1 - r + 1) (by omega) (by omega), Int.tmod_eq_emod_of_nonneg (by omega)]
    refine LdV_has (v := .int .i64 g.d) hb1 rfl (OpI_int.2 ?_)
    rw [wrapI (x := g.d - 1) (by omega) (by omega)]
    have q0 := Int.emod_nonneg (g.d - 1 - r + 1) (show g.d ≠ 0 by omega)
    have q1 := Int.emod_lt_of_pos (g.d - 1 - r + 1) (show 0 < g.d by omega)
    refine Cb_of (fun h2 => ?_) (fun h2 => ?_)
    · have h2 : k = g.d - 1 := by simpa using h2
      refine Ret_nil.2 ?_
      have e : (g.d + 1 - r + k) % g.d = (g.d - 1 - r + 1) % g.d := by
        rw [h2, show g.d + 1 - r + (g.d - 1) = (g.d - 1 - r + 1) + g.d by omega, Int.add_emod_right]
      rw [e] at hK
      exact hK _ kd
    · refine LdV_has (v := .int .i64 g.d) hb1 rfl (OpI_int.2 ⟨by omega, ?_⟩)
      refine Ret_nil.2 ?_
      have e : (g.d + 1 - r + k) % g.d = ((g.d - 1 - r + 1) % g.d + 1 + k) % g.d := by
        rw [Int.add_assoc ((g.d - 1 - r + 1) % g.d), Int.emod_add_emod]
        congr 1
        omega
      rw [e] at hK
      rw [wrapI (x := (g.d - 1 - r + 1) % g.d + 1) (by omega) (by omega), wrapI (x := (g.d - 1 - r + 1) % g.d + 1 + k) (by omega) (by omega), Int.tmod_eq_emod_of_nonneg (by omega)]
      exact hK _ kd
theorem r3_Back (hg : GeoOk g) {st off : Int} (hst : 0 ≤ st ∧ st < g.s) (hof : 0 ≤ off ∧ off < g.c) {k : Nat} (hk : (k : Int) < g.d) (hK : ∀ w', Keep (fun _ => False) w w' → R (.tuple #[.int .i64 (if (k : Int) ≥ g.d - 2 then -1 else lbaP g st off (k : Int)), .int .i64 (k : Int), .int .i64 0]) w') :
    CallV Try.prog 22 #[.agg (geoV g), .agg (plcV (plcP g st off (k : Int)))] w R := by
  apply C_ravelinref03_Back
  unfold F_ravelinref03_Back
  have hh := hg
  obtain ⟨⟨pk0, pk1⟩, ⟨pa0, pa1⟩⟩ := plcP_ok hg hst hof (k : Int)
  have hsz := hg.size
  have hat : (plcP g st off (k : Int)).at_ = st * g.c + off := rfl
  obtain ⟨⟨d1, d2⟩, ⟨c1, c2⟩, ⟨s1, s2⟩⟩ := hg
  have ed : (plcP g st off (k : Int)).at_ / g.c = st := by rw [hat, Int.add_comm, Int.add_mul_ediv_right _ _ (by omega), Int.ediv_eq_zero_of_lt hof.1 hof.2, Int.zero_add]
  have em : (plcP g st off (k : Int)).at_ % g.c = off := by rw [hat, Int.add_comm, Int.add_mul_emod_self_right, Int.emod_eq_of_lt hof.1 hof.2]
  have hdk : ∀ j : Int, (plcP g st 0 j).dk = (plcP g st off j).dk := fun j => rfl
  generalize hx : plcP g st off (k : Int) = x at *
  refine alc_fresh fun w1 hb1 k1 z1 => ?_
  refine alc_fresh fun w2 hb2 k2 z2 => ?_
  have hg2 := k2.has hb1 (by simp)
  refine LdA_all hg2 rfl ?_
  refine r3_Size hh fun w3 k3 => ?_
  have hg3 := k3.has hg2 (by simp)
  have hp3 := k3.has hb2 (by simp)
  have k03 := (k1.trans k2).trans k3
  refine T2_mk.2 (OpI_int.2 (OpI_int.2 ((Cb_false (p := _)).2 ?_)))
  refine LdV_has (v := .int .i64 x.dk) hp3 rfl (OpI_int.2 ?_)
  rw [decide_eq_false (show ¬ x.dk < 0 by omega)]
  refine (Cb_false (p := _)).2 ?_
  refine LdV_has (v := .int .i64 x.dk) hp3 rfl (OpI_int.2 ?_)
  refine LdV_has (v := .int .i64 g.d) hg3 rfl (OpI_int.2 ?_)
  rw [decide_eq_false (show ¬ x.dk ≥ g.d by omega)]
  refine (Cb_false (p := _)).2 ?_
  refine LdV_has (v := .int .i64 x.at_) hp3 rfl (OpI_int.2 ?_)
  rw [decide_eq_false (show ¬ x.at_ < 0 by omega)]
  refine (Cb_false (p := _)).2 ?_
  refine LdV_has (v := .int .i64 x.at_) hp3 rfl (OpI_int.2 ?_)
  rw [decide_eq_false (show ¬ x.at_ ≥ g.c * g.s by omega)]
  refine (Cb_false (p := _)).2 ?_
  refine LdV_has (v := .int .i64 x.at_) hp3 rfl (OpI_int.2 ?_)
  refine LdV_has (v := .int .i64 g.c) hg3 rfl (OpI_int.2 ⟨by omega, ?_⟩)
  refine LdV_has (v := .int .i64 x.at_) hp3 rfl (OpI_int.2 ?_)
  refine LdV_has (v := .int .i64 g.c) hg3 rfl (OpI_int.2 ⟨by omega, ?_⟩)
  rw [Int.tdiv_eq_ediv_of_nonneg pa0, Int.tmod_eq_emod_of_nonneg pa0, ed, em, wrapI (x := st) (by omega) (by omega)]
  intro dd
  have hg4 := hg3.dr dd
  have hp4 := hp3.dr dd
  have k04 := k03.dr dd
  refine LoopC_of (σ := Int × Unit) (fun s w' => ∃ j : Nat, s.1 = (j : Int) ∧ j ≤ k ∧ Has w' w.heap.size (.cells (geoV g) 25 (0, 0)) ∧ Has w' w1.heap.size (.cells (plcV x) 53 (0, 0)) ∧ Keep (fun _ => False) w w') (fun s _ => (g.d - s.1).toNat) ⟨0, rfl, by omega, hg4, hp4, k04⟩ ?_
  rintro _ ⟨j, u⟩ w5 ⟨j', hj, hjk, hg5, hp5, k5⟩
  simp only at hj ⊢
  subst hj
  refine LdV_has (v := .int .i64 g.d) hg5 rfl (OpI_int.2 ?_)
  rw [decide_eq_true (show (j' : Int) < g.d by omega)]
  refine (Cb_true (q := _)).2 ?_
  intro d6
  have hg6 := hg5.dr d6
  have hp6 := hp5.dr d6
  have k6 := k5.dr d6
  refine ⟨fun w' => Has w' w1.heap.size (.cells (plcV x) 53 (0, 0)), hp6, ?_⟩
  refine LdA_all hg6 rfl ?_
  refine LdV_of (v := .int .i64 x.dk) (fun w' hw => ⟨_, _, _, hw, rfl⟩) (OpI_int.2 ?_)
  refine r3_Column hh (k := (j' : Int)) ⟨by omega, by omega⟩ ⟨by omega, by omega⟩ fun w7 k7 => OpI_int.2 ⟨k7.has hp6 (by simp), ?_⟩
  have hg7 := k7.has hg6 (by simp)
  have hp7 := k7.has hp6 (by simp)
  have k07 := k6.trans k7
  have ek : IntKind.wrap .i64 ((j' : Int) + 1) = ((j' + 1 : Nat) : Int) := by rw [wrapI (by omega) (by omega)]; omega
  rw [hdk, ← hx]
  by_cases e : j' = k
  · subst e
    have e1 : ((plcP g st off (j' : Int)).dk != (plcP g st off (j' : Int)).dk) = false := by simp
    rw [e1]
    refine (Cb_false (p := _)).2 ?_
    refine LdV_has (v := .int .i64 g.d) hg7 rfl (OpI_int.2 ?_)
    rw [wrapI (x := g.d - 2) (by omega) (by omega)]
    refine Cb_of (fun h => ?_) (fun h => ?_)
    · have h : (j' : Int) ≥ g.d - 2 := by simpa using h
      rw [if_pos h] at hK
      exact Ret_nil.2 (hK w7 k07)
    · have h : ¬ (j' : Int) ≥ g.d - 2 := by simpa using h
      rw [if_neg h] at hK
      refine LdV_has (v := .int .i64 g.d) hg7 rfl (OpI_int.2 ?_)
      refine LdV_has (v := .int .i64 g.c) hg7 rfl (OpI_int.2 ?_)
      refine LdV_has (v := .int .i64 g.c) hg7 rfl (OpI_int.2 (Ret_nil.2 ?_))
      have m1 := Int.mul_le_mul (show st ≤ 64 by omega) (show g.d - 2 ≤ 30 by omega) (by omega) (by omega)
      have m0 := Int.mul_nonneg hst.1 (show 0 ≤ g.d - 2 by omega)
      have m3 := Int.mul_le_mul m1 c2 (by omega) (by omega)
      have m2 := Int.mul_nonneg m0 (show 0 ≤ g.c by omega)
      have n1 := Int.mul_le_mul (show (j' : Int) ≤ 32 by omega) c2 (by omega) (by omega)
      have n0 := Int.mul_nonneg (show 0 ≤ (j' : Int) by omega) (show 0 ≤ g.c by omega)
      rw [wrapI (x := g.d - 2) (by omega) (by omega), wrapI (x := st * (g.d - 2)) (by omega) (by omega), wrapI (x := st * (g.d - 2) * g.c) (by omega) (by omega), wrapI (x := (j' : Int) * g.c) (by omega) (by omega), wrapI (x := st * (g.d - 2) * g.c + (j' : Int) * g.c) (by omega) (by omega), wrapI (by omega) (by omega), ← Int.add_mul]
      exact hK w7 k07
  · have hne : ((plcP g st off (j' : Int)).dk != (plcP g st off (k : Int)).dk) = true := by
      simp only [bne_iff_ne, ne_eq]
      intro h
      have := (plcP_inj hh hst hof hst hof (by omega) (by omega) h rfl).2.2
      omega
    rw [hne]
    refine (Cb_true (q := _)).2 ?_
    exact ⟨_, by show (g.d - IntKind.wrap .i64 ((j' : Int) + 1)).toNat < (g.d - (j' : Int)).toNat; rw [ek]; omega, ⟨j' + 1, ek, by omega, hg7, (by rw [hx]; exact hp7), k07⟩, rfl⟩
end calls
end Go.Proofs
