/-
  THE REFERENCES' LAYOUT: Map.
-/
import Derived.Test.YtdeaollkgckppaaColM
namespace Go.Proofs
open Go Go.Ev
set_option linter.unusedSimpArgs false
set_option linter.unusedVariables false
set_option maxRecDepth 100000

section calls
variable {w : World} {g : Geo} {R : Value → World → Prop}
theorem stSpot {b b3 : Nat} {x y : Int × Int × Int} {i : Nat} {v : Int} {K : World → Prop} (h3 : Has w b3 (.cells (spotV x) 51 (0, 0))) (hg : Has w b (.cells (geoV g) 25 (0, 0))) (hi : i < 3) (hy : (spotV x).setIfInBounds i (.int .i64 v) = spotV y)
    (hK : ∀ w', Has w' b3 (.cells (spotV y) 51 (0, 0)) → Has w' b (.cells (geoV g) 25 (0, 0)) → Keep (fun k => k = b3) w w' → K w') : StV b3 i (.int .i64 v) w K := by
  refine StV_of h3 (by show i < 3; exact hi) rfl ?_
  rw [hy]
  have ku : Keep (fun k => k = b3) w (w.upd b3 (.cells (spotV y) 51 (0, 0))) := (Keep.refl (fun k => k = b3) w).upd (fun _ => rfl) _
  exact hK _ (h3.upd_same _) (ku.has hg (hg.ne h3 (by simp only [ne_eq, Obj.cells.injEq]; intro e; exact absurd e.2.1 (by decide)))) ku
/-- one turn of the count -/
def SpotT (b b3 : Nat) (w : World) (K : World → Prop) : Prop :=
  LdV b3 2 (At w) fun v8 => OpI .i64 v8 fun n2 => StV b3 2 (.int .i64 (IntKind.wrap .i64 (n2 + 1))) w fun
  w => LdV b3 2 (At w) fun v9 => OpI .i64 v9 fun n3 => LdV b 1 (At w) fun v10 => OpI .i64 v10 fun n4 => Cb (n3 == n4) (StV b3 2 (.int .i64 0) w fun w => LdV b3 1 (At w) fun
  v11 => OpI .i64 v11 fun n5 => StV b3 1 (.int .i64 (IntKind.wrap .i64 (n5 + 1))) w fun w => LdV b3 1 (At w) fun v12 => OpI .i64 v12 fun n6 => LdV b 0 (At w) fun v13 => OpI
  .i64 v13 fun n7 => Cb (n6 == (IntKind.wrap .i64 (n7 - 2))) (StV b3 1 (.int .i64 0) w fun w => LdV b3 0 (At w) fun v14 => OpI .i64 v14 fun n8 => StV b3 0 (.int .i64
  (IntKind.wrap .i64 (n8 + 1))) w fun w => K w) (K w)) (LdV b3 1 (At w) fun v15 => OpI .i64 v15 fun
  n9 => LdV b 0 (At w) fun v16 => OpI .i64 v16 fun n10 => Cb (n9 == (IntKind.wrap .i64 (n10 - 2))) (StV b3 1 (.int .i64 0) w fun w => LdV b3 0 (At w) fun v17 => OpI .i64 v17
  fun n11 => StV b3 0 (.int .i64 (IntKind.wrap .i64 (n11 + 1))) w fun w => K w) (K w))
theorem spotT (hg : GeoOk g) {b b3 : Nat} {i : Int} (h0 : 0 ≤ i) (h1 : i < (g.d - 2) * g.c * g.s) (h3 : Has w b3 (.cells (spotV (spotP g i)) 51 (0, 0))) (hgb : Has w b (.cells (geoV g) 25 (0, 0))) {K : World → Prop}
    (hK : ∀ w', Has w' b3 (.cells (spotV (spotP g (i + 1))) 51 (0, 0)) → Has w' b (.cells (geoV g) 25 (0, 0)) → Keep (fun k => k = b3) w w' → K w') : SpotT b b3 w K := by
  unfold SpotT
  rw [spot_succ hg h0 h1] at hK
  obtain ⟨pst, pco, pof⟩ := spotP_ok hg h0 h1
  obtain ⟨⟨d1, d2⟩, ⟨c1, c2⟩, ⟨s1, s2⟩⟩ := hg
  generalize spotP g i = x at *
  obtain ⟨st, co, of_⟩ := x
  simp only at hK pst pco pof
  refine LdV_has (v := .int .i64 of_) h3 rfl (OpI_int.2 ?_)
  rw [wrapI (x := of_ + 1) (by omega) (by omega)]
  refine stSpot (y := (st, co, of_ + 1)) h3 hgb (by decide) rfl fun w1 a1 g1 k1 => ?_
  refine LdV_has (v := .int .i64 (of_ + 1)) a1 rfl (OpI_int.2 ?_)
  refine LdV_has (v := .int .i64 g.c) g1 rfl (OpI_int.2 ?_)
  refine Cb_of (fun h => ?_) (fun h => ?_)
  · have h : of_ + 1 = g.c := by simpa using h
    rw [if_pos h] at hK
    refine stSpot (y := (st, co, 0)) a1 g1 (by decide) rfl fun w2 a2 g2 k2 => ?_
    refine LdV_has (v := .int .i64 co) a2 rfl (OpI_int.2 ?_)
    rw [wrapI (x := co + 1) (by omega) (by omega)]
    refine stSpot (y := (st, co + 1, 0)) a2 g2 (by decide) rfl fun w3 a3 g3 k3 => ?_
    refine LdV_has (v := .int .i64 (co + 1)) a3 rfl (OpI_int.2 ?_)
    refine LdV_has (v := .int .i64 g.d) g3 rfl (OpI_int.2 ?_)
    rw [wrapI (x := g.d - 2) (by omega) (by omega)]
    have k13 := (k1.trans k2).trans k3
    refine Cb_of (fun h2 => ?_) (fun h2 => ?_)
    · have h2 : co + 1 = g.d - 2 := by simpa using h2
      rw [if_pos h2] at hK
      refine stSpot (y := (st, 0, 0)) a3 g3 (by decide) rfl fun w4 a4 g4 k4 => ?_
      refine LdV_has (v := .int .i64 st) a4 rfl (OpI_int.2 ?_)
      rw [wrapI (x := st + 1) (by omega) (by omega)]
      refine stSpot (y := (st + 1, 0, 0)) a4 g4 (by decide) rfl fun w5 a5 g5 k5 => ?_
      exact hK w5 a5 g5 ((k13.trans k4).trans k5)
    · have h2 : ¬ co + 1 = g.d - 2 := by simpa using h2
      rw [if_neg h2] at hK
      exact hK w3 a3 g3 k13
  · have h : ¬ of_ + 1 = g.c := by simpa using h
    rw [if_neg h] at hK
    refine LdV_has (v := .int .i64 co) a1 rfl (OpI_int.2 ?_)
    refine LdV_has (v := .int .i64 g.d) g1 rfl (OpI_int.2 ?_)
    rw [wrapI (x := g.d - 2) (by omega) (by omega)]
    have e : (co == g.d - 2) = false := by
      rw [beq_eq_false_iff_ne]; omega
    rw [e]
    exact (Cb_false (p := _)).2 (hK w1 a1 g1 k1)
theorem r3_Map (hg : GeoOk g) {lba : Int} (h0 : 0 ≤ lba) (h1 : lba < (g.d - 2) * g.c * g.s) (hK : ∀ w', Keep (fun _ => False) w w' → R (.tuple #[.agg (spotV (spotP g lba)), .agg (plcV (plcP g (spotP g lba).1 (spotP g lba).2.2 (spotP g lba).2.1)), .int .i64 0]) w') :
    CallV Try.prog 20 #[.agg (geoV g), .int .i64 lba] w R := by
  apply C_ravelinref03_Map
  unfold F_ravelinref03_Map
  have hcap := hg.cap
  refine alc_fresh fun w1 hb1 k1 z1 => ?_
  refine alc_fresh fun w2 hb2 k2 z2 => ?_
  refine alc_fresh fun w3 hb3 k3 z3 => ?_
  have hg3 := (k2.trans k3).has hb1 (by simp)
  refine LdA_all hg3 rfl ?_
  refine r3_Cap hg fun w4 k4 => ?_
  refine T2_mk.2 (OpI_int.2 (OpI_int.2 ((Cb_false (p := _)).2 ⟨rfl, rfl, rfl, ?_⟩)))
  rw [decide_eq_false (show ¬ lba < 0 by omega), decide_eq_false (show ¬ lba ≥ (g.d - 2) * g.c * g.s by omega)]
  refine (Cb_false (p := _)).2 ?_
  have hg4 := k4.has hg3 (by simp)
  have hs4 := k4.has (k3.has hb2 (by simp)) (by simp)
  have hp4 := k4.has hb3 (by simp)
  have k04 := ((k1.trans k2).trans k3).trans k4
  refine DoQ_of (v := .agg (spotV (0, 0, 0))) (fun _ => run_build _ _ _ _ (by kernel_rfl)) (OpA_agg.2 ⟨rfl, ?_⟩)
  refine copy_of (by rw [zc_spot]; rfl) rfl (one_spotV _) fun w5 hb5 k5 z5 => ?_
  have hg5 := k5.has hg4 (by simp)
  have hs5 := k5.has hs4 (by simp)
  have hp5 := k5.has hp4 (by simp)
  have k05 := k04.trans k5
  have lt4 := hp4.lt
  have e1 : w1.heap.size = w.heap.size + 1 := z1
  have e2 : w2.heap.size = w1.heap.size + 1 := z2
  generalize hb4 : w4.heap.size = b3 at *
  generalize hbp : w2.heap.size = bp at *
  generalize hbs : w1.heap.size = bs at *
  generalize hb : w.heap.size = b at *
  have hsp0 : spotP g 0 = (0, 0, 0) := by
    unfold spotP
    simp
  refine LoopC_of (σ := Int × Unit) (fun s w' => ∃ i : Nat, s.1 = (i : Int) ∧ (i : Int) ≤ lba ∧ Has w' b3 (.cells (spotV (spotP g (i : Int))) 51 (0, 0)) ∧ Has w' b (.cells (geoV g) 25 (0, 0)) ∧ Keep (fun k => k = b3) w5 w') (fun s _ => (lba - s.1).toNat)
    ⟨0, rfl, by omega, by rw [show ((0 : Nat) : Int) = 0 from rfl, hsp0]; exact hb5, hg5, Keep.refl _ _⟩ ?_
  rintro _ ⟨i, u⟩ w6 ⟨i', hi, hil, h6, hg6, k6⟩
  simp only at hi ⊢
  subst hi
  refine Cb_of (fun hc => ?_) (fun hc => ?_)
  · have hc : (i' : Int) < lba := by simpa using hc
    have ek : IntKind.wrap .i64 ((i' : Int) + 1) = ((i' + 1 : Nat) : Int) := by rw [wrapI (by omega) (by omega)]; omega
    refine spotT hg (i := (i' : Int)) (by omega) (by omega) h6 hg6 fun w7 h7 hg7 k7 => ?_
    exact ⟨_, by show (lba - IntKind.wrap .i64 ((i' : Int) + 1)).toNat < (lba - (i' : Int)).toNat; rw [ek]; omega, ⟨i' + 1, ek, by omega, by rw [show (((i' + 1 : Nat)) : Int) = (i' : Int) + 1 by omega]; exact h7, hg7, k6.trans k7⟩, rfl⟩
  · have hc : (i' : Int) = lba := by
      have : ¬ (i' : Int) < lba := by simpa using hc
      omega
    rw [hc] at h6
    obtain ⟨pst, pco, pof⟩ := spotP_ok hg h0 h1
    have hrow := hg.row pst pof
    have hsz := hg.size
    have hgc := hg.c
    have hgs := hg.s
    have hgd := hg.d
    generalize spotP g lba = x at *
    intro d
    have h7 := h6.dr d
    have hg7 := hg6.dr d
    have k7 := k6.dr d
    generalize w6.dr d = w7 at *
    have hs7 := k7.has hs5 (by omega)
    have hp7 := k7.has hp5 (by omega)
    obtain ⟨S, hS⟩ : ∃ S : World → Prop, S = fun w' => Has w' b3 (.cells (spotV x) 51 (0, 0)) ∧ Has w' b (.cells (geoV g) 25 (0, 0)) := ⟨_, rfl⟩
    have S1 : ∀ w', S w' → Has w' b3 (.cells (spotV x) 51 (0, 0)) := fun w' h => by rw [hS] at h; exact h.1
    have S2 : ∀ w', S w' → Has w' b (.cells (geoV g) 25 (0, 0)) := fun w' h => by rw [hS] at h; exact h.2
    refine ⟨S, by rw [hS]; exact ⟨h7, hg7⟩, ?_⟩
    refine LdA_of (cs := spotV x) rfl (fun w' hw => ⟨_, _, _, S1 w' hw, Nat.le_refl 3, rfl⟩) ?_
    refine LdA_of (cs := geoV g) rfl (fun w' hw => ⟨_, _, _, S2 w' hw, Nat.le_refl 3, rfl⟩) ?_
    refine LdV_of (v := .int .i64 x.1) (fun w' hw => ⟨_, _, _, S1 w' hw, rfl⟩) (OpI_int.2 ?_)
    refine LdV_of (v := .int .i64 x.2.1) (fun w' hw => ⟨_, _, _, S1 w' hw, rfl⟩) (OpI_int.2 ?_)
    refine LdV_of (v := .int .i64 x.1) (fun w' hw => ⟨_, _, _, S1 w' hw, rfl⟩) (OpI_int.2 ?_)
    refine LdV_of (v := .int .i64 g.c) (fun w' hw => ⟨_, _, _, S2 w' hw, rfl⟩) (OpI_int.2 ?_)
    refine LdV_of (v := .int .i64 x.2.2) (fun w' hw => ⟨_, _, _, S1 w' hw, rfl⟩) (OpI_int.2 ?_)
    refine r3_Column hg ⟨by omega, by omega⟩ ⟨by omega, by omega⟩ fun w8 k8 => OpI_int.2 ⟨by rw [hS]; exact ⟨k8.has h7 (by simp), k8.has hg7 (by simp)⟩, ?_⟩
    rw [wrapI (x := x.1 * g.c) (by omega) (by omega), wrapI (x := x.1 * g.c + x.2.2) (by omega) (by omega)]
    refine ⟨.agg (plcV (plcP g x.1 x.2.2 x.2.1)), fun w' _ => run_build _ _ _ _ (by kernel_rfl), OpA_agg.2 ⟨rfl, ?_⟩⟩
    have h8 := k8.has h7 (by simp)
    have hg8 := k8.has hg7 (by simp)
    have hs8 := k8.has hs7 (by simp)
    have hp8 := k8.has hp7 (by simp)
    refine StA_all hs8 rfl (by rw [zc_spot]; rfl) (one_spotV x) ?_
    have ku : Keep (fun k => k = bs) w8 (w8.upd bs (.cells (spotV x) 51 (0, 0))) := (Keep.refl (fun k => k = bs) w8).upd (fun _ => rfl) _
    have hs9 := hs8.upd_same (.cells (spotV x) 51 (0, 0))
    generalize w8.upd bs (.cells (spotV x) 51 (0, 0)) = w9 at *
    refine ⟨by rw [hS]; exact ⟨ku.has h8 (by omega), ku.has hg8 (by omega)⟩, ?_⟩
    refine StA_all (ku.has hp8 (by omega)) rfl (by rw [zc_plc]; rfl) (one_plcV _) ?_
    have kv : Keep (fun k => k = bp) w9 (w9.upd bp (.cells (plcV (plcP g x.1 x.2.2 x.2.1)) 53 (0, 0))) := (Keep.refl (fun k => k = bp) w9).upd (fun _ => rfl) _
    refine ⟨by rw [hS]; exact ⟨kv.has (ku.has h8 (by omega)) (by omega), kv.has (ku.has hg8 (by omega)) (by omega)⟩, ?_⟩
    refine LdA_all (kv.has hs9 (by omega)) rfl ?_
    refine LdA_all ((ku.has hp8 (by omega)).upd_same _) rfl (Ret_nil.2 (hK _ ?_))
    have kall : Keep (fun k => k = b3 ∨ k = bs ∨ k = bp) w (w9.upd bp (.cells (plcV (plcP g x.1 x.2.2 x.2.1)) 53 (0, 0))) := ((k05.mono fun _ h => h.elim).trans (k7.mono fun _ h => Or.inl h)).trans ((k8.mono fun _ h => h.elim).trans ((ku.mono fun _ h => Or.inr (Or.inl h)).trans (kv.mono fun _ h => Or.inr (Or.inr h))))
    exact (Keep.refl (fun _ => False) w).trans' kall fun i hi e => by rw [hb] at hi; omega
end calls
end Go.Proofs
