/-
  The memory's Load: these records alone.
-/
import Derived.Test.YtjikegaipldnhaaRam
namespace Go.Proofs
open Go Go.Ev
set_option linter.unusedSimpArgs false
set_option linter.unusedVariables false
set_option maxRecDepth 100000

/-- what Load answers, the power behind it, and what the memory holds then -/
def loadP (pw : Pow) (size : Int) (bs : List Int) (rs : List Rec) : Int × Pow × List Int :=
  if pw.on = false then (4, pw, bs)
  else if size < 37 * (rs.length : Int) then (9, pw, bs)
  else if (stepP pw).1 = false then (4, (stepP pw).2, bs)
  else (0, (stepP pw).2, rs.flatMap packB)
theorem len_flatPack (rs : List Rec) : (rs.flatMap packB).length = 37 * rs.length := by
  induction rs with
  | nil => rfl
  | cons r rs ih => rw [List.flatMap_cons, List.length_append, ih, len_packB, List.length_cons]; omega
theorem bytes_ne {w : World} {b1 : Nat} {pp : Option Addr} {ll cc : Nat} {ys : List Int} {k : Nat} {cs : Array Value} {t : TypeId} {f : Nat × Nat} (ho : OwnL byLay w b1 5 pp ll cc ys) (hk : Has w k (.cells cs t f)) (ht : t ≠ 5) : ¬ pp = some ⟨k, 0, none⟩ := by
  intro hp
  rcases Own.cases ho with ⟨h0, _⟩ | ⟨b', cur, h0, _, hg, _⟩
  · rw [h0] at hp; cases hp
  · rw [h0] at hp; cases hp
    have := hg.inj hk
    simp only [Obj.cells.injEq] at this
    exact ht this.2.1.symm
section calls
variable {w : World} {base m r : Nat} {size : Int} {p : Option Addr} {l c : Nat} {bs : List Int} {R : Value → World → Prop}
theorem ra_Load {pw : Pow} {rs : List Rec} {lp : Option Addr} {ll lc : Nat} (h : RaAt w base m r size p l c bs) (hm : MaAt w m pw) (hrs : SlL rLay w lp ll rs) (hx : ∀ x ∈ rs, recGood x = true) (hs : 37 ≤ size) (hs2 : size ≤ 65536) (hl : ll ≤ 1000000) (hb : base ≤ w.heap.size)
    (hK : ∀ p' l' c' w', RaAt w' base m r size p' l' c' (loadP pw size bs rs).2.2 → MaAt w' m (loadP pw size bs rs).2.1 → (p' = p ∨ ∀ k, p' = some ⟨k, 0, none⟩ → w.heap.size ≤ k) → Keep (fun k => k = m ∨ k = r) w w' → R (.int .i64 (loadP pw size bs rs).1) w') :
    CallV Try.prog 56 #[.pointer (some ⟨r, 0, none⟩), .slice lp ll lc] w R := by
  apply C_nvram_Ram_Load
  unfold F_nvram_Ram_Load
  have hll := hrs.1
  have hmr : m ≠ r := fun e => by
    subst e
    have := (show Has w m _ from hm).inj h.cells
    simp only [Obj.cells.injEq] at this
    exact absurd this.2.1 (by decide)
  generalize hq : w.heap.size = q at *
  refine LoopC_of (σ := (Option Addr × Nat × Nat) × Int × Unit) (fun st w' => ∃ (k j : Nat), st.2.1 = (k : Int) ∧ k ≤ ll ∧ j ≤ k ∧ (37 * (j : Int) ≤ size + 37) ∧ (j = k ∨ size < 37 * (j : Int)) ∧ st.1.2.1 = 37 * j ∧ OwnL byLay w' q 5 st.1.1 (37 * j) st.1.2.2 ((rs.take j).flatMap packB) ∧ Keep (fun k => q ≤ k) w w')
    (fun st _ => (ll - st.2.1).toNat) ⟨0, 0, rfl, by omega, by omega, by omega, Or.inl rfl, rfl, OwnL.nil, Keep.refl _ _⟩ ?_
  rintro _ ⟨⟨p1, l1, c1⟩, i1, u⟩ w1 ⟨k, j, hi, hk, hjk, hj, hjj, hl1, o1, k1⟩
  simp only at hi hl1 o1 ⊢
  subst hi hl1
  have k01 : Keep (fun _ => False) w w1 := ⟨k1.os, k1.tape, k1.output, k1.size, fun i hi _ => k1.block i hi (by omega)⟩
  refine Cb_of (fun hc => ?_) (fun hc => ?_)
  · have hc : k < ll := by simpa using hc
    have hget : rs[k]? = some rs[k] := List.getElem?_eq_getElem (by omega)
    generalize hr : rs[k] = x at hget
    refine (hrs.keepB k01 (by simp)).ldA (i := (k : Int)) (n := 19) (x := x) rfl (by omega) (by simpa using hget) ?_
    refine copy_of zc_rc rfl (one_recV x) fun w3 hb3 k2' z3 => ?_
    refine LdA_all hb3 rfl ?_
    have hgx := hx x (List.mem_of_getElem? hget)
    refine c_Pack (fun hg _ _ => by rw [hgx] at hg; cases hg) (fun _ g c4 w4 o4 k4 => ?_)
    refine T2_mk.2 (OpS_slice.2 (OpI_int.2 ?_))
    refine (Cb_false (p := _)).2 ?_
    have k14 := k2'.trans k4
    have k04 := k01.trans k14
    refine LdV_has (v := .int .i64 size) (k04.has h.cells (by simp)) rfl ?_
    refine OpI_int.2 ?_
    have e1 : IntKind.wrap .i64 ((k : Int) + 1) = ((k + 1 : Nat) : Int) := by rw [wrapI (by omega) (by omega)]; omega
    have hq4 : q ≤ w4.heap.size := by have := k1.size; have := k14.size; omega
    refine Cb_of (fun hc2 => ?_) (fun hc2 => ?_)
    · have hc2 : 37 * (j : Int) ≤ size := by simp only [decide_eq_true_eq] at hc2; omega
      have hjk' : j = k := by rcases hjj with h | h; exact h; omega
      subst hjk'
      obtain ⟨p5, c5, w5, hr5, o5, k5, hp5⟩ := run_appendF byLayT (o1.keep k14 (by simp)) o4.sl (ty := 22) (c2 := c4) (by omega) (by simp only [maxLen]; omega) hq4
      refine ⟨_, _, hr5, OpS_slice.2 ?_⟩
      have et : (rs.take (j + 1)).flatMap packB = (rs.take j).flatMap packB ++ packB x := by
        rw [List.take_add_one, hget]; simp
      have e37 : 37 * j + 37 = 37 * (j + 1) := by omega
      refine ⟨_, ?_, ⟨j + 1, j + 1, e1, by omega, Nat.le_refl _, by omega, Or.inl rfl, e37, ?_, ?_⟩, rfl⟩
      · show ((ll : Int) - IntKind.wrap .i64 ((j : Int) + 1)).toNat < ((ll : Int) - (j : Int)).toNat
        rw [e1]; omega
      · show OwnL byLay w5 q 5 p5 (37 * (j + 1)) c5 _
        rw [et, ← e37]; exact o5
      · refine (k1.trans (k14.mono (by simp))).trans (k5.mono fun i hi => ?_)
        exact (o1.lt hi).1
    · have hc2 : size < 37 * (j : Int) := by simp only [decide_eq_false_iff_not] at hc2; omega
      refine ⟨_, ?_, ⟨k + 1, j, e1, by omega, by omega, hj, Or.inr hc2, rfl, o1.keep k14 (by simp), k1.trans (k14.mono (by simp))⟩, rfl⟩
      show ((ll : Int) - IntKind.wrap .i64 ((k : Int) + 1)).toNat < ((ll : Int) - (k : Int)).toNat
      rw [e1]; omega
  · have hc : k = ll := by
      have : ¬ ((k : Int) < (ll : Int)) := by simpa using hc
      omega
    have hr1 := k01.has h.cells (by simp)
    have hm1 : MaAt w1 m pw := k01.has hm (by simp)
    have ow1 := h.row.keep k01 (by simp)
    unfold loadP at hK
    have kM : ∀ {w'}, Keep (fun _ => False) w w' → Keep (fun k => k = m ∨ k = r) w w' := fun k => k.mono (by simp)
    refine LdV_has (v := .pointer (some ⟨m, 0, none⟩)) hr1 rfl ?_
    refine OpN_some.2 ?_
    refine ma_On hm1 ?_
    refine OpB_bool.2 ?_
    refine Cb_of (fun hon => ?_) (fun hon => ?_)
    · have hon : pw.on = false := by simpa using hon
      rw [if_pos hon] at hK
      exact Ret_nil.2 (hK p l c w1 ⟨hr1, ow1⟩ hm1 (Or.inl rfl) (kM k01))
    have hon : pw.on = true := by simpa using hon
    rw [if_neg (by rw [hon]; simp)] at hK
    refine LdV_has (v := .int .i64 size) hr1 rfl ?_
    refine OpI_int.2 ?_
    refine Cb_of (fun hsz => ?_) (fun hsz => ?_)
    · have hsz : size < 37 * (j : Int) := by simp only [decide_eq_true_eq] at hsz; omega
      rw [if_pos (by omega)] at hK
      exact Ret_nil.2 (hK p l c w1 ⟨hr1, ow1⟩ hm1 (Or.inl rfl) (kM k01))
    have hsz : 37 * (j : Int) ≤ size := by simp only [decide_eq_false_iff_not] at hsz; omega
    have hjk' : j = ll := by rcases hjj with h | h; omega; omega
    subst hjk'
    rw [if_neg (by omega)] at hK
    refine LdV_has (v := .pointer (some ⟨m, 0, none⟩)) hr1 rfl ?_
    refine OpN_some.2 ?_
    refine ma_Step hm1 fun w3 hm3 k3 z3 => ?_
    refine OpB_bool.2 ?_
    have hr3 := k3.has hr1 (fun e => hmr e.symm)
    have k03 : Keep (fun k => k = m ∨ k = r) w w3 := (kM k01).trans (k3.mono fun k hk => Or.inl hk)
    have ow3 : OwnL byLay w3 base 5 p l c bs := ow1.keep k3 fun k hk e => by
      subst e
      exact bytes_ne ow1 (show Has w1 _ _ from hm1) (by decide) hk
    have on3 : OwnL byLay w3 q 5 p1 (37 * j) c1 ((rs.take j).flatMap packB) := o1.keep k3 fun k hk e => by
      subst e
      exact bytes_ne o1 (show Has w1 _ _ from hm1) (by decide) hk
    refine Cb_of (fun hst => ?_) (fun hst => ?_)
    · have hst : (stepP pw).1 = false := by simpa using hst
      rw [if_pos hst] at hK
      exact Ret_nil.2 (hK p l c w3 ⟨hr3, ow3⟩ hm3 (Or.inl rfl) k03)
    · have hst : (stepP pw).1 = true := by simpa using hst
      rw [if_neg (by rw [hst]; simp)] at hK
      have eall : (rs.take j).flatMap packB = rs.flatMap packB := by rw [List.take_of_length_le (by omega)]
      rw [eall] at on3
      refine StV_of hr3 (by show 2 < 3; decide) rfl ?_
      refine Ret_nil.2 (hK p1 (37 * j) c1 _ ⟨hr3.upd_same _, ?_⟩ (Has.upd hm3 hmr) ?_ ?_)
      · exact (on3.rebase hb).keep (Keep.one _ _ _) fun k hk e => by subst e; exact bytes_ne on3 hr3 (by decide) hk
      · exact Or.inr fun k hk => (on3.lt hk).1
      · exact k03.upd (fun _ => Or.inr rfl) _
end calls
end Go.Proofs
