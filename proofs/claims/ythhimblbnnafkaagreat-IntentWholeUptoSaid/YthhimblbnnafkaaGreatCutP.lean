/-
  CELLS THAT ARE WRITTEN WITH THE POWER GOING AT ANY STEP, plain: so many of them stand, and writing all of them again makes up for it.
-/
import Derived.Test.YthhimblbnnafkaaGreatIntP
namespace Go.Proofs
open Go Go.Ev
set_option linter.unusedSimpArgs false
set_option linter.unusedVariables false
set_option maxRecDepth 100000

/-- a cell that is written, or the power goes -/
theorem apply1_cut {g : Geo} {s : SS} (h : SsOk g s) {x : PutS} (hx : Sealed g s x) (hon : s.pw.on = true) {ep : Int} (hep : (s.ds.getD x.plc.dk.toNat dsk0).key ≤ ep) :
    (apply1 s x ep).2.pw = (stepP s.pw).2 ∧ SsOk g (apply1 s x ep).2 ∧ (∀ i, deadS (apply1 s x ep).2 i = deadS s i) ∧ (∀ i : Nat, ((apply1 s x ep).2.ds.getD i dsk0).key = (s.ds.getD i dsk0).key) ∧
    (((stepP s.pw).1 = true ∧ (apply1 s x ep).1 = 0 ∧ ∀ i a, 0 ≤ i → 0 ≤ a → viewS (apply1 s x ep).2 i a = if i = x.plc.dk ∧ a = x.plc.at_ then some x.cel.data else viewS s i a) ∨
     ((stepP s.pw).1 = false ∧ (apply1 s x ep).1 = 4 ∧ ∀ i a, viewS (apply1 s x ep).2 i a = viewS s i a)) := by
  obtain ⟨hx1, hc, hs, hal⟩ := hx
  obtain ⟨⟨d0, d1⟩, ⟨a0, a1⟩⟩ := hx1
  have hn := h.num
  have hmem := h.get d0 d1
  unfold deadS at hal
  have hlt : x.plc.dk.toNat < s.ds.length := by omega
  have hslen := h.len _ hmem
  have hok := h.ok _ hmem
  cases hst : (stepP s.pw).1 with
  | false =>
    have hw : writeD s.pw (s.ds.getD x.plc.dk.toNat dsk0) x.plc.at_ x.cel ep = ((0, 4), (stepP s.pw).2, s.ds.getD x.plc.dk.toNat dsk0) := by
      unfold writeD
      rw [if_neg (by simp [hon]), if_neg (by rw [hal]; decide), if_neg (by omega), if_pos hst]
    have hset : s.ds.set x.plc.dk.toNat (s.ds.getD x.plc.dk.toNat dsk0) = s.ds := by
      rw [List.getD_eq_getElem?_getD, List.getElem?_eq_getElem hlt]
      exact List.set_getElem_self hlt
    have ha : apply1 s x ep = (4, ⟨s.ds, (stepP s.pw).2⟩) := by
      unfold apply1
      rw [hw]
      simp only [hset]
    rw [ha]
    exact ⟨rfl, ⟨h.geo, h.num, h.len, h.ok⟩, fun _ => rfl, fun _ => rfl, Or.inr ⟨rfl, rfl, fun _ _ => rfl⟩⟩
  | true =>
    have hw : writeD s.pw (s.ds.getD x.plc.dk.toNat dsk0) x.plc.at_ x.cel ep = ((1, 0), (stepP s.pw).2, { (s.ds.getD x.plc.dk.toNat dsk0) with secs := (s.ds.getD x.plc.dk.toNat dsk0).secs.set x.plc.at_.toNat ⟨x.cel, true⟩ }) := by
      unfold writeD
      rw [if_neg (by simp [hon]), if_neg (by rw [hal]; decide), if_neg (by omega), if_neg (by simp [hst])]
    have ha : apply1 s x ep = (0, ⟨s.ds.set x.plc.dk.toNat { (s.ds.getD x.plc.dk.toNat dsk0) with secs := (s.ds.getD x.plc.dk.toNat dsk0).secs.set x.plc.at_.toNat ⟨x.cel, true⟩ }, (stepP s.pw).2⟩) := by
      unfold apply1
      rw [hw]
    rw [ha]
    generalize hD : s.ds.getD x.plc.dk.toNat dsk0 = D at *
    refine ⟨rfl, ⟨h.geo, by simpa using hn, fun E hE => ?_, fun E hE => ?_⟩, fun i => ?_, fun i => ?_, Or.inl ⟨rfl, rfl, fun i a hi hia => ?_⟩⟩
    · rcases List.mem_or_eq_of_mem_set hE with hE | rfl
      · exact h.len E hE
      · simpa using hslen
    · rcases List.mem_or_eq_of_mem_set hE with hE | rfl
      · exact h.ok E hE
      · refine ⟨fun y hy => ?_, hok.2⟩
        rcases List.mem_or_eq_of_mem_set hy with hy | rfl
        · exact hok.1 y hy
        · exact ⟨hc, by show 0 ≤ x.cel.sum; rw [hs]; exact (sumS_ok _ _).1, by show x.cel.sum ≤ _; rw [hs]; exact (sumS_ok _ _).2⟩
    · unfold deadS
      simp only
      rw [getD_setS hlt]
      by_cases e : x.plc.dk.toNat = i.toNat
      · rw [if_pos e, ← e, hD]
      · rw [if_neg e]
    · simp only
      rw [getD_setS hlt]
      by_cases e : x.plc.dk.toNat = i
      · rw [if_pos e, ← e, hD]
      · rw [if_neg e]
    · unfold viewS
      simp only
      rw [getD_setS hlt]
      by_cases e : x.plc.dk.toNat = i.toNat
      · have e' : i = x.plc.dk := by omega
        rw [if_pos e, ← e, hD]
        refine (cellD_set hal ⟨a0, by omega⟩ hs hia).trans ?_
        by_cases e2 : a = x.plc.at_
        · rw [if_pos e2, if_pos ⟨e', e2⟩]
        · rw [if_neg e2, if_neg (fun h => e2 h.2)]
      · rw [if_neg e, if_neg (fun h => e (by rw [h.1]))]
/-- a step: the power is on behind it just if there was power for it -/
theorem step_on {p : Pow} (h : p.on = true) : (stepP p).2.on = (stepP p).1 := by
  unfold stepP
  rw [if_pos h]
  split
  · exact h
  · split
    · rfl
    · exact h
theorem step_lit {p : Pow} (h : p.on = true) (hl : p.left = 0) : (stepP p).1 = true ∧ (stepP p).2.left = 0 := by
  unfold stepP
  rw [if_pos h, if_pos hl]
  exact ⟨rfl, hl⟩
/-- how the set is behind writing so many of the cells -/
structure CutS (g : Geo) (s s' : SS) (xs : List PutS) : Prop where
  ss : SsOk g s'
  dead : ∀ i, deadS s' i = deadS s i
  key : ∀ i : Nat, (s'.ds.getD i dsk0).key = (s.ds.getD i dsk0).key
  view : ∀ i a, 0 ≤ i → 0 ≤ a → viewS s' i a = putV xs (viewS s) i a
theorem CutS.refl {g : Geo} {s : SS} (h : SsOk g s) : CutS g s s [] := ⟨h, fun _ => rfl, fun _ => rfl, fun _ _ _ _ => rfl⟩
theorem applyL_cut {g : Geo} {ep : Int} : ∀ (xs : List PutS) (s : SS), SsOk g s → s.pw.on = true → (∀ x ∈ xs, Sealed g s x) → (∀ i : Nat, (s.ds.getD i dsk0).key ≤ ep) →
    ∃ j, j ≤ xs.length ∧ CutS g s (applyL ep xs s).2 (xs.take j) ∧
      (((applyL ep xs s).1 = 0 ∧ j = xs.length ∧ (applyL ep xs s).2.pw.on = true) ∨ ((applyL ep xs s).1 = 4 ∧ (applyL ep xs s).2.pw.on = false)) ∧
      (s.pw.left = 0 → (applyL ep xs s).1 = 0 ∧ (applyL ep xs s).2.pw.left = 0)
  | [], s, hs, hon, _, _ => ⟨0, by simp, CutS.refl hs, Or.inl ⟨rfl, rfl, hon⟩, fun h => ⟨rfl, h⟩⟩
  | x :: xs, s, hs, hon, hx, hep => by
    have hx1 := hx x (by simp)
    obtain ⟨b1, b2, b3, b4, b5⟩ := apply1_cut hs hx1 hon (hep _)
    have hso := step_on hon
    rcases b5 with ⟨c1, c2, c3⟩ | ⟨c1, c2, c3⟩
    · have hst : applyL ep (x :: xs) s = applyL ep xs (apply1 s x ep).2 := by
        show (if _ ∧ _ then _ else _) = _
        rw [if_neg (by rw [c2]; simp)]
      rw [hst]
      generalize apply1 s x ep = r at *
      obtain ⟨j, d1, d2, d3, d4⟩ := applyL_cut xs r.2 b2 (by rw [b1, hso, c1]) (fun y hy => by
        obtain ⟨y1, y2, y3, y4⟩ := hx y (by simp [hy])
        exact ⟨y1, y2, y3, by rw [b3]; exact y4⟩) (fun i => by rw [b4]; exact hep i)
      refine ⟨j + 1, by simpa using d1, ⟨d2.ss, fun i => by rw [d2.dead, b3], fun i => by rw [d2.key, b4], fun i a hi ha => ?_⟩, ?_, fun h0 => d4 (by rw [b1]; exact (step_lit hon h0).2)⟩
      · rw [d2.view i a hi ha, List.take_succ_cons]
        exact putV_congr _ (c3 i a hi ha)
      · rcases d3 with ⟨e1, e2, e3⟩ | e
        · exact Or.inl ⟨e1, by simp [e2], e3⟩
        · exact Or.inr e
    · have hst : applyL ep (x :: xs) s = apply1 s x ep := by
        show (if _ ∧ _ then _ else _) = _
        rw [if_pos (by rw [c2]; decide)]
      rw [hst]
      refine ⟨0, by simp, ⟨b2, b3, b4, fun i a _ _ => c3 i a⟩, Or.inr ⟨c2, by rw [b1, hso, c1]⟩, fun h0 => ?_⟩
      rw [(step_lit hon h0).1] at c1
      cases c1
theorem applyS_cut {g : Geo} {ep : Int} {xs : List PutS} {s : SS} (hs : SsOk g s) (hon : s.pw.on = true) (hx : ∀ x ∈ xs, Sealed g s x) (hep : ∀ i : Nat, (s.ds.getD i dsk0).key ≤ ep) :
    ∃ j, j ≤ xs.length ∧ CutS g s (applyS g s xs ep).2 (xs.take j) ∧
      (((applyS g s xs ep).1 = 0 ∧ j = xs.length ∧ (applyS g s xs ep).2.pw.on = true) ∨ ((applyS g s xs ep).1 = 4 ∧ (applyS g s xs ep).2.pw.on = false)) ∧
      (s.pw.left = 0 → (applyS g s xs ep).1 = 0 ∧ (applyS g s xs ep).2.pw.left = 0) := by
  unfold applyS
  rw [if_pos fun x hx' => (hx x hx').1]
  exact applyL_cut xs s hs hon hx hep
/-- what is seen where some cell has been written does not lean on what was there -/
theorem putV_again : ∀ (xs : List PutS) {v u : Int → Int → Option Sec} {i a : Int}, (∃ x ∈ xs, i = x.plc.dk ∧ a = x.plc.at_) → putV xs v i a = putV xs u i a
  | [], _, _, _, _, h => by obtain ⟨x, hx, _⟩ := h; simp at hx
  | x :: xs, v, u, i, a, h => by
    rw [putV_cons, putV_cons]
    by_cases h2 : ∃ y ∈ xs, i = y.plc.dk ∧ a = y.plc.at_
    · exact putV_again xs h2
    · obtain ⟨y, hy, he⟩ := h
      have hyx : y = x := by
        rcases List.mem_cons.1 hy with e | e
        · exact e
        · exact absurd ⟨y, e, he⟩ h2
      subst hyx
      rw [putV_other xs fun z hz e => h2 ⟨z, hz, e⟩, putV_other xs fun z hz e => h2 ⟨z, hz, e⟩, if_pos he, if_pos he]
/-- writing all of them again behind some of them: as if once -/
theorem putV_redo {xs : List PutS} (j : Nat) (v : Int → Int → Option Sec) (i a : Int) : putV xs (putV (xs.take j) v) i a = putV xs v i a := by
  by_cases h : ∃ x ∈ xs, i = x.plc.dk ∧ a = x.plc.at_
  · exact putV_again xs h
  · have h' : ∀ x ∈ xs, ¬ (i = x.plc.dk ∧ a = x.plc.at_) := fun x hx e => h ⟨x, hx, e⟩
    rw [putV_other xs h', putV_other xs h', putV_other _ fun x hx => h' x (List.mem_of_mem_take hx)]
/-- some, and all again -/
theorem CutS.redo {g : Geo} {s s1 s2 : SS} {xs : List PutS} {j : Nat} (h : CutS g s s1 (xs.take j)) (k : CutS g s1 s2 xs) : CutS g s s2 xs :=
  ⟨k.ss, fun i => by rw [k.dead, h.dead], fun i => by rw [k.key, h.key], fun i a hi ha => by
    rw [k.view i a hi ha, putV_congr xs (h.view i a hi ha)]
    exact putV_redo j _ i a⟩
/-- some, and some again: a part of it too, if all comes behind it -/
theorem CutS.part {g : Geo} {s s1 s2 s3 : SS} {xs : List PutS} {j i : Nat} (h : CutS g s s1 (xs.take j)) (k : CutS g s1 s2 (xs.take i)) (l : CutS g s2 s3 xs) : CutS g s s3 xs := h.redo (k.redo l)
/-- an invariant looks at what is seen alone -/
theorem Inv.see {g : Geo} {s s' : SS} {now : Int → Sec} (hg : GeoOk g) (h : Inv g s now) (hv : ∀ i a, 0 ≤ i → 0 ≤ a → viewS s' i a = viewS s i a) : Inv g s' now := by
  intro st off hst hof k hk f hf
  obtain ⟨pk1, pk2⟩ := plcP_ok hg hst hof (k : Int)
  exact h st off hst hof k hk f (by rw [← hv _ _ pk1.1 pk2.1]; exact hf)
end Go.Proofs
