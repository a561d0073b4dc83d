/-
  PLAIN LAW OF MERGING: what is left of records is, of each sector, the first dirty record of the greatest version that no clean one stands against.
-/
import Derived.Test.YtacnieopbkeoiaaDirty
namespace Go.Proofs
open Go Go.Ev
set_option linter.unusedSimpArgs false
set_option linter.unusedVariables false
set_option maxRecDepth 100000

def bst (x : Int) (o : Option Rec) (r : Rec) : Option Rec :=
  if r.kind = 1 ∧ r.lba = x then (match o with
    | none => some r
    | some q => if q.ver < r.ver then some r else some q) else o
def cst (x : Int) (o : Option Int) (r : Rec) : Option Int :=
  if r.kind = 2 ∧ r.lba = x then (match o with
    | none => some r.ver
    | some v => if v < r.ver then some r.ver else some v) else o
theorem look1_step (s : Sta) (r : Rec) (x : Int) : mlook (stepD s r).1 x = bst x (mlook s.1 x) r := by
  unfold stepD bst
  by_cases h2 : r.kind = 2
  · rw [if_pos h2, if_neg (fun h => by omega)]
  · rw [if_neg h2]
    by_cases h1 : r.kind = 1
    · rw [if_pos h1]
      by_cases hx : r.lba = x
      · subst hx
        rw [if_pos ⟨h1, rfl⟩]
        simp only
        cases hl : mlook s.1 r.lba with
        | none => simp [look_ins]
        | some q =>
          simp only
          split
          · simp [look_ins]
          · exact hl
      · rw [if_neg (fun h => hx h.2)]
        simp only
        cases hl : mlook s.1 r.lba with
        | none => simp only [look_ins]; rw [if_neg (fun e => hx e.symm)]
        | some q =>
          simp only
          split
          · rw [look_ins, if_neg (fun e => hx e.symm)]
          · rfl
    · rw [if_neg h1, if_neg (fun h => h1 h.1)]
theorem look2_step (s : Sta) (r : Rec) (x : Int) : mlook (stepD s r).2 x = cst x (mlook s.2 x) r := by
  unfold stepD cst
  by_cases h2 : r.kind = 2
  · rw [if_pos h2]
    by_cases hx : r.lba = x
    · subst hx
      rw [if_pos ⟨h2, rfl⟩]
      simp only
      cases hl : mlook s.2 r.lba with
      | none => simp [look_ins]
      | some q =>
        simp only
        split
        · simp [look_ins]
        · exact hl
    · rw [if_neg (fun h => hx h.2)]
      simp only
      cases hl : mlook s.2 r.lba with
      | none => simp only [look_ins]; rw [if_neg (fun e => hx e.symm)]
      | some q =>
        simp only
        split
        · rw [look_ins, if_neg (fun e => hx e.symm)]
        · rfl
  · have e2 : ¬ (r.kind = 2 ∧ r.lba = x) := fun h => h2 h.1
    rw [if_neg h2, if_neg e2]
    split <;> rfl
def bestOf (all : List Rec) (x : Int) : Option Rec := all.foldl (bst x) none
def clnOf (all : List Rec) (x : Int) : Option Int := all.foldl (cst x) none
theorem look1_fold (all : List Rec) (s : Sta) (x : Int) : mlook (all.foldl stepD s).1 x = all.foldl (bst x) (mlook s.1 x) := by
  induction all generalizing s with
  | nil => rfl
  | cons r all ih => rw [List.foldl_cons, ih, look1_step, List.foldl_cons]
theorem look2_fold (all : List Rec) (s : Sta) (x : Int) : mlook (all.foldl stepD s).2 x = all.foldl (cst x) (mlook s.2 x) := by
  induction all generalizing s with
  | nil => rfl
  | cons r all ih => rw [List.foldl_cons, ih, look2_step, List.foldl_cons]
theorem look1_all (all : List Rec) (x : Int) : mlook (all.foldl stepD ([], [])).1 x = bestOf all x := look1_fold all _ x
theorem look2_all (all : List Rec) (x : Int) : mlook (all.foldl stepD ([], [])).2 x = clnOf all x := look2_fold all _ x
theorem nodup_step {s : Sta} (h : (s.1.map (·.1)).Nodup) (r : Rec) : ((stepD s r).1.map (·.1)).Nodup := by
  unfold stepD
  split
  · exact h
  · split
    · simp only
      cases mlook s.1 r.lba with
      | none => exact keys_nodup_ins h _ _
      | some q =>
        simp only
        split
        · exact keys_nodup_ins h _ _
        · exact h
    · exact h
theorem nodup_all (all : List Rec) : ((all.foldl stepD ([], [])).1.map (·.1)).Nodup := by
  have : ∀ (s : Sta), (s.1.map (·.1)).Nodup → ((all.foldl stepD s).1.map (·.1)).Nodup := by
    induction all with
    | nil => exact fun s h => h
    | cons r all ih => exact fun s h => ih _ (nodup_step h r)
  exact this _ (by simp)

/-- the first dirty record of the greatest version of its sector -/
def Bst (all : List Rec) (r : Rec) : Prop := ∃ i : Nat, all[i]? = some r ∧ r.kind = 1 ∧ ∀ (j : Nat) (q : Rec), all[j]? = some q → q.kind = 1 → q.lba = r.lba → q.ver ≤ r.ver ∧ (q.ver = r.ver → i ≤ j)
/-- a clean record stands against it -/
def Cln (all : List Rec) (r : Rec) : Prop := ∃ q ∈ all, q.kind = 2 ∧ q.lba = r.lba ∧ r.ver ≤ q.ver
theorem Bst.one {all : List Rec} {r s : Rec} (h : Bst all r) (k : Bst all s) (hl : r.lba = s.lba) : r = s := by
  obtain ⟨i, hi, h1, h2⟩ := h
  obtain ⟨j, hj, k1, k2⟩ := k
  have a := h2 j s hj k1 hl.symm
  have b := k2 i r hi h1 hl
  have : i = j := by
    have hv : s.ver = r.ver := by omega
    have := a.2 hv
    have := b.2 hv.symm
    omega
  subst this
  rw [hi] at hj
  exact Option.some.inj hj
theorem get_append_one (all : List Rec) (r : Rec) (j : Nat) (q : Rec) : (all ++ [r])[j]? = some q ↔ all[j]? = some q ∨ (j = all.length ∧ q = r) := by
  by_cases hj : j < all.length
  · rw [List.getElem?_append_left hj]
    exact ⟨Or.inl, fun h => by rcases h with h | ⟨h, _⟩; exact h; omega⟩
  · rw [List.getElem?_append_right (by omega), List.getElem?_eq_none (show all.length ≤ j by omega)]
    by_cases he : j = all.length
    · subst he; simp [eq_comm]
    · rw [List.getElem?_eq_none (by simp; omega)]; simp [he]
theorem best_spec (x : Int) (l : List Rec) : ∀ all : List Rec, l = all.reverse → (match bestOf all x with
    | none => ∀ q : Rec, q ∈ all → ¬ (q.kind = 1 ∧ q.lba = x)
    | some r => r.lba = x ∧ Bst all r) := by
  induction l with
  | nil =>
    intro (all : List Rec) h
    have : all = [] := by simpa using h.symm
    subst this
    simp [bestOf]
  | cons r l ih =>
    intro all h
    have hall : all = l.reverse ++ [r] := by rw [← List.reverse_reverse all, ← h]; simp
    have h0 := ih l.reverse (by simp)
    have hb : bestOf all x = bst x (bestOf l.reverse x) r := by rw [hall]; unfold bestOf; rw [List.foldl_append]; rfl
    generalize l.reverse = pre at *
    rw [hb]
    have up : ∀ q, Bst pre q → q.lba = x → (r.kind = 1 ∧ r.lba = x → r.ver ≤ q.ver) → Bst all q := by
      rintro q ⟨i, hi, h1, h2⟩ hx hr
      have hlt := (List.getElem?_eq_some_iff.1 hi).1
      refine ⟨i, by rw [hall]; exact (get_append_one _ _ _ _).2 (Or.inl hi), h1, fun j q' hj hk hl => ?_⟩
      rw [hall] at hj
      rcases (get_append_one _ _ _ _).1 hj with hj | ⟨rfl, rfl⟩
      · exact h2 j q' hj hk hl
      · exact ⟨hr ⟨hk, hl.trans hx⟩, fun _ => by omega⟩
    have new : r.kind = 1 → (∀ q ∈ pre, q.kind = 1 → q.lba = r.lba → q.ver < r.ver) → Bst all r := by
      intro h1 hno
      refine ⟨pre.length, by rw [hall]; exact (get_append_one _ _ _ _).2 (Or.inr ⟨rfl, rfl⟩), h1, fun j q hj hk hl => ?_⟩
      rw [hall] at hj
      rcases (get_append_one _ _ _ _).1 hj with hj | ⟨rfl, rfl⟩
      · have := hno q (List.mem_of_getElem? hj) hk hl
        exact ⟨by omega, fun e => by omega⟩
      · exact ⟨by omega, fun _ => by omega⟩
    unfold bst
    by_cases hr : r.kind = 1 ∧ r.lba = x
    · rw [if_pos hr]
      cases ho : bestOf pre x with
      | none =>
        rw [ho] at h0
        exact ⟨hr.2, new hr.1 fun q hq hk hl => absurd ⟨hk, hl.trans hr.2⟩ (h0 q hq)⟩
      | some q =>
        rw [ho] at h0
        simp only at h0 ⊢
        by_cases hv : q.ver < r.ver
        · rw [if_pos hv]
          refine ⟨hr.2, new hr.1 fun q' hq hk hl => ?_⟩
          obtain ⟨i, hi, h1, h2⟩ := h0.2
          obtain ⟨j, hj⟩ := List.getElem?_of_mem hq
          have := (h2 j q' hj hk (by rw [hl, hr.2, h0.1])).1
          omega
        · rw [if_neg hv]
          exact ⟨h0.1, up q h0.2 h0.1 fun _ => by omega⟩
    · rw [if_neg hr]
      cases ho : bestOf pre x with
      | none =>
        rw [ho] at h0
        intro q hq
        rw [hall] at hq
        rcases List.mem_append.1 hq with hq | hq
        · exact h0 q hq
        · have : q = r := by simpa using hq
          rw [this]; exact hr
      | some q =>
        rw [ho] at h0
        exact ⟨h0.1, up q h0.2 h0.1 fun h => absurd h hr⟩
theorem best_iff (all : List Rec) (r : Rec) : bestOf all r.lba = some r ↔ Bst all r := by
  have h := best_spec r.lba all.reverse all rfl
  constructor
  · intro e; rw [e] at h; exact h.2
  · intro hb
    cases ho : bestOf all r.lba with
    | none =>
      rw [ho] at h
      obtain ⟨i, hi, h1, _⟩ := hb
      exact absurd ⟨h1, rfl⟩ (h r (List.mem_of_getElem? hi))
    | some q =>
      rw [ho] at h
      rw [hb.one h.2 h.1.symm]
theorem cln_spec (x v : Int) : ∀ (all : List Rec) (o : Option Int), (∃ u, all.foldl (cst x) o = some u ∧ v ≤ u) ↔ (∃ u, o = some u ∧ v ≤ u) ∨ ∃ q ∈ all, q.kind = 2 ∧ q.lba = x ∧ v ≤ q.ver
  | [], o => by simp
  | r :: all, o => by
    rw [List.foldl_cons, cln_spec x v all]
    have h : (∃ u, cst x o r = some u ∧ v ≤ u) ↔ (∃ u, o = some u ∧ v ≤ u) ∨ (r.kind = 2 ∧ r.lba = x ∧ v ≤ r.ver) := by
      unfold cst
      by_cases hr : r.kind = 2 ∧ r.lba = x
      · rw [if_pos hr]
        cases o with
        | none => simp [hr]
        | some u =>
          simp only [Option.some.injEq, exists_eq_left', hr, true_and]
          split <;> simp <;> omega
      · rw [if_neg hr]
        constructor
        · exact Or.inl
        · rintro (h | h)
          · exact h
          · exact absurd ⟨h.1, h.2.1⟩ hr
    rw [h]
    simp only [List.mem_cons, exists_eq_or_imp]
    exact or_assoc
theorem kept_iff (all : List Rec) (r : Rec) : keptB (all.foldl stepD ([], [])).2 (r.lba, r) = true ↔ ¬ Cln all r := by
  have h := cln_spec r.lba r.ver all none
  unfold keptB
  rw [look2_all]
  simp only [reduceCtorEq, false_and, exists_false, false_or] at h
  unfold Cln
  rw [← h]
  unfold clnOf
  cases all.foldl (cst r.lba) none with
  | none => simp
  | some u => simp
theorem left_mem (all : List Rec) (r : Rec) : r ∈ leftD (all.foldl stepD ([], [])) ↔ Bst all r ∧ ¬ Cln all r := by
  unfold leftD
  simp only [List.mem_map, List.mem_filter]
  have hn := nodup_all all
  have key : ∀ x q, (x, q) ∈ (all.foldl stepD ([], [])).1 → q.lba = x ∧ Bst all q := by
    intro x q h
    have h1 := mem_mlook hn h
    rw [look1_all] at h1
    have h2 := best_spec x all.reverse all rfl
    rw [h1] at h2
    exact h2
  constructor
  · rintro ⟨⟨x, q⟩, ⟨hm, hk⟩, rfl⟩
    obtain ⟨rfl, hb⟩ := key x q hm
    exact ⟨hb, (kept_iff all q).1 hk⟩
  · rintro ⟨hb, hc⟩
    refine ⟨(r.lba, r), ⟨mlook_mem ?_, (kept_iff all r).2 hc⟩, rfl⟩
    rw [look1_all]
    exact (best_iff all r).2 hb
theorem left_lbas (all : List Rec) : ((leftD (all.foldl stepD ([], []))).map (·.lba)).Nodup := by
  have hn := nodup_all all
  unfold leftD
  rw [List.map_map]
  have : ((all.foldl stepD ([], [])).1.filter (keptB (all.foldl stepD ([], [])).2)).map ((·.lba) ∘ (·.2)) = ((all.foldl stepD ([], [])).1.filter (keptB (all.foldl stepD ([], [])).2)).map (·.1) := by
    apply List.map_congr_left
    rintro ⟨x, q⟩ hm
    have h1 := mem_mlook hn (List.mem_filter.1 hm).1
    rw [look1_all] at h1
    have h2 := best_spec x all.reverse all rfl
    rw [h1] at h2
    exact h2.1
  rw [this]
  exact hn.sublist (List.Sublist.map _ List.filter_sublist)

/-- the document's own words: kept by place -/
def keepP (all : List Rec) (i : Nat) : Prop := ∃ r : Rec, all[i]? = some r ∧ r.kind = 1 ∧ ∀ (j : Nat) (q : Rec), all[j]? = some q → q.lba = r.lba → ¬ (q.kind = 1 ∧ (q.ver > r.ver ∨ q.ver = r.ver ∧ j < i)) ∧ ¬ (q.kind = 2 ∧ q.ver ≥ r.ver)
/-- the records of the places that are kept -/
def Kept (all ks : List Rec) : Prop := ∃ is : List Nat, is.Pairwise (· < ·) ∧ (∀ i, i ∈ is ↔ keepP all i) ∧ is.map (fun i => all[i]?) = ks.map some
theorem Kept.mem {all ks : List Rec} (h : Kept all ks) (r : Rec) : r ∈ ks ↔ Bst all r ∧ ¬ Cln all r := by
  obtain ⟨is, _, h2, h3⟩ := h
  have : r ∈ ks ↔ ∃ i, keepP all i ∧ all[i]? = some r := by
    constructor
    · intro hr
      have : some r ∈ ks.map some := List.mem_map.2 ⟨r, hr, rfl⟩
      rw [← h3] at this
      obtain ⟨i, hi, he⟩ := List.mem_map.1 this
      exact ⟨i, (h2 i).1 hi, he⟩
    · rintro ⟨i, hi, he⟩
      have : some r ∈ is.map (fun i => all[i]?) := List.mem_map.2 ⟨i, (h2 i).2 hi, he⟩
      rw [h3] at this
      obtain ⟨q, hq, e⟩ := List.mem_map.1 this
      cases e
      exact hq
  rw [this]
  constructor
  · rintro ⟨i, ⟨q, hq, hk, hno⟩, he⟩
    rw [hq] at he
    cases he
    refine ⟨⟨i, hq, hk, fun j s hs hsk hsl => ?_⟩, ?_⟩
    · have := (hno j s hs hsl).1
      constructor
      · have := fun h => this ⟨hsk, Or.inl h⟩; omega
      · intro e
        have := fun h => this ⟨hsk, Or.inr ⟨e, h⟩⟩
        omega
    · rintro ⟨s, hs, hsk, hsl, hv⟩
      obtain ⟨j, hj⟩ := List.getElem?_of_mem hs
      exact (hno j s hj hsl).2 ⟨hsk, hv⟩
  · rintro ⟨⟨i, hi, hk, hb⟩, hc⟩
    refine ⟨i, ⟨r, hi, hk, fun j s hs hsl => ⟨?_, ?_⟩⟩, hi⟩
    · rintro ⟨hsk, h⟩
      have := hb j s hs hsk hsl
      rcases h with h | ⟨h1, h2⟩
      · omega
      · have := this.2 h1; omega
    · rintro ⟨hsk, hv⟩
      exact hc ⟨s, List.mem_of_getElem? hs, hsk, hsl, hv⟩
theorem Kept.lbas {all ks : List Rec} (h : Kept all ks) : (ks.map (·.lba)).Nodup := by
  obtain ⟨is, h1, h2, h3⟩ := h
  have h4 : ks.Pairwise fun r s => ∃ i j, i < j ∧ keepP all i ∧ keepP all j ∧ all[i]? = some r ∧ all[j]? = some s := by
    have h5 : (ks.map some).Pairwise fun r s => ∃ i j, i < j ∧ keepP all i ∧ keepP all j ∧ all[i]? = r ∧ all[j]? = s := by
      rw [← h3, List.pairwise_map]
      exact h1.imp_of_mem fun {a b} ha hb hab => ⟨a, b, hab, (h2 a).1 ha, (h2 b).1 hb, rfl, rfl⟩
    rw [List.pairwise_map] at h5
    exact h5
  unfold List.Nodup
  rw [List.pairwise_map]
  refine h4.imp ?_
  rintro r s ⟨i, j, hij, ⟨r', hr', hk, hr⟩, ⟨s', hs', hks, hs⟩, ei, ej⟩ e
  rw [hr'] at ei; cases ei
  rw [hs'] at ej; cases ej
  have a := (hr j s hs' e.symm).1
  have b := (hs i r hr' e).1
  by_cases h1 : s.ver > r.ver
  · exact a ⟨hks, Or.inl h1⟩
  · by_cases h2 : r.ver > s.ver
    · exact b ⟨hk, Or.inl h2⟩
    · exact b ⟨hk, Or.inr ⟨by omega, hij⟩⟩

theorem nodup_of_lbas {rs : List Rec} (h : (rs.map (·.lba)).Nodup) : rs.Nodup := by
  unfold List.Nodup at *
  rw [List.pairwise_map] at h
  exact h.imp fun {a b} hab e => hab (by rw [e])
theorem eq_of_lbas {rs : List Rec} (h : (rs.map (·.lba)).Nodup) {a b : Rec} (ha : a ∈ rs) (hb : b ∈ rs) (e : a.lba = b.lba) : a = b := by
  induction rs with
  | nil => simp at ha
  | cons r rs ih =>
    simp only [List.map_cons, List.nodup_cons] at h
    rcases List.mem_cons.1 ha with rfl | ha2
    · rcases List.mem_cons.1 hb with rfl | hb2
      · rfl
      · exact absurd (List.mem_map.2 ⟨b, hb2, e.symm⟩) h.1
    · rcases List.mem_cons.1 hb with rfl | hb2
      · exact absurd (List.mem_map.2 ⟨a, ha2, e⟩ : b.lba ∈ List.map (fun x => x.lba) rs) h.1
      · exact ih h.2 ha2 hb2
/-- sorted rows of the same records are the same -/
theorem byver_eq {rs ss : List Rec} (hr : ByVer rs) (hs : ByVer ss) (hp : rs.Perm ss) (hl : (rs.map (·.lba)).Nodup) : rs = ss := by
  refine List.Perm.eq_of_pairwise (le := fun r s => ¬ cmpR s r < 0) ?_ hr hs hp
  intro a b ha hb h1 h2
  have hb' : b ∈ rs := hp.symm.subset hb
  simp only [cmpR_lt] at h1 h2
  have hlba : a.lba = b.lba := by omega
  exact eq_of_lbas hl ha hb' hlba
theorem perm_of_mem {rs ss : List Rec} (hr : (rs.map (·.lba)).Nodup) (hs : (ss.map (·.lba)).Nodup) (h : ∀ r, r ∈ rs ↔ r ∈ ss) : rs.Perm ss :=
  (List.perm_ext_iff_of_nodup (nodup_of_lbas hr) (nodup_of_lbas hs)).2 h
/-- what merging leaves, sorted, is what the document keeps, sorted -/
theorem left_kept {all ks rs ss : List Rec} (h : Kept all ks) (hr : rs.Perm (leftD (all.foldl stepD ([], [])))) (sr : ByVer rs) (hs : ss.Perm ks) (ss' : ByVer ss) : rs = ss := by
  have p : (leftD (all.foldl stepD ([], []))).Perm ks := perm_of_mem (left_lbas all) h.lbas fun r => (left_mem all r).trans (h.mem r).symm
  refine byver_eq sr ss' ((hr.trans p).trans hs.symm) ?_
  exact ((hr.map (·.lba)).nodup_iff).2 (left_lbas all)
/-- two rows of records that hold the same, and tell data by version and sector, leave the same -/
theorem left_same {a b rs ss : List Rec} (hm : ∀ r, r ∈ a ↔ r ∈ b) (hd : ∀ r ∈ a, ∀ s ∈ a, r.kind = 1 → s.kind = 1 → r.lba = s.lba → r.ver = s.ver → r = s)
    (hr : rs.Perm (leftD (a.foldl stepD ([], [])))) (sr : ByVer rs) (hs : ss.Perm (leftD (b.foldl stepD ([], [])))) (ss' : ByVer ss) : rs = ss := by
  have bm : ∀ (c : List Rec), (∀ r, r ∈ a ↔ r ∈ c) → ∀ r, Bst c r ↔ r ∈ a ∧ r.kind = 1 ∧ ∀ q ∈ a, q.kind = 1 → q.lba = r.lba → q.ver ≤ r.ver := by
    intro c hc r
    constructor
    · rintro ⟨i, hi, hk, hb⟩
      refine ⟨(hc r).2 (List.mem_of_getElem? hi), hk, fun q hq hqk hql => ?_⟩
      obtain ⟨j, hj⟩ := List.getElem?_of_mem ((hc q).1 hq)
      exact (hb j q hj hqk hql).1
    · rintro ⟨hr, hk, hb⟩
      have ex : ∃ r', bestOf c r.lba = some r' := by
        have h := best_spec r.lba c.reverse c rfl
        cases ho : bestOf c r.lba with
        | none => rw [ho] at h; exact absurd ⟨hk, rfl⟩ (h r ((hc r).1 hr))
        | some r' => exact ⟨r', rfl⟩
      obtain ⟨r', he⟩ := ex
      have h := best_spec r.lba c.reverse c rfl
      rw [he] at h
      obtain ⟨hl, hB⟩ := h
      obtain ⟨i, hi, hk', hb'⟩ := hB
      have hm' : r' ∈ a := (hc r').2 (List.mem_of_getElem? hi)
      obtain ⟨j, hj⟩ := List.getElem?_of_mem ((hc r).1 hr)
      have h1 := (hb' j r hj hk hl.symm).1
      have h2 := hb r' hm' hk' hl
      have : r' = r := hd r' hm' r hr hk' hk hl (by omega)
      subst this
      exact ⟨i, hi, hk', hb'⟩
  have cm : ∀ r, Cln a r ↔ Cln b r := fun r => by
    unfold Cln
    constructor
    · rintro ⟨q, hq, h⟩; exact ⟨q, (hm q).1 hq, h⟩
    · rintro ⟨q, hq, h⟩; exact ⟨q, (hm q).2 hq, h⟩
  have p : (leftD (a.foldl stepD ([], []))).Perm (leftD (b.foldl stepD ([], []))) := perm_of_mem (left_lbas a) (left_lbas b) fun r => by
    rw [left_mem, left_mem, bm a (fun _ => Iff.rfl) r, bm b hm r, cm r]
  refine byver_eq sr ss' ((hr.trans p).trans hs.symm) ?_
  exact ((hr.map (·.lba)).nodup_iff).2 (left_lbas a)
end Go.Proofs
