import Derived.Test.YtdeaollkgckppaaFailM

/-
  THE LAWS OF STRIPE: sectors that are hurt. Plain, and the call.
-/
namespace Go.Proofs
open Go Go.Ev
set_option linter.unusedSimpArgs false
set_option linter.unusedVariables false
set_option maxRecDepth 100000

/-- a sector of a disk is hurt -/
def hurtS (s : SS) (i a : Int) : SS := ⟨s.ds.set i.toNat (hurtD (s.ds.getD i.toNat dsk0) a), s.pw⟩
theorem hurtD_dead (D : Dsk) (a : Int) : (hurtD D a).dead = D.dead := by
  unfold hurtD
  split
  · split <;> rfl
  · rfl
theorem hurtD_key (D : Dsk) (a : Int) : (hurtD D a).key = D.key := by
  unfold hurtD
  split
  · split <;> rfl
  · rfl
theorem hurtD_len (D : Dsk) (a : Int) : (hurtD D a).secs.length = D.secs.length := by
  unfold hurtD
  split
  · split
    · rfl
    · simp
  · rfl
theorem hurtD_ok {D : Dsk} (h : DskOk D) (a : Int) : DskOk (hurtD D a) := by
  refine ⟨?_, by rw [hurtD_key]; exact h.2⟩
  unfold hurtD
  split
  · split
    · exact h.1
    · intro x hx
      rcases List.mem_or_eq_of_mem_set hx with hx | rfl
      · exact h.1 x hx
      · exact h.get _
  · exact h.1
theorem hurtD_cell {D : Dsk} {a b : Int} (ha : 0 ≤ a ∧ a < (D.secs.length : Int)) (hb : 0 ≤ b) : cellD (hurtD D a) b = if b = a then none else cellD D b := by
  unfold hurtD
  rw [if_pos ha]
  by_cases hd : D.dead = true
  · rw [if_pos hd]
    unfold cellD
    rw [if_pos hd]
    split <;> rfl
  · rw [if_neg hd]
    show (if D.dead = true then none else if ((D.secs.set a.toNat { (D.secs.getD a.toNat sct0) with good := false }).getD b.toNat sct0).good = false then none else if ((D.secs.set a.toNat { (D.secs.getD a.toNat sct0) with good := false }).getD b.toNat sct0).cel.sum = sumS b ((D.secs.set a.toNat { (D.secs.getD a.toNat sct0) with good := false }).getD b.toNat sct0).cel.data then some ((D.secs.set a.toNat { (D.secs.getD a.toNat sct0) with good := false }).getD b.toNat sct0).cel.data else none) = _
    rw [if_neg hd, getD_setS (by omega)]
    by_cases e : b = a
    · subst e
      rw [if_pos rfl, if_pos rfl, if_pos rfl]
    · rw [if_neg (show ¬ a.toNat = b.toNat by omega), if_neg e]
      unfold cellD
      rw [if_neg hd]
theorem hurtS_get {s : SS} {i a : Int} (hi : i.toNat < s.ds.length) (j : Nat) : (hurtS s i a).ds.getD j dsk0 = if i.toNat = j then hurtD (s.ds.getD i.toNat dsk0) a else s.ds.getD j dsk0 := by
  unfold hurtS
  exact getD_setS hi _ _
theorem hurtS_dead {s : SS} {i a : Int} (hi : i.toNat < s.ds.length) (j : Int) : deadS (hurtS s i a) j = deadS s j := by
  unfold deadS
  rw [hurtS_get hi]
  by_cases e : i.toNat = j.toNat
  · rw [if_pos e, hurtD_dead, e]
  · rw [if_neg e]
theorem hurtS_key {s : SS} {i a : Int} (hi : i.toNat < s.ds.length) (j : Nat) : ((hurtS s i a).ds.getD j dsk0).key = (s.ds.getD j dsk0).key := by
  rw [hurtS_get hi]
  by_cases e : i.toNat = j
  · rw [if_pos e, hurtD_key, e]
  · rw [if_neg e]
theorem hurtS_view {g : Geo} {s : SS} (h : SsOk g s) {i a : Int} (hi : 0 ≤ i ∧ i < g.d) (ha : 0 ≤ a ∧ a < g.c * g.s) {j b : Int} (hj : 0 ≤ j) (hb : 0 ≤ b) : viewS (hurtS s i a) j b = if j = i ∧ b = a then none else viewS s j b := by
  have hn := h.num
  have hl := h.len _ (h.get hi.1 hi.2)
  unfold viewS
  rw [hurtS_get (by omega)]
  by_cases e : i.toNat = j.toNat
  · have e' : j = i := by omega
    rw [if_pos e, hurtD_cell (by rw [hl]; exact ha) hb]
    by_cases e2 : b = a
    · rw [if_pos e2, if_pos ⟨e', e2⟩]
    · rw [if_neg e2, if_neg (fun h => e2 h.2), e]
  · rw [if_neg e, if_neg (fun h => e (by rw [h.1]))]
theorem hurtS_ok {g : Geo} {s : SS} (h : SsOk g s) {i : Int} (hi : 0 ≤ i ∧ i < g.d) (a : Int) : SsOk g (hurtS s i a) := by
  have hm := h.get hi.1 hi.2
  refine ⟨h.geo, by unfold hurtS; simpa using h.num, fun D hD => ?_, fun D hD => ?_⟩
  · unfold hurtS at hD
    rcases List.mem_or_eq_of_mem_set hD with hD | rfl
    · exact h.len D hD
    · rw [hurtD_len]; exact h.len _ hm
  · unfold hurtS at hD
    rcases List.mem_or_eq_of_mem_set hD with hD | rfl
    · exact h.ok D hD
    · exact hurtD_ok (h.ok _ hm) a
theorem hurtS_inv {g : Geo} {s : SS} {now : Int → Sec} (hs : SsOk g s) (h : Inv g s now) {i a : Int} (hi : 0 ≤ i ∧ i < g.d) (ha : 0 ≤ a ∧ a < g.c * g.s) : Inv g (hurtS s i a) now := by
  intro st off hst hof k hk f hv
  obtain ⟨pk1, pk2⟩ := plcP_ok hs.geo hst hof (k : Int)
  rw [hurtS_view hs hi ha pk1.1 pk2.1] at hv
  split at hv
  · cases hv
  · exact h st off hst hof k hk f hv
section calls
variable {w0 w : World} {g : Geo} {b2 b3 m : Nat} {bks : List (Nat × Nat)} {p : Option Addr} {c : Nat} {pr : Option Addr} {cr : Nat} {xs : List (Nat × Nat × Nat)} {R : Value → World → Prop}
/-- the call, at a set -/
theorem hurtC (h : Opened w0 w g b2 b3 m bks p c pr cr xs) {s : SS} (hS : SetAt w ⟨m, g, bks⟩ s) {i a : Int} (hi : 0 ≤ i ∧ i < g.d) (hK : ∀ b e w', b = ((bks.map Prod.fst).getD i.toNat 0) → SetAt w' ⟨m, g, bks⟩ (hurtS s i a) → Opened w0 w' g b2 b3 m bks p c pr cr xs → Keep (SFoot ⟨m, g, bks⟩) w w' → R (.int .i64 e) w') :
    ∃ b, (bks.map Prod.fst)[i.toNat]? = some b ∧ CallV Try.prog 26 #[.pointer (some ⟨b, 0, none⟩), .int .i64 a] w R := by
  have hnum : (s.ds.length : Int) = g.d := hS.num
  obtain ⟨b, r, D, hbk, hD, hda, hdl⟩ := hS.get (i := i.toNat) (by omega)
  have hDg : s.ds.getD i.toNat dsk0 = D := by rw [List.getD_eq_getElem?_getD, hD]; rfl
  have hbk : bks[i.toNat]? = some (b, r) := hbk
  refine ⟨b, by rw [List.getElem?_map, hbk]; rfl, ?_⟩
  refine d_Hurt hda fun e w2 hd2 k2 => ?_
  have kf : Keep (SFoot ⟨m, g, bks⟩) w w2 := k2.mono fun k hk => Or.inr (Or.inr (by rw [hk]; exact List.mem_map.2 ⟨(b, r), List.mem_of_getElem? hbk, rfl⟩))
  have hm2 : MaAt w2 m s.pw := k2.has hS.main (fun e => (hda.nem hS.main).2 e.symm)
  have hS2 := hS.upd hbk (k2.mono fun k hk => Or.inr (Or.inr hk)) hd2 (by rw [hurtD_len]; exact hdl) hm2
  refine hK b e w2 ?_ ?_ (h.keep hS kf) kf
  · rw [List.getD_eq_getElem?_getD, List.getElem?_map, hbk]; rfl
  · unfold hurtS
    rw [hDg]
    exact hS2
end calls
end Go.Proofs

/-
  StripeRows, plain: how many columns are lost.
-/
namespace Go.Proofs
open Go Go.Ev
set_option linter.unusedSimpArgs false
set_option linter.unusedVariables false
set_option maxRecDepth 100000

theorem col_of {g : Geo} (hg : GeoOk g) (st off : Int) {i : Int} (hi : 0 ≤ i ∧ i < g.d) : ∃ k : Nat, k < g.d.toNat ∧ (plcP g st off (k : Int)).dk = i := by
  have hd := hg.d
  have h0 := Int.emod_nonneg (i - firstP g st) (show g.d ≠ 0 by omega)
  have h1 := Int.emod_lt_of_pos (i - firstP g st) (show 0 < g.d by omega)
  refine ⟨((i - firstP g st) % g.d).toNat, by omega, ?_⟩
  show (firstP g st + ((((i - firstP g st) % g.d).toNat : Nat) : Int)) % g.d = i
  rw [show ((((i - firstP g st) % g.d).toNat : Nat) : Int) = (i - firstP g st) % g.d by omega, Int.add_emod_emod, show firstP g st + (i - firstP g st) = i by omega]
  exact Int.emod_eq_of_lt hi.1 hi.2
theorem lost_mem {g : Geo} {s : SS} {st off : Int} {k : Nat} (hk : k < g.d.toNat) (hv : viewS s (plcP g st off (k : Int)).dk (plcP g st off (k : Int)).at_ = none) : (k : Int) ∈ goneL (colsS g s st off) := by
  have := colsS_view (g := g) (s := s) (st := st) (off := off) hk
  rw [hv] at this
  exact gone_mem this
/-- at least as many columns are lost as disks that are hurt in the row -/
theorem lost_ge1 {g : Geo} (hg : GeoOk g) {s : SS} {st off : Int} {i a : Int} (ha : a = st * g.c + off) (hi : 0 ≤ i ∧ i < g.d) (hv : viewS s i a = none) : 1 ≤ lostN (colsS g s st off) := by
  obtain ⟨k, hk, e⟩ := col_of hg st off hi
  have hm := lost_mem (s := s) (off := off) hk (by rw [e]; rw [ha] at hv; exact hv)
  rw [← goneL_len]
  exact List.length_pos_of_mem hm
theorem lost_ge2 {g : Geo} (hg : GeoOk g) {s : SS} {st off : Int} {i j a : Int} (ha : a = st * g.c + off) (hi : 0 ≤ i ∧ i < g.d) (hj : 0 ≤ j ∧ j < g.d) (hij : i ≠ j) (hv : viewS s i a = none) (hw : viewS s j a = none) : 2 ≤ lostN (colsS g s st off) := by
  obtain ⟨k, hk, e⟩ := col_of hg st off hi
  obtain ⟨l, hl, e2⟩ := col_of hg st off hj
  have hm := lost_mem (s := s) (off := off) hk (by rw [e]; rw [ha] at hv; exact hv)
  have hn := lost_mem (s := s) (off := off) hl (by rw [e2]; rw [ha] at hw; exact hw)
  have hkl : (k : Int) ≠ (l : Int) := fun h => hij (by rw [← e, ← e2, h])
  rw [← goneL_len]
  match hG : goneL (colsS g s st off) with
  | [] => rw [hG] at hm; cases hm
  | [x] =>
    rw [hG] at hm hn
    exact absurd ((List.mem_singleton.1 hm).trans (List.mem_singleton.1 hn).symm) hkl
  | x :: y :: r => simp
theorem lost_ge3 {g : Geo} (hg : GeoOk g) {s : SS} {st off : Int} {i j z a : Int} (ha : a = st * g.c + off) (hi : 0 ≤ i ∧ i < g.d) (hj : 0 ≤ j ∧ j < g.d) (hz : 0 ≤ z ∧ z < g.d) (hij : i ≠ j) (hiz : i ≠ z) (hjz : j ≠ z) (hv : viewS s i a = none) (hw : viewS s j a = none) (hu : viewS s z a = none) : 3 ≤ lostN (colsS g s st off) := by
  obtain ⟨k, hk, e⟩ := col_of hg st off hi
  obtain ⟨l, hl, e2⟩ := col_of hg st off hj
  obtain ⟨n, hn', e3⟩ := col_of hg st off hz
  have hm := lost_mem (s := s) (off := off) hk (by rw [e]; rw [ha] at hv; exact hv)
  have hn := lost_mem (s := s) (off := off) hl (by rw [e2]; rw [ha] at hw; exact hw)
  have ho := lost_mem (s := s) (off := off) hn' (by rw [e3]; rw [ha] at hu; exact hu)
  have h1 : (k : Int) ≠ (l : Int) := fun h => hij (by rw [← e, ← e2, h])
  have h2 : (k : Int) ≠ (n : Int) := fun h => hiz (by rw [← e, ← e3, h])
  have h3 : (l : Int) ≠ (n : Int) := fun h => hjz (by rw [← e2, ← e3, h])
  rw [← goneL_len]
  match hG : goneL (colsS g s st off) with
  | [] => rw [hG] at hm; cases hm
  | [x] =>
    rw [hG] at hm hn
    exact absurd ((List.mem_singleton.1 hm).trans (List.mem_singleton.1 hn).symm) h1
  | [x, y] =>
    rw [hG] at hm hn ho
    simp only [List.mem_cons, List.not_mem_nil, or_false] at hm hn ho
    omega
  | x :: y :: z :: r => simp
/-- one disk at most -/
theorem lost_le1 {g : Geo} (hg : GeoOk g) {s : SS} {st off : Int} (hst : 0 ≤ st ∧ st < g.s) (hof : 0 ≤ off ∧ off < g.c) (i : Int) (h : ∀ k : Nat, k < g.d.toNat → viewS s (plcP g st off (k : Int)).dk (plcP g st off (k : Int)).at_ = none → (plcP g st off (k : Int)).dk = i) : lostN (colsS g s st off) ≤ 1 := by
  have hd := hg.d
  have hl := goneL_len (colsS g s st off)
  have idx : ∀ x ∈ goneL (colsS g s st off), ∃ n : Nat, x = (n : Int) ∧ n < g.d.toNat ∧ (plcP g st off x).dk = i := fun x hx => by
    obtain ⟨n, h1, h2, h3⟩ := goneI_lt (colsS g s st off) _ x hx
    rw [len_colsS] at h2
    rw [colsS_view h2] at h3
    exact ⟨n, h1, h2, by rw [h1]; exact h n h2 (Option.some.inj h3)⟩
  have hs := goneI_sorted (colsS g s st off) (colsS g s st off).length
  have hs : (goneL (colsS g s st off)).Pairwise (· < ·) := hs
  match hG : goneL (colsS g s st off) with
  | [] => rw [hG] at hl; simp at hl; omega
  | [x] => rw [hG] at hl; simp at hl; omega
  | x :: y :: l =>
    exfalso
    rw [hG] at hs idx
    have hxy : x < y := by
      simp only [List.pairwise_cons, List.mem_cons] at hs
      exact hs.1 y (Or.inl rfl)
    obtain ⟨n1, e1, l1, d1⟩ := idx x (by simp)
    obtain ⟨n2, e2, l2, d2⟩ := idx y (by simp)
    have := (plcP_inj hg hst hof hst hof (k := x) (k2 := y) (by omega) (by omega) (by rw [d1, d2]) rfl).2.2
    omega
end Go.Proofs
