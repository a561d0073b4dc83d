/-
  THE LAWS OF STRIPE: disks that fail, a write and its plan.
-/
import Derived.Test.YtdeaollkgckppaaOpenM
import Derived.Test.YtdeaollkgckppaaFStrp
namespace Go.Proofs
open Go Go.Ev
set_option linter.unusedSimpArgs false
set_option linter.unusedVariables false
set_option maxRecDepth 100000

/-- a disk fails -/
def failS (s : SS) (i : Int) : SS := ⟨s.ds.set i.toNat { (s.ds.getD i.toNat dsk0) with dead := true }, s.pw⟩
theorem failS_get {s : SS} {i : Int} (hi : i.toNat < s.ds.length) (j : Nat) : (failS s i).ds.getD j dsk0 = if i.toNat = j then { (s.ds.getD i.toNat dsk0) with dead := true } else s.ds.getD j dsk0 := by
  unfold failS
  exact getD_setS hi _ _
theorem failS_dead {s : SS} {i j : Int} (h0 : 0 ≤ i) (hi : i.toNat < s.ds.length) (hj : 0 ≤ j) : deadS (failS s i) j = true ↔ (j = i ∨ deadS s j = true) := by
  unfold deadS
  rw [failS_get hi]
  by_cases e : i.toNat = j.toNat
  · rw [if_pos e]
    have : j = i := by omega
    simp [this]
  · rw [if_neg e]
    have : ¬ j = i := fun h => e (by rw [h])
    simp [this]
theorem failS_key {s : SS} {i : Int} (hi : i.toNat < s.ds.length) (j : Nat) : ((failS s i).ds.getD j dsk0).key = (s.ds.getD j dsk0).key := by
  rw [failS_get hi]
  by_cases e : i.toNat = j
  · rw [if_pos e, ← e]
  · rw [if_neg e]
theorem failS_view {s : SS} {i j a : Int} (h0 : 0 ≤ i) (hi : i.toNat < s.ds.length) (hj : 0 ≤ j) : viewS (failS s i) j a = if j = i then none else viewS s j a := by
  unfold viewS
  rw [failS_get hi]
  by_cases e : i.toNat = j.toNat
  · rw [if_pos e, if_pos (by omega)]
    unfold cellD
    rw [if_pos rfl]
  · rw [if_neg e, if_neg (fun h => e (by rw [h]))]
theorem failS_ok {g : Geo} {s : SS} (h : SsOk g s) {i : Int} (h0 : 0 ≤ i) (hi : i < g.d) : SsOk g (failS s i) := by
  have hm := h.get h0 hi
  refine ⟨h.geo, by unfold failS; simpa using h.num, fun D hD => ?_, fun D hD => ?_⟩
  · unfold failS at hD
    rcases List.mem_or_eq_of_mem_set hD with hD | rfl
    · exact h.len D hD
    · exact h.len (s.ds.getD i.toNat dsk0) hm
  · unfold failS at hD
    rcases List.mem_or_eq_of_mem_set hD with hD | rfl
    · exact h.ok D hD
    · exact h.ok (s.ds.getD i.toNat dsk0) hm
theorem failS_inv {g : Geo} {s : SS} {now : Int → Sec} (hs : SsOk g s) (h : Inv g s now) {i : Int} (h0 : 0 ≤ i) (hi : i < g.d) : Inv g (failS s i) now := by
  have hn := hs.num
  intro st off hst hof k hk f hv
  obtain ⟨pk1, pk2⟩ := plcP_ok hs.geo hst hof (k : Int)
  rw [failS_view h0 (by omega) pk1.1] at hv
  split at hv
  · cases hv
  · exact h st off hst hof k hk f hv
/-- what is lost of a set lies on disks that have failed; these are two at most -/
structure TwoS (g : Geo) (s : SS) (X Y : Int) : Prop where
  cells : ∀ i a, 0 ≤ i ∧ i < g.d → 0 ≤ a ∧ a < g.c * g.s → viewS s i a = none → deadS s i = true
  dead : ∀ i, 0 ≤ i → deadS s i = true → i = X ∨ i = Y
theorem TwoS.lost {g : Geo} (hg : GeoOk g) {s : SS} {X Y : Int} (h : TwoS g s X Y) {st off : Int} (hst : 0 ≤ st ∧ st < g.s) (hof : 0 ≤ off ∧ off < g.c) : lostN (colsS g s st off) ≤ 2 :=
  lost_two hg hst hof X Y fun k hk hv => by
    obtain ⟨pk1, pk2⟩ := plcP_ok hg hst hof (k : Int)
    exact h.dead _ pk1.1 (h.cells _ _ pk1 pk2 hv)
theorem TwoS.fail {g : Geo} {s : SS} {X Y : Int} (hs : SsOk g s) (h : TwoS g s X Y) {i : Int} (h0 : 0 ≤ i) (hi : i < g.d) (hX : i = X ∨ i = Y) : TwoS g (failS s i) X Y := by
  have hn := hs.num
  refine ⟨fun j a hj ha hv => ?_, fun j hj hd => ?_⟩
  · rw [failS_dead h0 (by omega) hj.1]
    rw [failS_view h0 (by omega) hj.1] at hv
    split at hv
    · exact Or.inl ‹_›
    · exact Or.inr (h.cells j a hj ha hv)
  · rcases (failS_dead h0 (by omega) hj).1 hd with e | e
    · rw [e]; exact hX
    · exact h.dead j hj e
theorem TwoS.write {g : Geo} {s s' : SS} {X Y lba : Int} {now : Int → Sec} {data : Sec} (h : TwoS g s X Y) (hw : Written g s s' now lba data) : TwoS g s' X Y :=
  ⟨fun j a hj ha hv => by
    rw [hw.dead]
    rcases hw.view j a hj.1 ha.1 hv with e | e
    · exact h.cells j a hj ha e
    · exact e, fun j hj hd => h.dead j hj (by rw [← hw.dead]; exact hd)⟩
theorem newS_two {g : Geo} (hg : GeoOk g) (pw : Pow) (X Y : Int) : TwoS g (newS g pw) X Y :=
  ⟨fun i a hi ha hv => (by rw [newS_view hg hi ha] at hv; cases hv), fun i _ hd => (by rw [newS_dead] at hd; cases hd)⟩
/-- a disk fails, as it is printed -/
def FailT (b2 b3 : Nat) (x : Int) (w : World) (K : World → Prop) : Prop :=
  HeldR w fun S w => LdV b3 3 S fun v9 => OpS v9 fun p1 l1 c2 => LdV b2 0 S fun v10 => OpI .i64 v10 fun n2 => Req (n2 ≠ 0) (IdxS p1 l1 (Int.tmod (IntKind.wrap .i64 x) n2) 1 fun b4 o => LdV b4 o (At w)
  fun v11 => OpN v11 fun b5 o1 => CallV Try.prog 24 #[.pointer (some ⟨b5, o1, none⟩)] w fun v12 w => Hld (S w) (K w))
section calls
variable {w0 w : World} {g : Geo} {b2 b3 m : Nat} {bks : List (Nat × Nat)} {p : Option Addr} {c : Nat} {pr : Option Addr} {cr : Nat} {xs : List (Nat × Nat × Nat)}
theorem failT (hg : GeoOk g) (h : Opened w0 w g b2 b3 m bks p c pr cr xs) {s : SS} (hS : SetAt w ⟨m, g, bks⟩ s) {x : Int} (hx : 0 ≤ x ∧ x ≤ 255) {K : World → Prop}
    (hK : ∀ w', SetAt w' ⟨m, g, bks⟩ (failS s (x % g.d)) → Opened w0 w' g b2 b3 m bks p c pr cr xs → Keep (SFoot ⟨m, g, bks⟩) w w' → K w') : FailT b2 b3 x w K := by
  unfold FailT
  have hgd := hg.d
  intro d
  have kd := Keep.drew (fun _ => False) w d
  have h1 := h.keep0 kd
  have hS1 := hS.keep0 kd
  generalize w.dr d = w1 at *
  refine ⟨fun w' => Has w' b3 (.cells (lwV g p c pr cr m) 37 (0, 0)) ∧ Has w' b2 (.cells (geoV g) 25 (0, 0)), ⟨h1.lw, h1.geo⟩, ?_⟩
  refine LdV_of (v := .slice p g.d.toNat c) (fun w' hw => ⟨_, _, _, hw.1, rfl⟩) (OpS_slice.2 ?_)
  refine LdV_of (v := .int .i64 g.d) (fun w' hw => ⟨_, _, _, hw.2, rfl⟩) (OpI_int.2 ⟨by omega, ?_⟩)
  have hm0 := Int.emod_nonneg x (show g.d ≠ 0 by omega)
  have hm1 := Int.emod_lt_of_pos x (show 0 < g.d by omega)
  rw [wrapI (by omega) (by omega), Int.tmod_eq_emod_of_nonneg hx.1]
  have hnum : (s.ds.length : Int) = g.d := hS1.num
  generalize x % g.d = i at *
  obtain ⟨b, r, D, hbk, hD, hda, hdl⟩ := hS1.get (i := i.toNat) (by omega)
  have hDg : s.ds.getD i.toNat dsk0 = D := by rw [List.getD_eq_getElem?_getD, hD]; rfl
  refine h1.row.sl.ld0 (i := i) (n := 1) (x := b) (v := .pointer (some ⟨b, 0, none⟩)) rfl hm0 (by have hbk : bks[i.toNat]? = some (b, r) := hbk; rw [List.getElem?_map, hbk]; rfl) rfl (OpN_some.2 ?_)
  have hbk : bks[i.toNat]? = some (b, r) := hbk
  refine d_Fail hda fun w2 hd2 k2 => ?_
  have kf : Keep (SFoot ⟨m, g, bks⟩) w1 w2 := k2.mono fun k hk => Or.inr (Or.inl (by rw [hk]; exact List.mem_map.2 ⟨(b, r), List.mem_of_getElem? hbk, rfl⟩))
  have hm2 : MaAt w2 m s.pw := k2.has hS1.main (fun e => (hda.nem hS1.main).1 e.symm)
  have hS2 := hS1.upd hbk (k2.mono fun k hk => Or.inr (Or.inl hk)) hd2 hdl hm2
  have h2 := h1.keep hS1 kf
  refine ⟨⟨h2.lw, h2.geo⟩, hK w2 ?_ h2 ((kd.mono fun _ h => h.elim).trans kf)⟩
  unfold failS
  rw [hDg]
  exact hS2
end calls
end Go.Proofs
