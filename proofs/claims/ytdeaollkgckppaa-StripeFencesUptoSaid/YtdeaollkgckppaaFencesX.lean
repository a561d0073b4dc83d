import Derived.Test.YtdeaollkgckppaaOpenM

/-
  StripeFences, the walk.
-/
namespace Go.Proofs
open Go Go.Ev
set_option linter.unusedSimpArgs false
set_option linter.unusedVariables false
set_option maxRecDepth 100000

theorem getD_mapS {s : SS} {f : Dsk → Dsk} {pw : Pow} (i : Nat) : (SS.mk (s.ds.map f) pw).ds.getD i dsk0 = if i < s.ds.length then f (s.ds.getD i dsk0) else dsk0 := by
  simp only
  rw [List.getD_eq_getElem?_getD, List.getElem?_map, List.getD_eq_getElem?_getD]
  by_cases h : i < s.ds.length
  · rw [if_pos h, List.getElem?_eq_getElem h]; rfl
  · rw [if_neg h, List.getElem?_eq_none (by omega)]; rfl
theorem cellD_same {D E : Dsk} (h1 : E.secs = D.secs) (h2 : E.dead = D.dead) (a : Int) : cellD E a = cellD D a := by unfold cellD; rw [h1, h2]
theorem map_view {s : SS} {f : Dsk → Dsk} {pw : Pow} (h1 : ∀ D, (f D).secs = D.secs) (h2 : ∀ D, (f D).dead = D.dead) (i a : Int) : viewS ⟨s.ds.map f, pw⟩ i a = viewS s i a := by
  unfold viewS
  rw [getD_mapS]
  split
  · exact cellD_same (h1 _) (h2 _) a
  · rename_i h
    rw [List.getD_eq_getElem?_getD, List.getElem?_eq_none (by omega)]; rfl
theorem map_dead {s : SS} {f : Dsk → Dsk} {pw : Pow} (h2 : ∀ D, (f D).dead = D.dead) (i : Int) : deadS ⟨s.ds.map f, pw⟩ i = deadS s i := by
  unfold deadS
  rw [getD_mapS]
  split
  · exact h2 _
  · rename_i h
    rw [List.getD_eq_getElem?_getD, List.getElem?_eq_none (by omega)]; rfl
theorem fenceD_dead (pw : Pow) (D : Dsk) (ep : Int) : (fenceD pw D ep).2.dead = D.dead := by
  unfold fenceD
  split
  · rfl
  · split <;> rfl
/-- a new set that has been fenced -/
def fenS (g : Geo) (f : Int) : SS := ⟨(newS g pw0).ds.map fun D => (fenceD pw0 D f).2, pw0⟩
theorem fenS_view {g : Geo} {f : Int} (i a : Int) : viewS (fenS g f) i a = viewS (newS g pw0) i a := map_view (fun D => fenceD_len _ D _) (fun D => fenceD_dead _ D _) i a
theorem fenS_dead {g : Geo} {f : Int} (i : Int) : deadS (fenS g f) i = false := (map_dead (fun D => fenceD_dead _ D _) i).trans (newS_dead g pw0 i)
theorem fenS_rep {g : Geo} {f : Int} (hf : 0 ≤ f) : (fenS g f).ds = List.replicate g.d.toNat ⟨nuls (g.c * g.s).toNat, f, false⟩ := by
  unfold fenS newS
  simp only [List.map_replicate]
  congr 1
  show Dsk.mk (nuls (g.c * g.s).toNat) (max 0 f) false = _
  rw [Int.max_eq_right hf]
theorem fenS_key {g : Geo} {f : Int} (hf : 0 ≤ f) {i : Nat} (hi : i < g.d.toNat) : ((fenS g f).ds.getD i dsk0).key = f := by
  rw [fenS_rep hf, getD_rep _ _ hi]
theorem fenS_keyle {g : Geo} {f ep : Int} (hf : 0 ≤ f) (h : f ≤ ep) (i : Nat) : ((fenS g f).ds.getD i dsk0).key ≤ ep := by
  by_cases hi : i < g.d.toNat
  · rw [fenS_key hf hi]; exact h
  · rw [fenS_rep hf, List.getD_eq_getElem?_getD, List.getElem?_replicate, if_neg hi]
    show (0 : Int) ≤ ep
    omega
theorem keyL_rep {D : Dsk} (h : D.dead = false) : ∀ (n : Nat) (k : Int), k ≤ D.key → keyL k (List.replicate (n + 1) D) = D.key
  | 0, k, hk => by
    show (if D.dead = true then k else max k D.key) = _
    rw [if_neg (by rw [h]; decide), Int.max_eq_right hk]
  | n + 1, k, hk => by
    show keyL (if D.dead = true then k else max k D.key) (List.replicate (n + 1) D) = _
    rw [if_neg (by rw [h]; decide), Int.max_eq_right hk]
    exact keyL_rep h n _ (Int.le_refl _)
theorem fenS_keyS {g : Geo} (hg : GeoOk g) {f : Int} (hf : 0 ≤ f) : keyS (fenS g f) = f := by
  have hd := hg.d
  unfold keyS
  rw [fenS_rep hf, show g.d.toNat = (g.d.toNat - 1) + 1 by omega]
  exact keyL_rep rfl _ 0 hf
theorem fenS_ok {g : Geo} (hg : GeoOk g) {f : Int} (hf : 0 ≤ f ∧ f ≤ 4294967295) : SsOk g (fenS g f) := by
  have h := newS_ok hg pw0
  refine ⟨hg, by unfold fenS; simpa using h.num, fun D hD => ?_, fun D hD => ?_⟩
  · unfold fenS at hD
    obtain ⟨E, hE, rfl⟩ := List.mem_map.1 hD
    rw [fenceD_len]
    exact h.len E hE
  · unfold fenS at hD
    obtain ⟨E, hE, rfl⟩ := List.mem_map.1 hD
    exact fenceD_ok (h.ok E hE) hf
theorem fenS_inv {g : Geo} (hg : GeoOk g) {f : Int} : Inv g (fenS g f) now0 := by
  intro st off hst hof k hk x hv
  rw [fenS_view] at hv
  exact newS_inv hg pw0 st off hst hof k hk x hv
theorem fenS_lost {g : Geo} (hg : GeoOk g) {f : Int} {st off : Int} (hst : 0 ≤ st ∧ st < g.s) (hof : 0 ≤ off ∧ off < g.c) : lostN (colsS g (fenS g f) st off) = 0 :=
  lost_none hg hst hof fun i a hi ha => by rw [fenS_view, newS_view hg hi ha]; simp
theorem set_self {l : List Dsk} {i : Nat} (h : i < l.length) : l.set i (l.getD i dsk0) = l := by
  apply List.ext_getElem?
  intro j
  by_cases e : i = j
  · subst e
    rw [List.getElem?_set_self h, List.getD_eq_getElem?_getD, List.getElem?_eq_getElem h]; rfl
  · rw [List.getElem?_set_ne e]
/-- a write of a lower epoch -/
theorem fenS_refused {g : Geo} (hg : GeoOk g) {f ep : Int} (hf : 0 ≤ f) (h : ep < f) {x : PutS} {xs : List PutS} (hx : ∀ y ∈ x :: xs, PutOk g y) : applyS g (fenS g f) (x :: xs) ep = (6, fenS g f) := by
  have hd := hg.d
  have hxk := (hx x (by simp)).1
  have hl : (fenS g f).ds.length = g.d.toNat := by rw [fenS_rep hf]; simp
  have hw : writeD (fenS g f).pw ((fenS g f).ds.getD x.plc.dk.toNat dsk0) x.plc.at_ x.cel ep = ((0, 6), pw0, (fenS g f).ds.getD x.plc.dk.toNat dsk0) := by
    have hdd := fenS_dead (g := g) (f := f) x.plc.dk
    unfold deadS at hdd
    unfold writeD
    rw [if_neg (show ¬ (fenS g f).pw.on = false by show ¬ true = false; decide), if_neg (by rw [hdd]; decide), if_pos (by rw [fenS_key hf (by omega)]; exact h)]
    rfl
  have ha : apply1 (fenS g f) x ep = (6, fenS g f) := by
    unfold apply1
    rw [hw]
    simp only
    rw [set_self (by omega)]
    rfl
  unfold applyS
  rw [if_pos hx]
  show (if (apply1 (fenS g f) x ep).1 ≠ 0 ∧ (apply1 (fenS g f) x ep).1 ≠ 5 then apply1 (fenS g f) x ep else _) = _
  rw [ha, if_pos (show (6 : Int) ≠ 0 ∧ (6 : Int) ≠ 5 by decide)]
end Go.Proofs

/-
  StripeFences, the walk, the whole.
-/
namespace Go.Proofs
open Go Go.Ev Go.RowKit
set_option linter.unusedSimpArgs false
set_option linter.unusedVariables false
set_option maxRecDepth 100000

theorem lbaM {g : Geo} (hg : GeoOk g) {lba : Int} (hl : 0 ≤ lba ∧ lba ≤ 255) : Int.tmod (IntKind.wrap .i64 lba) (capG g) = lba % capG g ∧ 0 ≤ lba % capG g ∧ lba % capG g < (g.d - 2) * g.c * g.s ∧ capG g ≠ 0 := by
  have hc := hg.cap
  have hc' : capG g = (g.d - 2) * g.c * g.s := rfl
  rw [← hc'] at hc ⊢
  rw [wrapI (by omega) (by omega), Int.tmod_eq_emod_of_nonneg hl.1]
  exact ⟨rfl, Int.emod_nonneg _ (by omega), Int.emod_lt_of_pos _ (by omega), by omega⟩
def fenRow (g : Geo) (fence k : Int) (data : Sec) : List Sec := rowW (rowR (colsS g (fenS g fence) (spotP g k).1 (spotP g k).2.2)) (spotP g k).2.1.toNat data
theorem fences_lost {g : Geo} (hg : GeoOk g) {k fence : Int} (hl0 : 0 ≤ k) (hl1 : k < (g.d - 2) * g.c * g.s) : lostN (colsS g (fenS g fence) (spotP g k).1 (spotP g k).2.2) ≤ 2 := by
  obtain ⟨pst, pco, pof⟩ := spotP_ok hg hl0 hl1
  rw [fenS_lost hg pst pof]; omega
theorem fences_plan {g : Geo} (hg : GeoOk g) {k fence : Int} {data : Sec} (hl0 : 0 ≤ k) (hl1 : k < (g.d - 2) * g.c * g.s) : planS g (fenS g fence) k data = (planL g (fenS g fence) (spotP g k).1 (spotP g k).2.2 (fenRow g fence k data) [(spotP g k).2.1, g.d - 2, g.d - 1], 0) := by
  unfold planS
  simp only
  rw [if_neg (show ¬ (fenS g fence).pw.on = false by show ¬ true = false; decide), if_pos (fences_lost hg hl0 hl1)]
  rfl
theorem fences_key {g : Geo} (hg : GeoOk g) {k fence epoch : Int} {data : Sec} (hf : 0 ≤ fence ∧ fence ≤ 4294967295) (hdat : SecOk data) (hl0 : 0 ≤ k) (hl1 : k < (g.d - 2) * g.c * g.s) : ∃ s6 e6, applyS g (fenS g fence) (planS g (fenS g fence) k data).1 epoch = (e6, s6) ∧ SsOk g s6 ∧ ((epoch < fence ∧ e6 = 6 ∧ readS g s6 k = (sec [], 0)) ∨ (¬ epoch < fence ∧ e6 = 0 ∧ readS g s6 k = (data, 0))) := by
  have hok := fenS_ok hg hf
  have hlost := fences_lost hg (fence := fence) hl0 hl1
  have hplan := fences_plan hg (fence := fence) (data := data) hl0 hl1
  obtain ⟨pst, pco, pof⟩ := spotP_ok hg hl0 hl1
  generalize hrowE : fenRow g fence k data = row at *
  by_cases hlt : epoch < fence
  · have hal := planL_alive (g := g) (s := fenS g fence) (st := (spotP g k).1) (off := (spotP g k).2.2) (row := row) fenS_dead [(spotP g k).2.1, g.d - 2, g.d - 1]
    have hpk := planL_ok hg (s := fenS g fence) pst pof (row := row) (ks := [(spotP g k).2.1, g.d - 2, g.d - 1])
    have hr := fenS_refused hg hf.1 hlt (x := putK g (spotP g k).1 (spotP g k).2.2 (row) (spotP g k).2.1) (xs := [g.d - 2, g.d - 1].map (putK g (spotP g k).1 (spotP g k).2.2 (row))) (by rw [hal] at hpk; exact hpk)
    refine ⟨fenS g fence, 6, ?_, hok, Or.inl ⟨hlt, rfl, ?_⟩⟩
    · rw [hplan]
      simp only
      rw [hal]
      exact hr
    · rcases (fenS_inv hg (f := fence)).read hg now0_ok (show (fenS g fence).pw.on = true from rfl) hl0 hl1 with h | ⟨_, h, _⟩
      · exact h
      · exact absurd hlost h
  · obtain ⟨_, s6, h1, h2⟩ := (fenS_inv hg (f := fence)).write hok now0_ok (show Lit0 (fenS g fence).pw from lit0) hl0 hl1 hdat (ep := epoch) (fenS_keyle hf.1 (by omega)) hlost
    refine ⟨s6, 0, h1, h2.ss, Or.inr ⟨hlt, rfl, ?_⟩⟩
    have hl6 : lostN (colsS g s6 (spotP g k).1 (spotP g k).2.2) ≤ 2 := by
      rw [lost_none hg pst pof fun i a hi ha hv => ?_]
      · omega
      · rcases h2.view i a hi.1 ha.1 hv with h | h
        · rw [fenS_view, newS_view hg hi ha] at h; cases h
        · rw [fenS_dead] at h; cases h
    rcases h2.inv.read hg (upd_ok now0_ok hdat k) h2.lit.1 hl0 hl1 with h | ⟨_, h, _⟩
    · rw [h]; unfold upd; rw [if_pos rfl]
    · exact absurd hl6 h
theorem fences_walk {a b c lba fence epoch : Int} {data : Sec} {w : World} (ha : 0 ≤ a ∧ a ≤ 255) (hb : 0 ≤ b ∧ b ≤ 255) (hc : 0 ≤ c ∧ c ≤ 255) (hl : 0 ≤ lba ∧ lba ≤ 255) (hf : 0 ≤ fence ∧ fence ≤ 4294967295) (he : 0 ≤ epoch ∧ epoch ≤ 4294967295) (hdat : SecOk data) :
    CallV Try.prog 6 #[.int .u8 a, .int .u8 b, .int .u8 c, .int .u8 lba, .agg (secV data), .int .u32 fence, .int .u32 epoch] w fun v w' => v = .bool true ∧ Below w.heap.size w w' := by
  apply C_ravelinlaw09_StripeFences
  unfold F_ravelinlaw09_StripeFences
  refine alc_fresh fun w1 hb1 k1 z1 => ?_
  refine open9 (R := fun v w' => v = .bool true ∧ Below w.heap.size w w') ha hb hc fun b2 b3 m bks p cc pr cr xs w2 hS hO k2 => ?_
  have hg := smallG_ok (a := a) (b := b) (c := c)
  generalize smallG a b c = g at *
  obtain ⟨hlm, hl0, hl1, hcap⟩ := lbaM hg hl
  rw [hlm]
  generalize lba % capG g = k at *
  have hb2 := k2.has hb1 (by simp)
  refine hO.ld ?_
  have hfen : fenceS (newS g pw0) fence = (0, fenS g fence) := by
    unfold fenceS
    rw [if_neg (show ¬ (newS g pw0).pw.on = false by show ¬ true = false; decide)]
    rfl
  refine st_Fence hS hO.row.sl hO.row.cap.1 (hO.off hS) (newS_ok hg pw0).ok hf fun w3 hS3 k3 => ?_
  rw [hfen] at hS3 ⊢
  have hO3 := hO.keep hS k3
  have hb3 := k3.has hb2 (hS.typ hb2 (by decide) (by decide) (by decide))
  refine OpI_int.2 ((Cb_false (p := _)).2 ?_)
  refine hO3.ld ?_
  refine st_Key hS3 hO3.row.sl hO3.row.cap.1 fun w4 k4 => OpI_int.2 ?_
  rw [fenS_keyS hg hf.1]
  have e1 : (fence != fence) = false := by simp
  rw [e1]
  refine (Cb_false (p := _)).2 ⟨hcap, ?_⟩
  have hO4 := hO3.keep0 k4
  have hb4 := k4.has hb3 (by simp)
  have hS4 := hS3.keep0 k4
  have hok := fenS_ok hg hf
  refine hO4.ld ?_
  refine LdA_all hb4 rfl ?_
  refine st_Plan hS4 hO4.row.sl hO4.row.cap.1 hok.ok hl0 hl1 hdat fun pp pc w5 o5 k5 => ?_
  have hO5 := hO4.keep0 k5
  have hb5 := k5.has hb4 (by simp)
  have hS5 := hS4.keep0 k5
  have hplan := fences_plan hg hl0 hl1 (fence := fence) (data := data)
  have hp2 : (planS g (fenS g fence) k data).2 = 0 := by rw [hplan]
  have hp2' : (planS (SB.mk m g bks).g (fenS g fence) k data).2 = 0 := hp2
  rw [hp2']
  refine T2_mk.2 (OpS_slice.2 (OpI_int.2 ((Cb_false (p := _)).2 ?_)))
  refine hO5.ld ?_
  have z4 : w1.heap.size ≤ w4.heap.size := ((k2.mono fun _ h => h.elim).trans (k3.trans (k4.mono fun _ h => h.elim)) : Keep (SFoot ⟨m, g, bks⟩) w1 w4).size
  have hplen : (planS g (fenS g fence) k data).1.length ≤ 3 := by
    rw [hplan]
    exact List.length_filterMap_le _ _
  refine st_Apply hS5 hO5.row.sl hO5.row.cap.1 (hO5.off hS5) o5.sl (by show (planS g (fenS g fence) k data).1.length ≤ 1000000; omega) (fun b' o hb' hi => ?_) fun w6 hS6 k6 => ?_
  · rcases Own.cases o5 with ⟨h0, _⟩ | ⟨b'', cur, h0, _, hg', _⟩
    · rw [h0] at hb'; cases hb'
    · rw [h0] at hb'; cases hb'
      exact hS5.typ hg' (by decide) (by decide) (by decide) hi
  have hO6 := hO5.keep hS5 k6
  have hb6 := k6.has hb5 (hS5.typ hb5 (by decide) (by decide) (by decide))
  refine OpI_int.2 ?_
  refine hO6.ld ?_
  -- what the write did
  have K16 : Keep (SFoot ⟨m, g, bks⟩) w1 w6 := (((k2.mono fun _ h => h.elim).trans k3).trans ((k4.trans k5).mono fun _ h => h.elim)).trans k6
  have k06 : Keep (fun _ => False) w w6 := (k1.trans (Keep.refl _ _)).trans' K16 fun i hi h => by have := hO.foot h; omega
  have fin : ∀ w', Keep (fun _ => False) w6 w' → Below w.heap.size w w' := fun w' k' => (k06.trans k').below
  have key := fences_key hg hf hdat hl0 hl1 (epoch := epoch)
  obtain ⟨s6, e6, hap, hok6, hcase⟩ := key
  have hap' : applyS (SB.mk m g bks).g (fenS g fence) (planS (SB.mk m g bks).g (fenS g fence) k data).1 epoch = (e6, s6) := hap
  rw [hap'] at hS6 ⊢
  refine st_Read hS6 hO6.row.sl hO6.row.cap.1 hok6.ok hl0 hl1 fun w7 k7 => ?_
  have hb7 := k7.has hb6 (by simp)
  have hrd : ∀ r, readS g s6 k = r → readS (SB.mk m g bks).g s6 k = r := fun r h => h
  rcases hcase with ⟨hlt, rfl, hr⟩ | ⟨hlt, rfl, hr⟩
  · rw [hrd _ hr]
    refine T2_mk.2 (OpA_agg.2 ⟨rfl, OpI_int.2 ?_⟩)
    refine copy_of (by rw [zc_sec]; rfl) rfl (one_secV _) fun w8 hb8 k8 z8 => ?_
    rw [decide_eq_true hlt]
    refine (Cb_true (q := _)).2 ⟨rfl, rfl, (Cb_true (q := _)).2 ?_⟩
    refine LdA_all hb8 rfl ?_
    refine DoQ_of (fun d => bld_sec0 _) (OpA_agg.2 ⟨rfl, ?_⟩)
    refine EqB_sec sec0_ok' sec0_ok' fun r hr => Ret_nil.2 ?_
    rw [hr.2 rfl]
    exact ⟨rfl, fin _ (k7.trans k8)⟩
  · rw [hrd _ hr]
    refine T2_mk.2 (OpA_agg.2 ⟨rfl, OpI_int.2 ?_⟩)
    refine copy_of (by rw [zc_sec]; rfl) rfl (one_secV _) fun w8 hb8 k8 z8 => ?_
    rw [decide_eq_false hlt]
    refine (Cb_false (p := _)).2 ⟨rfl, rfl, (Cb_true (q := _)).2 ?_⟩
    refine LdA_all hb8 rfl ?_
    refine LdA_all (k8.has hb7 (by simp)) rfl ?_
    refine EqB_sec hdat hdat fun r hr => Ret_nil.2 ?_
    rw [hr.2 rfl]
    exact ⟨rfl, fin _ (k7.trans k8)⟩
end Go.Proofs
