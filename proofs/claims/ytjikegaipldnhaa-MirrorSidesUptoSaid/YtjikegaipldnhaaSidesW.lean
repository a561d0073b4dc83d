/-
  MirrorSides: the law says true.
-/
import Derived.Test.YtjikegaipldnhaaSidesP
import Derived.Test.YtjikegaipldnhaaFLaw12S
import Derived.Test.YtjikegaipldnhaaArgs
namespace Go.Proofs
open Go Go.Ev Go.RowKit
set_option linter.unusedSimpArgs false
set_option linter.unusedVariables false
set_option maxRecDepth 100000

theorem RecG.ok {r : Rec} (h : RecG r) : RecOk r := by
  obtain ⟨h1, h2, h3⟩ := h
  unfold recGood at h1
  simp only [Bool.and_eq_true, decide_eq_true_eq] at h1
  exact ⟨⟨by omega, by omega⟩, h2, ⟨by omega, by omega⟩, h3⟩
theorem EqB_rec_eq {x y : Operand} {r : Rec} {C : World → Prop} {K : Bool → Prop} (hr : RecOk r) (hK : K true) :
    EqB Try.prog .eql 46 x y (.agg (recV r)) (.agg (recV r)) C K :=
  EqB_flat (ks := recKs) (by kernel_rfl) (by kernel_rfl) (by kernel_rfl) (by kernel_rfl) (by kernel_rfl) (by simpa [recV] using fits_recL hr) (by simpa [recV] using fits_recL hr)
    fun b hb => by rw [hb.2 rfl]; exact hK
theorem SlL.ldAS {α : Type} {L : Lay α} {S : World → Prop} {w0 : World} {p : Option Addr} {l : Nat} {xs : List α} (h0 : S w0) (h : ∀ w', S w' → SlL L w' p l xs) {i : Int} {x : α} {n : Nat} (hn : L.size = n) (hi0 : 0 ≤ i) (hi : xs[i.toNat]? = some x)
    {K : Array Value → Prop} (hK : K (L.row x).toArray) : IdxS p l i n fun b o => LdA n b o S K := by
  subst hn
  obtain ⟨b, o, hp, _⟩ := (h w0 h0).2 _ x hi
  have hlt := (List.getElem?_eq_some_iff.1 hi).1
  have hl := (h w0 h0).1
  refine ⟨b, o, hp, hi0, by omega, (L.row x).toArray, by simp [L.len], ?_, hK⟩
  intro w' hw j hj
  obtain ⟨b', o', hp', hc⟩ := (h w' hw).2 _ x hi
  rw [hp] at hp'
  cases hp'
  have := hc j hj
  rw [this]
  simp
theorem by_mem {rs : List Rec} (h : ∀ r ∈ rs, RecG r) : By (rs.flatMap packB) := by_flat fun r hr => (h r hr).2.2
theorem scan_mem {rs : List Rec} (h : ∀ r ∈ rs, RecG r) : scanB (rs.flatMap packB) = rs := by
  have := scan_flat (t := []) h (by decide)
  rwa [List.append_nil] at this
theorem recG_of {ep : Int} {s : PS} {n : Nat} (h : SG ep s n) {D : List Rec} (hD : IsD s.es D) : ∀ r ∈ D, RecG r := by
  intro r hr
  obtain ⟨e, he, rfl⟩ := List.mem_map.1 (hD.1.subset hr)
  have h1 := h.keys e.1 (List.mem_map.2 ⟨e, he, rfl⟩)
  obtain ⟨h2, h3, h4⟩ := h.ents e he
  refine ⟨?_, ⟨h3, h4⟩, h2⟩
  unfold recGood recOf
  simp only [Bool.and_eq_true, decide_eq_true_eq]
  omega
def EP (ep : Int) : Rec := ⟨6, IntKind.wrap .u64 ep, 0, sec []⟩
theorem recG_EP {ep : Int} (he : 0 ≤ ep ∧ ep ≤ 4294967295) : RecG (EP ep) := by
  refine ⟨rfl, ?_, (sec_ok (l := []) (by simp) : SecOk (sec []))⟩
  show 0 ≤ IntKind.wrap .u64 ep ∧ IntKind.wrap .u64 ep ≤ 18446744073709551615
  rw [wrapU64 (by omega) (by omega)]
  omega
/-- what a memory keeps, when it holds these records -/
theorem pr_Rec' {w : World} {R : Value → World → Prop} {q : PB} {s : PS} (h : PairAt w q s) (f : Bool) {rs : List Rec} (hx : sx f s = rs.flatMap packB) (hr : ∀ r ∈ rs, RecG r) (hK : ∀ p' c' w', OwnL rLay w' w.heap.size 46 p' rs.length c' rs → Keep (fun _ => False) w w' → R (.slice p' rs.length c') w') :
    CallV Try.prog 16 #[.pointer (some ⟨ramB q f, 0, none⟩)] w R := by
  have e : scanB (cond f s.xb s.xa) = rs := by
    show scanB (sx f s) = rs
    rw [hx]; exact scan_mem hr
  refine pr_Rec h f (by show By (sx f s); rw [hx]; exact by_mem hr) fun p' c' w' o k => ?_
  rw [e] at o ⊢
  exact hK p' c' w' o k
theorem side2 (n : Nat) : ∃ f, Int.tmod (n : Int) 2 = sideN f := by
  rw [Int.tmod_eq_emod_of_nonneg (by omega)]
  rcases Nat.mod_two_eq_zero_or_one n with h | h
  · exact ⟨false, by show (n : Int) % 2 = 0; omega⟩
  · exact ⟨true, by show (n : Int) % 2 = 1; omega⟩
theorem lba40 {y : Int} (h : 0 ≤ y ∧ y ≤ 255) : ∃ l, IntKind.wrap .i64 (Int.tmod y 40) = l ∧ 0 ≤ l ∧ l < 40 := by
  refine ⟨y % 40, ?_, by omega, by omega⟩
  rw [Int.tmod_eq_emod_of_nonneg (by omega), wrapI (by omega) (by omega)]
theorem sides_walk {w : World} {bp dp : Option Addr} {bl bc dl dc : Nat} {bs ds : List Int} {side : Bool} {ep : Int} (hb : SlL byLay w bp bl bs) (hbb : By bs) (hd : SlL byLay w dp dl ds) (hdb : By ds) (he : 0 ≤ ep ∧ ep ≤ 4294967295) :
    CallV Try.prog 5 #[.slice bp bl bc, .slice dp dl dc, .bool side, .int .u32 ep] w fun v w' => v = .bool true ∧ Below w.heap.size w w' := by
  have hbl := hb.1
  have hdl := hd.1
  apply C_ravelinlaw12_MirrorSides
  unfold F_ravelinlaw12_MirrorSides
  refine start12_of (by decide) (by decide) (by decide) (by decide) fun q w1 hp hro hsz hlow k1 => ?_
  refine CallV.mono aw12 ?_
  rintro _ w2 ⟨rfl, k2⟩
  refine OpB_bool.2 ⟨rfl, rfl, rfl, rfl, rfl, rfl, rfl, rfl, (Cb_false (p := _)).2 ?_⟩
  refine pr_Stamp (hp.keep k2) fun w3 hp3 k3 => ?_
  rw [hsz] at hp3 ⊢
  have est : stampP 20000 ps0 ep = (0, ⟨[], 0, ep, true, true, ⟨true, 0, 2⟩, packB (EP ep), packB (EP ep)⟩) := rfl
  rw [est] at hp3 ⊢
  refine OpI_int.2 ((Cb_false (p := _)).2 ?_)
  have k03 : Keep (fun _ => False) w w3 := Keep.lows (k1.trans k2) (Nat.le_refl _) (PFoot.low k3 hlow)
  have hg0 : SG ep ⟨[], 0, ep, true, true, ⟨true, 0, 2⟩, packB (EP ep), packB (EP ep)⟩ 0 := by
    refine ⟨rfl, rfl, rfl, by intro k hk; simp at hk, by intro e he; simp at he, rfl, fun g => ⟨[EP ep], ?_, by simp, ?_⟩⟩
    · cases g <;> simp [sx]
    · intro r hr; rw [List.mem_singleton.1 hr]; exact recG_EP he
  generalize hs0 : (⟨[], 0, ep, true, true, ⟨true, 0, 2⟩, packB (EP ep), packB (EP ep)⟩ : PS) = s0 at *
  have hu0 : ∀ g, upF s0 g = true := by rw [← hs0]; intro g; cases g <;> rfl
  clear hs0 est
  refine ⟨fun st w' => st = (sideN side, (ramB q side, 0), (ramB q (!side), 0), ()) ∧ w' = w3, ?_, ?_⟩
  · cases side
    · exact (Cb_false (p := _)).2 ⟨rfl, rfl⟩
    · exact (Cb_true (q := _)).2 ⟨rfl, rfl⟩
  rintro _ _ w4 ⟨rfl, hw⟩
  rw [hw]
  clear hw
  simp only
  refine LoopC_of (σ := Int × Unit) (fun st w' => ∃ (n : Nat) (s : PS), st.1 = (n : Int) ∧ n ≤ bl ∧ n ≤ 60 ∧ PairAt w' q s ∧ SG ep s n ∧ (∀ g, upF s g = true) ∧ Keep (fun _ => False) w w') (fun st _ => (60 - st.1).toNat)
    ⟨0, s0, rfl, by omega, by omega, hp3, hg0, hu0, k03⟩ ?_
  rintro _ ⟨i, u⟩ w5 ⟨n, s, hi, hn, hn2, hp5, hg5, hu5, k5⟩
  simp only at hi ⊢
  subst hi
  refine ⟨trivial, trivial, ?_⟩
  refine Cb_of (fun hc => ?_) (fun hc => ?_)
  · have hc : (n : Int) < (bl : Int) ∧ (n : Int) < 60 := by simpa using hc
    refine ⟨by decide, ?_⟩
    have hget := getD_at (xs := bs) (i := n) (by omega) 0
    have hy := hbb (bs.getD n 0) (List.mem_of_getElem? hget)
    refine (hb.keepB k5 (by simp)).ld0 (i := (n : Int)) (n := 1) (x := bs.getD n 0) (v := .int .u8 (bs.getD n 0)) rfl (by omega) hget rfl ?_
    refine OpI_int.2 ⟨by decide, ?_⟩
    obtain ⟨f, hf⟩ := side2 n
    obtain ⟨lba, hlb, hlb2⟩ := lba40 hy
    rw [hf, hlb]
    have e1 : IntKind.wrap .u8 (n : Int) = (n : Int) := wrapU8 (by omega) (by omega)
    rw [e1]
    refine DoQ_of (v := .agg (secV (sec [(n : Int)]))) (fun d => run_build _ _ _ _ (by kernel_rfl)) ?_
    refine OpA_agg.2 ⟨rfl, ?_⟩
    refine pr_Put hp5 f fun w6 hp6 k6 => ?_
    rw [hro, hsz] at hp6 ⊢
    obtain ⟨g1, g2, g3, _⟩ := sg_put hg5 (by omega) hp5.cache.keysNd (hu5 f) hlb2 (d := sec [(n : Int)]) (sec_ok (by simp; omega))
    refine T2_mk.2 (OpI_int.2 (OpI_int.2 ?_))
    rw [g1]
    refine (Cb_false (p := _)).2 ?_
    have e3 : IntKind.wrap .i64 ((n : Int) + 1) = ((n + 1 : Nat) : Int) := by rw [wrapI (by omega) (by omega)]; omega
    refine ⟨_, by show (60 - IntKind.wrap .i64 ((n : Int) + 1)).toNat < (60 - (n : Int)).toNat; rw [e3]; omega, ⟨n + 1, _, e3, by omega, by omega, hp6, g2, fun g => (g3 g).trans (hu5 g), Keep.lows k5 (Nat.le_refl _) (PFoot.low k6 hlow)⟩, rfl⟩
  clear hc
  -- one side leaves
  refine pr_Leave hp5 side fun w6 hp6 k6 => ?_
  have hua : s.ua = true := hu5 false
  have hub : s.ub = true := hu5 true
  have el : leaveP s side = (0, downS s side false) := by
    unfold leaveP
    rw [if_neg (by simp [hua, hub])]
  rw [el] at hp6 ⊢
  refine OpI_int.2 ((Cb_false (p := _)).2 ?_)
  have e1 : IntKind.wrap .i64 (1 - sideN side) = sideN (!side) := by cases side <;> decide +kernel
  rw [e1]
  have hg6 := sg_down hg5 side false
  have hdn : upF (downS s side false) side = false := by cases side <;> rfl
  have hup : upF (downS s side false) (!side) = true := by cases side; exact hub; exact hua
  have k06 : Keep (fun _ => False) w w6 := Keep.lows k5 (Nat.le_refl _) (PFoot.low k6 hlow)
  generalize downS s side false = s6 at *
  refine pr_Leave hp6 (!side) fun w7 hp7 k7 => ?_
  have el2 : leaveP s6 (!side) = (13, s6) := by
    unfold leaveP
    rw [if_pos (by cases side; exact Or.inl hdn; exact Or.inr hdn)]
  rw [el2] at hp7 ⊢
  refine OpI_int.2 ((Cb_false (p := _)).2 ?_)
  have k07 : Keep (fun _ => False) w w7 := Keep.lows k06 (Nat.le_refl _) (PFoot.low k7 hlow)
  obtain ⟨rs, hrs, hrl, hrg⟩ := hg6.mem side
  refine pr_Rec' hp7 side hrs hrg fun pw cw w8 ow k8 => ?_
  refine OpS_slice.2 ?_
  have hp8 := hp7.keep k8
  have k08 := k07.trans k8
  refine LoopC_of (σ := Int × Unit) (fun st w' => ∃ (m : Nat) (s : PS), st.1 = (m : Int) ∧ m ≤ dl ∧ m ≤ 60 ∧ PairAt w' q s ∧ SG ep s (n + m) ∧ upF s side = false ∧ upF s (!side) = true ∧ sx side s = rs.flatMap packB ∧ Keep (fun _ => False) w w' ∧ OwnL rLay w' w7.heap.size 46 pw rs.length cw rs) (fun st _ => (60 - st.1).toNat)
    ⟨0, s6, rfl, by omega, by omega, hp8, hg6, hdn, hup, hrs, k08, ow⟩ ?_
  rintro _ ⟨i, u⟩ w9 ⟨m, s9, hi, hm, hm2, hp9, hg9, hdn9, hup9, hrs9, k9, ow9⟩
  simp only at hi ⊢
  subst hi
  refine ⟨trivial, trivial, ?_⟩
  refine Cb_of (fun hc => ?_) (fun hc => ?_)
  · have hc : (m : Int) < (dl : Int) ∧ (m : Int) < 60 := by simpa using hc
    have hget := getD_at (xs := ds) (i := m) (by omega) 0
    have hy := hdb (ds.getD m 0) (List.mem_of_getElem? hget)
    refine (hd.keepB k9 (by simp)).ld0 (i := (m : Int)) (n := 1) (x := ds.getD m 0) (v := .int .u8 (ds.getD m 0)) rfl (by omega) hget rfl ?_
    refine OpI_int.2 ⟨by decide, ?_⟩
    obtain ⟨lba, hlb, hlb2⟩ := lba40 hy
    rw [hlb]
    have e2 : IntKind.wrap .u8 (m : Int) = (m : Int) := wrapU8 (by omega) (by omega)
    rw [e2]
    refine DoQ_of (v := .agg (secV (sec [(m : Int), 1]))) (fun d => run_build _ _ _ _ (by kernel_rfl)) ?_
    refine OpA_agg.2 ⟨rfl, ?_⟩
    try rw [e1]
    refine pr_Put hp9 (!side) fun w10 hp10 k10 => ?_
    rw [hro, hsz] at hp10 ⊢
    obtain ⟨g1, g2, g3, g4⟩ := sg_put hg9 (by omega) hp9.cache.keysNd hup9 hlb2 (d := sec [(m : Int), 1]) (sec_ok (by simp; omega))
    refine T2_mk.2 (OpI_int.2 (OpI_int.2 ?_))
    rw [g1]
    rw [Bool.not_not] at g4
    have g4 := g4 hdn9
    have d10 := (g3 side).trans hdn9
    have u10 := (g3 (!side)).trans hup9
    generalize (putP 64 20000 s9 (!side) lba (sec [(m : Int), 1])).2 = s10 at *
    generalize (putP 64 20000 s9 (!side) lba (sec [(m : Int), 1])).1.1 = v10
    refine DoQ_of (fun d => bld_sec0 _) (OpA_agg.2 ⟨rfl, ?_⟩)
    refine pr_Put hp10 side fun w11 hp11 k11 => ?_
    rw [hro, hsz] at hp11 ⊢
    have ep : putP 64 20000 s10 side 1 (sec []) = ((0, 13), s10) := by
      unfold putP
      rw [if_neg (by decide), if_pos (show (cond side s10.ub s10.ua) = false from d10)]
    rw [ep] at hp11 ⊢
    refine T2_mk.2 (OpI_int.2 (OpI_int.2 ⟨trivial, trivial, (Cb_false (p := _)).2 ?_⟩))
    have e3 : IntKind.wrap .i64 ((m : Int) + 1) = ((m + 1 : Nat) : Int) := by rw [wrapI (by omega) (by omega)]; omega
    have k911 := PFoot.trans k10 k11
    refine ⟨_, by show (60 - IntKind.wrap .i64 ((m : Int) + 1)).toNat < (60 - (m : Int)).toNat; rw [e3]; omega, ⟨m + 1, s10, e3, by omega, by omega, hp11, by rw [← Nat.add_assoc]; exact g2, d10, u10, g4.trans hrs9, Keep.lows k9 (Nat.le_refl _) (PFoot.low k911 hlow), PFoot.own k911 ow9 (by decide) hp9 (by decide) (by decide) (by decide)⟩, rfl⟩
  clear hc
  -- the one that is away has stayed as it was
  refine pr_Rec' hp9 side hrs9 hrg fun p1 c1 w10 o1 k10 => ?_
  refine OpS_slice.2 ?_
  have hl60 : rs.length ≤ 1000 := by omega
  refine same_self o1.sl (ow9.keep k10 (by simp)).sl (by omega) (fun r hr => (hrg r hr).ok) fun w11 k11 => ?_
  refine OpB_bool.2 ((Cb_false (p := _)).2 ?_)
  have hp11 := (hp9.keep k10).keep k11
  have k011 := (k9.trans k10).trans k11
  have hnd := hp11.cache.keysNd
  have hlen : s9.es.length ≤ 40 := by
    have := nodup_len 40 (s9.es.map (·.1)) hnd hg9.keys
    rwa [List.length_map] at this
  have hk : ∀ e ∈ s9.es, 0 ≤ e.1 ∧ e.1 ≤ 2147483647 := fun e he => by
    have := hg9.keys e.1 (List.mem_map.2 ⟨e, he, rfl⟩)
    omega
  -- it joins
  refine pr_Join hp11 side (by omega) hk (fun h => by rw [show (cond side s9.ub s9.ua) = false from hdn9] at h; cases h) fun _ D w12 hD hp12 k12 => ?_
  have hDl : D.length ≤ 40 := by have := hD.1.length_eq; simp only [List.length_map] at this; omega
  have eE : epR s9 = EP ep := by unfold epR EP; rw [hg9.epo]
  obtain ⟨j1, j2, j3, j4, j5⟩ := sg_load hg9.on hg9.left (rs := EP ep :: D) (by simp; omega) side
  have hGn : ∀ r ∈ EP ep :: D, RecG r := by
    intro r hr
    rcases List.mem_cons.1 hr with rfl | hr
    · exact recG_EP he
    · exact recG_of hg9 hD r hr
  rw [hsz] at hp12 ⊢
  have ej : joinP 20000 s9 side D = (0, downS (load1 20000 (EP ep :: D) side s9).2 side true) := by
    unfold joinP
    rw [if_neg (by rw [show (cond side s9.ub s9.ua) = false from hdn9]; simp), eE, if_neg (by rw [j1]; simp)]
  rw [ej] at hp12 ⊢
  refine OpI_int.2 ((Cb_false (p := _)).2 ?_)
  have hes : (downS (load1 20000 (EP ep :: D) side s9).2 side true).es = s9.es := load1_same.1
  have hepo : (downS (load1 20000 (EP ep :: D) side s9).2 side true).epoch = ep := load1_same.2.trans hg9.epo
  have hon : (downS (load1 20000 (EP ep :: D) side s9).2 side true).pw.on = true := j2
  have hle : (downS (load1 20000 (EP ep :: D) side s9).2 side true).pw.left = 0 := j3
  have hsx : sx side (downS (load1 20000 (EP ep :: D) side s9).2 side true) = (EP ep :: D).flatMap packB := by cases side <;> exact j4
  have hupA : upF (downS (load1 20000 (EP ep :: D) side s9).2 side true) side = true := by cases side <;> rfl
  have hupB : upF (downS (load1 20000 (EP ep :: D) side s9).2 side true) (!side) = true := by
    cases side
    · exact load1_up.2.1.trans hup9
    · exact load1_up.1.trans hup9
  generalize downS (load1 20000 (EP ep :: D) side s9).2 side true = s12 at *
  have k012 : Keep (fun _ => False) w w12 := Keep.lows k011 (Nat.le_refl _) (PFoot.low k12 hlow)
  refine pr_Join hp12 side (by rw [hes]; omega) (by rw [hes]; exact hk) (fun _ => ?_) (fun h => by rw [show (cond side s12.ub s12.ua) = true from hupA] at h; cases h)
  refine OpI_int.2 ((Cb_false (p := _)).2 ?_)
  -- what it holds now
  refine pr_Rec' hp12 side hsx hGn fun p2 c2 w13 o2 k13 => ?_
  refine OpS_slice.2 ?_
  have hp13 := hp12.keep k13
  have hD12 : IsD s12.es D := by rw [hes]; exact hD
  refine pr_Compact hp13 (by rw [hes]; omega) (by rw [hes]; exact hk) hD12 fun w14 hp14 k14 => ?_
  rw [hsz] at hp14 ⊢
  have eE12 : epR s12 = EP ep := by unfold epR EP; rw [hepo]
  have eup : upS s12 false = [false, true] := by
    have h1 : s12.ua = true := by cases side; exact hupA; exact hupB
    have h2 : s12.ub = true := by cases side; exact hupB; exact hupA
    unfold upS
    simp [h1, h2]
  rw [eE12, eup] at hp14 ⊢
  obtain ⟨a1, a2, a3, a4, a5⟩ := sg_load hon hle (rs := EP ep :: D) (by simp; omega) false
  obtain ⟨b1, b2, b3, b4, b5⟩ := sg_load a2 a3 (rs := EP ep :: D) (by simp; omega) true
  have ecomp : compS 20000 (EP ep :: D) [false, true] s12 = (0, (load1 20000 (EP ep :: D) true (load1 20000 (EP ep :: D) false s12).2).2) := by
    have : compS 20000 (EP ep :: D) [false, true] s12 = if (load1 20000 (EP ep :: D) false s12).1 ≠ 0 then load1 20000 (EP ep :: D) false s12 else if (load1 20000 (EP ep :: D) true (load1 20000 (EP ep :: D) false s12).2).1 ≠ 0 then load1 20000 (EP ep :: D) true (load1 20000 (EP ep :: D) false s12).2 else (0, (load1 20000 (EP ep :: D) true (load1 20000 (EP ep :: D) false s12).2).2) := rfl
    rw [this, if_neg (by rw [a1]; simp), if_neg (by rw [b1]; simp)]
  rw [ecomp] at hp14 ⊢
  refine OpI_int.2 ((Cb_false (p := _)).2 ?_)
  have hes14 : (load1 20000 (EP ep :: D) true (load1 20000 (EP ep :: D) false s12).2).2.es = s9.es := load1_same.1.trans (load1_same.1.trans hes)
  have hx14 : ∀ g, sx g (load1 20000 (EP ep :: D) true (load1 20000 (EP ep :: D) false s12).2).2 = (EP ep :: D).flatMap packB := by
    intro g
    cases g
    · exact b5.trans a4
    · exact b4
  generalize (load1 20000 (EP ep :: D) true (load1 20000 (EP ep :: D) false s12).2).2 = s14 at *
  have k014 : Keep (fun _ => False) w w14 := Keep.lows (k012.trans k13) (Nat.le_refl _) (PFoot.low k14 hlow)
  have o2' := PFoot.own k14 o2 (by decide) hp13 (by decide) (by decide) (by decide)
  have hok : ∀ r ∈ EP ep :: D, RecOk r := fun r hr => (hGn r hr).ok
  have hl1 : (EP ep :: D).length ≤ 1000 := by simp; omega
  refine pr_Rec' hp14 side (hx14 side) hGn fun p3 c3 w15 o3 k15 => ?_
  refine OpS_slice.2 ?_
  have o2b := o2'.keep k15 (by simp)
  refine same_self o2b.sl o3.sl (by omega) hok fun w16 k16 => ?_
  refine OpB_bool.2 ((Cb_false (p := _)).2 ?_)
  have hp16 := (hp14.keep k15).keep k16
  refine pr_Rec' hp16 (!side) (hx14 (!side)) hGn fun p4 c4 w17 o4 k17 => ?_
  refine OpS_slice.2 ?_
  have o2c := (o2b.keep k16 (by simp)).keep k17 (by simp)
  refine same_self o2c.sl o4.sl (by omega) hok fun w18 k18 => ?_
  refine OpB_bool.2 ((Cb_false (p := _)).2 ?_)
  have hp18 := (hp16.keep k17).keep k18
  have o2d := o2c.keep k18 (by simp)
  intro d
  have kd := Keep.drew (fun _ => False) w18 d
  have hpd := hp18.keep kd
  have k0d := ((((k014.trans k15).trans k16).trans k17).trans k18).trans kd
  have sD : ∀ {w' : World}, Keep (fun _ => False) (w18.dr d) w' → SlL rLay w' p2 (EP ep :: D).length (EP ep :: D) := fun k => ((o2d.keep kd (by simp)).keep k (by simp)).sl
  have hcap := o2d.cap
  refine ⟨fun w' => SlL rLay w' p2 (EP ep :: D).length (EP ep :: D), sD (Keep.refl _ _), ?_⟩
  refine pr_Dirty hpd (by rw [hes14]; omega) fun D' p5 l5 c5 w19 hD' o5 k19 => ?_
  have eD : D' = D := isD_eq hnd (by rw [← hes14]; exact hD') hD
  rw [eD] at o5
  refine OpS_slice.2 ⟨sD k19, ?_⟩
  have hl5 := o5.length
  have elen : ((((EP ep :: D).length : Nat) : Int) == (IntKind.wrap .i64 (((l5 : Nat) : Int) + 1))) = true := by
    rw [hl5, List.length_cons, wrapI (by omega) (by omega)]
    simp
  rw [elen]
  refine (Cb_true (q := _)).2 ?_
  refine SlL.ldAS (i := 0) (n := 19) (x := EP ep) (sD k19) (fun w' h => h) rfl (by omega) rfl ?_
  refine ⟨.agg (recV (EP ep)), fun w' _ => run_build _ _ _ _ (by kernel_rfl), OpA_agg.2 ⟨rfl, ?_⟩⟩
  refine EqB_rec_eq (recG_EP he).ok ?_
  refine (Cb_true (q := _)).2 ?_
  refine Slc_from (lo := 1) (by simp) hcap.1 ?_
  have hp19 := hpd.keep k19
  refine pr_Dirty hp19 (by rw [hes14]; omega) fun D2 p6 l6 c6 w20 hD2 o6 k20 => ?_
  have eD2 : D2 = D := isD_eq hnd (by rw [← hes14]; exact hD2) hD
  rw [eD2] at o6
  have k1920 := k19.trans k20
  refine OpS_slice.2 ⟨sD k1920, ?_⟩
  have hsub := (sD k1920).sub (lo := 1) (hi := (EP ep :: D).length) (m := c2) (by simp) (Nat.le_refl _) hcap.1
  have etl : ((EP ep :: D).take (EP ep :: D).length).drop 1 = D := by rw [List.take_length]; rfl
  rw [etl] at hsub
  refine same_self hsub o6.sl (by simp; omega) (fun r hr => hok r (by simp [hr])) fun w21 k21 => ?_
  exact OpB_bool.2 ⟨sD (k1920.trans k21), Ret_nil.2 ⟨rfl, ((k0d.trans k1920).trans k21).below⟩⟩
end Go.Proofs
