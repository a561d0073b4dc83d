/-
  ScrubLost, the walk.
-/
import Derived.Test.YtdeaollkgckppaaStillX
import Derived.Test.YtdeaollkgckppaaFLost
namespace Go.Proofs
open Go Go.Ev Go.RowKit
set_option linter.unusedSimpArgs false
set_option linter.unusedVariables false
set_option maxRecDepth 100000

/-- the disks that are hurt, one by one -/
def hl3 (k d : Int) : Nat → List Int
  | 0 => []
  | i + 1 => ((k + (i : Int)) % d) :: hl3 k d i
/-- a stripe of two rows, the first one lost, in the second one a cell -/
theorem lost_scrub {g : Geo} {s : SS} {now : Int → Sec} {N : Int} (h : Good g s now N) (hN : N < 1000000) (hc : g.c = 2) (h1 : ¬ lostN (colsS g s 0 0) ≤ 2) {o : Int} (ho : 0 ≤ o ∧ o < g.d) (hal : ∀ i, deadS s i = false) (hv : ∀ i, (0 ≤ i ∧ i < g.d) → (viewS s i 1 = none ↔ i = o)) :
    ∃ s', scrubS g s 0 0 = (0, ⟨2, 1, 1, 1⟩, s') ∧ Good g s' now (N + 32) ∧ s'.pw.steps = s.pw.steps + 1 ∧ (∀ i, deadS s' i = false) ∧ ∀ i a, (0 ≤ i ∧ i < g.d) → (0 ≤ a ∧ a < g.c * g.s) → (viewS s' i a = none ↔ viewS s i a = none ∧ a ≠ 1) := by
  have hg := h.ss.geo
  have hs := hg.s
  have e1 : (0 : Int) * g.c + 1 = 1 := by omega
  have hl2 : lostN (colsS g s 0 1) ≤ 1 := lost_le1 hg (by omega) (by omega) o fun k hk hvk => by
    obtain ⟨pk1, pk2⟩ := plcP_ok hg (st := 0) (off := 1) (by omega) (by omega) (k : Int)
    have e : (plcP g 0 1 (k : Int)).at_ = 1 := e1
    rw [e] at hvk
    exact (hv _ pk1).1 hvk
  obtain ⟨s', a1, a2, a3, a4, a5⟩ := row_mend h (by omega) (st := 0) (off := 1) (by omega) (by omega) (by omega) 0
  have hw1 := wrong_one h (st := 0) (off := 1) (by omega) (by omega) (by omega) ho (hal o) fun i hi => by rw [e1]; exact hv i hi
  rw [hw1] at a1 a3
  refine ⟨s', ?_, a2, a3, fun i => by rw [a4, hal], fun i a hi ha => ?_⟩
  · unfold scrubS
    rw [show g.c.toNat = 0 + 1 + 1 by omega, scrubL_succ, if_neg (by rw [h.lit.1]; decide), if_neg h1, scrubL_succ, if_neg (by rw [h.lit.1]; decide)]
    rw [show (0 : Int) + 1 = 1 from rfl, if_pos (by omega)]
    show (if (mendL g 0 0 1 (rightS (rowR (colsS g s 0 1))) (wrongS g s 0 1) 0 s).1 ≠ 0 then _ else scrubL g 0 0 0 _ ⟨0 + 1 + 1, 0 + ((wrongS g s 0 1).length : Int), (mendL g 0 0 1 (rightS (rowR (colsS g s 0 1))) (wrongS g s 0 1) 0 s).2.1, 0 + 1⟩ (mendL g 0 0 1 (rightS (rowR (colsS g s 0 1))) (wrongS g s 0 1) 0 s).2.2) = _
    rw [a1, if_neg (by simp), hw1]
    rfl
  · rw [a5 i a hi ha, e1, hal i]
    constructor
    · rintro ⟨b1, b2 | b2⟩
      · cases b2
      · exact ⟨b1, b2⟩
    · rintro ⟨b1, b2⟩
      exact ⟨b1, Or.inr b2⟩
theorem lost_walkR {a x other : Int} {lp : Option Addr} {ll lc : Nat} {ls : List Sec} {w : World} {R : Value → World → Prop} (ha : 0 ≤ a ∧ a ≤ 255) (hls : SlL secLay w lp ll ls) (hok : ∀ f ∈ ls, SecOk f) (hx : 0 ≤ x ∧ x ≤ 255) (ho : 0 ≤ other ∧ other ≤ 255) (hK : ∀ w', Keep (fun _ => False) w w' → R (.bool true) w') :
    CallV Try.prog 12 #[.int .u8 a, .slice lp ll lc, .int .u8 x, .int .u8 other] w R := by
  apply C_ravelinlaw16_ScrubLost
  unfold F_ravelinlaw16_ScrubLost
  have h1 := Int.emod_nonneg a (show (4 : Int) ≠ 0 by decide)
  have h2 := Int.emod_lt_of_pos a (show (0 : Int) < 4 by decide)
  have hg : GeoOk ⟨a % 4 + 4, 2, 2⟩ := ⟨⟨by show 4 ≤ a % 4 + 4; omega, by show a % 4 + 4 ≤ 32; omega⟩, ⟨by show (1 : Int) ≤ 2; omega, by show (2 : Int) ≤ 8; omega⟩, ⟨by show (1 : Int) ≤ 2; omega, by show (2 : Int) ≤ 64; omega⟩⟩
  refine ⟨by decide, ?_⟩
  rw [Int.tmod_eq_emod_of_nonneg ha.1, wrapI (x := a % 4) (by omega) (by omega), wrapI (x := a % 4 + 4) (by omega) (by omega)]
  refine DoQ_of (v := .agg (geoV ⟨a % 4 + 4, 2, 2⟩)) (fun _ => run_build _ _ _ _ (by kernel_rfl)) (OpA_agg.2 ⟨rfl, ?_⟩)
  have hgc : (Geo.mk (a % 4 + 4) 2 2).c = 2 := rfl
  have hgs : (Geo.mk (a % 4 + 4) 2 2).s = 2 := rfl
  have hgd : (Geo.mk (a % 4 + 4) 2 2).d ≤ 7 := by show a % 4 + 4 ≤ 7; omega
  generalize Geo.mk (a % 4 + 4) 2 2 = g at *
  refine copy_of (by kernel_rfl) rfl (one_geoV _) fun w1 hb1 k1 z1 => ?_
  refine mk16 hg hb1 fun m b4 bks p cc w2 hG2 hO2 k2 => ?_
  refine ⟨by trivial, by trivial, (Cb_false (p := _)).2 ?_⟩
  have hdd := hg.d
  have hsz : g.c * g.s = 4 := by rw [hgc, hgs]; rfl
  have hcap := hg.cap
  have hcapE : capG g = (g.d - 2) * g.c * g.s := rfl
  rw [← hcapE] at hcap
  have k02 := k1.trans k2
  refine LdV_has (v := .slice p g.d.toNat cc) hO2.st rfl (OpS_slice.2 ?_)
  refine LdV_has (v := .int .i64 g.d) hO2.geo rfl (OpI_int.2 ?_)
  rw [show ((((g.d.toNat : Nat) : Int)) != g.d) = false by rw [show ((g.d.toNat : Nat) : Int) = g.d by omega]; simp]
  refine (Cb_false (p := _)).2 ?_
  refine LdA_all hO2.geo rfl ?_
  refine r3_Cap hg fun w3 k3 => ?_
  refine T2_mk.2 (OpI_int.2 (OpI_int.2 ?_))
  have hW0 := newS_whole hg pw0
  have k03 := k02.trans k3
  have z1' := k1.size
  -- the sectors are written
  refine LoopC_of (σ := Int × Unit) (fun st w' => ∃ (i : Nat) (s : SS) (now : Int → Sec), st.1 = (i : Int) ∧ (i : Int) ≤ capG g ∧ GdI w' w1.heap.size g m bks p cc s now (3 * (i : Int)) ∧ Whole g s ∧ (∀ j, deadS s j = false) ∧ O16 w1 w' g w.heap.size b4 m bks p cc ∧ Keep (fun _ => False) w w') (fun st _ => (capG g - st.1).toNat)
    ⟨0, _, _, rfl, by omega, hG2.keep0 k3, hW0, newS_dead g pw0, hO2.keep0 k3, k03⟩ ?_
  rintro _ ⟨i, u⟩ w4 ⟨i', s, now, hi, hil, hG4, hW4, hal4, hO4, k4⟩
  simp only at hi ⊢
  subst hi
  refine ⟨by trivial, by trivial, by trivial, ?_⟩
  refine Cb_of (fun hcc => ?_) (fun hcc => ?_)
  · have hcc : i' < ll ∧ (i' : Int) < capG g := by
      have hcc : cond (decide ((i' : Int) < (ll : Int))) (decide ((i' : Int) < capG g)) false = true := hcc
      by_cases h : (i' : Int) < (ll : Int)
      · rw [decide_eq_true h] at hcc
        have : (i' : Int) < capG g := by simpa using hcc
        omega
      · rw [decide_eq_false h] at hcc
        cases hcc
    have ek : IntKind.wrap .i64 ((i' : Int) + 1) = ((i' + 1 : Nat) : Int) := by rw [wrapI (by omega) (by omega)]; omega
    intro d
    refine ⟨fun _ => True, trivial, ?_⟩
    have k4d := k4.dr d
    have hO5 := hO4.keep0 (Keep.drew _ w4 d)
    have hG5 := hG4.keep0 (Keep.drew _ w4 d)
    generalize w4.dr d = w5 at *
    have hlen := hls.1
    obtain ⟨f, hf⟩ : ∃ f, ls[i']? = some f := ⟨_, List.getElem?_eq_getElem (by omega)⟩
    have hfo := hok f (List.mem_of_getElem? hf)
    have e16 : (secLay.row f).toArray = secV f := by show ((secV _).toList).toArray = _; simp
    have hl1 : (i' : Int) < (g.d - 2) * g.c * g.s := hcc.2
    refine LdA_all hO5.st rfl ?_
    refine (hls.keepB k4d (by simp)).ldA (i := (i' : Int)) (n := 16) (x := f) rfl (by omega) (by rw [Int.toNat_natCast]; exact hf) ?_
    rw [e16]
    refine hG5.plan hW4 (by omega) hl1 hfo fun pp pn pc w6 hp3 op k6 => T2_mk.2 (OpS_slice.2 (OpI_int.2 ⟨trivial, (Cb_false (p := _)).2 ?_⟩))
    have hO6 := hO5.keep0 k6
    have hG6 := hG5.keep0 k6
    refine LdA_all hO6.st rfl ?_
    refine hG6.apply (by omega) hW4 hal4 (by omega) hl1 hfo hp3 op fun w7 s7 hG7 hW7 hal7 hs7 k7 => OpI_int.2 ((Cb_false (p := _)).2 ?_)
    refine ⟨_, by show (capG g - IntKind.wrap .i64 ((i' : Int) + 1)).toNat < (capG g - (i' : Int)).toNat; rw [ek]; omega, ⟨i' + 1, s7, _, ek, by omega, ⟨hG7.set, hG7.disks, hG7.good.mono (by omega)⟩, hW7, hal7, hO6.keep hG6.set k7, ?_⟩, rfl⟩
    exact (k4d.trans k6).trans' k7 fun i hi e => by have := hO6.low i e; omega
  · refine LdV_has (v := .int .i64 g.d) hO4.geo rfl (OpI_int.2 ⟨by omega, ?_⟩)
    have hm0 := fun v : Int => Int.emod_nonneg v (show g.d ≠ 0 by omega)
    have hm1 := fun v : Int => Int.emod_lt_of_pos v (show 0 < g.d by omega)
    rw [wrapI (x := x) (by omega) (by omega), Int.tmod_eq_emod_of_nonneg hx.1]
    have hxd := And.intro (hm0 x) (hm1 x)
    generalize x % g.d = k at *
    have hN0 : 3 * (i' : Int) ≤ 100000 := by omega
    -- three disks are hurt
    refine LoopC_of (σ := Int × Unit) (fun st w' => ∃ (j : Nat) (s : SS), st.1 = (j : Int) ∧ j ≤ 3 ∧ GdI w' w1.heap.size g m bks p cc s now 100000 ∧ GoneAt g s 0 (hl3 k g.d j) ∧ (∀ j, deadS s j = false) ∧ O16 w1 w' g w.heap.size b4 m bks p cc ∧ Keep (fun _ => False) w w') (fun st _ => (3 - st.1).toNat)
      ⟨0, s, rfl, by omega, ⟨hG4.set, hG4.disks, hG4.good.mono hN0⟩, hW4.gone 0, hal4, hO4, k4⟩ ?_
    rintro _ ⟨j, u⟩ w5 ⟨j', s5, hj, hj3, hG5, hgo5, hal5, hO5, k5⟩
    simp only at hj ⊢
    subst hj
    refine Cb_of (fun hc3 => ?_) (fun hc3 => ?_)
    · have hc3 : (j' : Int) < 3 := by simpa using hc3
      have ek : IntKind.wrap .i64 ((j' : Int) + 1) = ((j' + 1 : Nat) : Int) := by rw [wrapI (by omega) (by omega)]; omega
      intro d
      have kd := Keep.drew (fun _ => False) w5 d
      have hGd := hG5.keep0 kd
      have hOd := hO5.keep0 kd
      have k5d := k5.trans kd
      generalize w5.dr d = w6 at *
      refine ⟨fun w' => Has w' b4 (.cells (setV g p g.d.toNat cc) 29 (0, 0)) ∧ Has w' w.heap.size (.cells (geoV g) 25 (0, 0)), ⟨hOd.st, hOd.geo⟩, ?_⟩
      refine LdV_of (v := .slice p g.d.toNat cc) (fun w' hw => ⟨_, _, _, hw.1, rfl⟩) (OpS_slice.2 ?_)
      refine LdV_of (v := .int .i64 g.d) (fun w' hw => ⟨_, _, _, hw.2, rfl⟩) (OpI_int.2 ⟨by omega, ?_⟩)
      rw [wrapI (x := k + (j' : Int)) (by omega) (by omega), Int.tmod_eq_emod_of_nonneg (by omega)]
      have hkj := And.intro (hm0 (k + (j' : Int))) (hm1 (k + (j' : Int)))
      have hgo6 := hgo5.hurt hG5.good.ss (i := (k + (j' : Int)) % g.d) (by omega) hkj
      refine hGd.hurtT hkj (a := 0) (by omega) (hal5 _) fun w7 hG7 k7 => OpI_int.2 ?_
      have hO7 := hOd.keep hGd.set k7
      refine ⟨⟨hO7.st, hO7.geo⟩, (Cb_false (p := _)).2 ?_⟩
      refine ⟨_, by show (3 - IntKind.wrap .i64 ((j' : Int) + 1)).toNat < (3 - (j' : Int)).toNat; rw [ek]; omega, ⟨j' + 1, _, ek, by omega, hG7, hgo6, fun i => by rw [hurtS_dead (by have := hG5.good.ss.num; omega)]; exact hal5 i, hO7, ?_⟩, rfl⟩
      exact k5d.trans' k7 fun i hi e => by have := hOd.low i e; omega
    · have hj' : j' = 3 := by
        have : ¬ (j' : Int) < 3 := by simpa using hc3
        omega
      subst hj'
      intro d
      have kd := Keep.drew (fun _ => False) w5 d
      have hGd := hG5.keep0 kd
      have hOd := hO5.keep0 kd
      have k5d := k5.trans kd
      generalize w5.dr d = w6 at *
      refine ⟨fun w' => Has w' b4 (.cells (setV g p g.d.toNat cc) 29 (0, 0)) ∧ Has w' w.heap.size (.cells (geoV g) 25 (0, 0)), ⟨hOd.st, hOd.geo⟩, ?_⟩
      refine LdV_of (v := .slice p g.d.toNat cc) (fun w' hw => ⟨_, _, _, hw.1, rfl⟩) (OpS_slice.2 ?_)
      refine LdV_of (v := .int .i64 g.d) (fun w' hw => ⟨_, _, _, hw.2, rfl⟩) (OpI_int.2 ⟨by omega, ?_⟩)
      rw [wrapI (x := other) (by omega) (by omega), Int.tmod_eq_emod_of_nonneg ho.1]
      have hod := And.intro (hm0 other) (hm1 other)
      generalize other % g.d = o at *
      refine hGd.hurtT hod (a := 1) (by omega) (hal5 _) fun w7 hG7 k7 => OpI_int.2 ?_
      have hO7 := hOd.keep hGd.set k7
      have k07 : Keep (fun _ => False) w w7 := k5d.trans' k7 fun i hi e => by have := hOd.low i e; omega
      refine ⟨⟨hO7.st, hO7.geo⟩, (Cb_false (p := _)).2 ?_⟩
      -- what is lost now
      have hal7 : ∀ i, deadS (hurtS s5 o 1) i = false := fun i => by rw [hurtS_dead (by have := hG5.good.ss.num; omega)]; exact hal5 i
      have hv7 : ∀ i a, (0 ≤ i ∧ i < g.d) → (0 ≤ a ∧ a < g.c * g.s) → (viewS (hurtS s5 o 1) i a = none ↔ (a = 0 ∧ i ∈ hl3 k g.d 3) ∨ (a = 1 ∧ i = o)) := by
        intro i a hi ha
        rw [hurtS_view hG5.good.ss hod (by omega) hi.1 ha.1]
        have := hgo5 i a hi ha
        split
        · rename_i e
          exact ⟨fun _ => Or.inr ⟨e.2, e.1⟩, fun _ => rfl⟩
        · rename_i e
          rw [this]
          exact ⟨fun h => Or.inl h, fun h => h.elim id fun h => absurd ⟨h.2, h.1⟩ e⟩
      generalize hurtS s5 o 1 = s7 at *
      have hd3 : (k + 0) % g.d ≠ (k + 1) % g.d ∧ (k + 0) % g.d ≠ (k + 2) % g.d ∧ (k + 1) % g.d ≠ (k + 2) % g.d := by
        have md : ∀ v : Int, 0 ≤ v ∧ v < 2 * g.d → v % g.d = if v < g.d then v else v - g.d := fun v hv => by
          split
          · exact Int.emod_eq_of_lt hv.1 ‹_›
          · rw [← Int.emod_eq_of_lt (a := v - g.d) (b := g.d) (by omega) (by omega), Int.sub_emod_right]
        rw [md (k + 0) (by omega), md (k + 1) (by omega), md (k + 2) (by omega)]
        refine ⟨?_, ?_, ?_⟩ <;> split <;> split <;> omega
      have hlost3 : 3 ≤ lostN (colsS g s7 0 0) := lost_ge3 hg (st := 0) (off := 0) (i := (k + 0) % g.d) (j := (k + 1) % g.d) (z := (k + 2) % g.d) (a := 0) (by omega) ⟨hm0 _, hm1 _⟩ ⟨hm0 _, hm1 _⟩ ⟨hm0 _, hm1 _⟩ hd3.1 hd3.2.1 hd3.2.2
        ((hv7 _ 0 ⟨hm0 _, hm1 _⟩ (by omega)).2 (Or.inl ⟨rfl, by simp [hl3]⟩)) ((hv7 _ 0 ⟨hm0 _, hm1 _⟩ (by omega)).2 (Or.inl ⟨rfl, by simp [hl3]⟩)) ((hv7 _ 0 ⟨hm0 _, hm1 _⟩ (by omega)).2 (Or.inl ⟨rfl, by simp [hl3]⟩))
      have hkin : k ∈ hl3 k g.d 3 := by
        have : (k + ((0 : Nat) : Int)) % g.d = k := by rw [show k + ((0 : Nat) : Int) = k by omega]; exact Int.emod_eq_of_lt hxd.1 hxd.2
        simp only [hl3, List.mem_cons]
        exact Or.inr (Or.inr (Or.inl this.symm))
      obtain ⟨s8, a1, a2, a3, a4, a5⟩ := lost_scrub hG7.good (by decide) hgc (by omega) hod hal7 fun i hi => by
        rw [hv7 i 1 hi (by omega)]
        exact ⟨fun h => h.elim (fun h => absurd h.1 (by decide)) fun h => h.2, fun h => Or.inr ⟨rfl, h⟩⟩
      have hv8 : ∀ i a, (0 ≤ i ∧ i < g.d) → (0 ≤ a ∧ a < g.c * g.s) → (viewS s8 i a = none ↔ a = 0 ∧ i ∈ hl3 k g.d 3) := by
        intro i a hi ha
        rw [a5 i a hi ha, hv7 i a hi ha]
        exact ⟨fun ⟨h, e⟩ => h.elim id fun h => absurd h.1 e, fun h => ⟨Or.inl h, by rw [h.1]; decide⟩⟩
      have hlost8 : ¬ lostN (colsS g s8 0 0) ≤ 2 := by
        have : lostN (colsS g s7 0 0) ≤ lostN (colsS g s8 0 0) := lostN_mono fun n hn hv => by
          obtain ⟨pk1, pk2⟩ := plcP_ok hg (st := 0) (off := 0) (by omega) (by omega) (n : Int)
          have ha0 : (plcP g 0 0 (n : Int)).at_ = 0 := by show (0 : Int) * g.c + 0 = 0; omega
          rw [ha0] at hv ⊢
          exact (hv8 _ 0 pk1 (by omega)).2 (((hv7 _ 0 pk1 (by omega)).1 hv).elim id fun h => absurd h.1 (by decide))
        omega
      have hlost81 : lostN (colsS g s8 0 1) = 0 := by
        have hl := goneL_len (colsS g s8 0 1)
        cases hGG : goneL (colsS g s8 0 1) with
        | nil => rw [hGG] at hl; exact hl.symm
        | cons y l =>
          exfalso
          obtain ⟨n, h1, h2, h3⟩ := goneI_lt (colsS g s8 0 1) _ y (by show y ∈ goneL _; rw [hGG]; simp)
          rw [len_colsS] at h2
          rw [colsS_view h2] at h3
          obtain ⟨pk1, pk2⟩ := plcP_ok hg (st := 0) (off := 1) (by omega) (by omega) (n : Int)
          have e : (plcP g 0 1 (n : Int)).at_ = 1 := by show (0 : Int) * g.c + 1 = 1; omega
          have := ((hv8 _ _ pk1 pk2).1 (Option.some.inj h3)).1
          rw [e] at this
          exact absurd this (by decide)
      refine ma_Steps hG7.set.main (OpI_int.2 ?_)
      refine LdA_all hO7.st rfl ?_
      refine sc_Scrub hG7.set hG7.disks.sl hG7.disks.cap.1 hG7.st.off hG7.good.ss.ok (st := 0) (fun h => absurd (show 0 ≤ (0 : Int) ∧ (0 : Int) < g.s from by omega) h) fun _ w8 hS8 k8 => ?_
      have a1' : scrubS (SB.mk m g bks).g s7 0 0 = (0, ⟨2, 1, 1, 1⟩, s8) := a1
      rw [a1'] at hS8 ⊢
      show T2 (.tuple #[.agg (repV ⟨2, 1, 1, 1⟩), .int .i64 0]) _
      have hG8 : GdI w8 w1.heap.size g m bks p cc s8 now (100000 + 32) := ⟨hS8, hG7.st.disks' k8, a2⟩
      have hO8 := hO7.keep hG7.set k8
      have k08 : Keep (fun _ => False) w w8 := k07.trans' k8 fun i hi e => by have := hO7.low i e; omega
      refine T2_mk.2 (OpA_agg.2 ⟨rfl, OpI_int.2 ?_⟩)
      refine copy_of (by rw [repV_zero]; rfl) rfl (one_repV _) fun w9 hb9 k9 z9 => ?_
      have hG9 := hG8.keep0 k9
      have hO9 := hO8.keep0 k9
      refine LdA_all hO9.st rfl ?_
      refine sc_Rebuild hG9.set hG9.disks.sl hG9.disks.cap.1 hG9.st.off hG9.good.ss.ok (by decide) (by decide) (fun hb => absurd ⟨hxd, ⟨by omega, by show (0 : Int) ≤ g.c * g.s; omega⟩, by decide⟩ hb) (fun hd => absurd hd (by rw [a4]; decide)) fun _ _ _ _ w10 hS10 k10 => ?_
      have hreb : rebS (SB.mk m g bks).g s8 k 0 9 0 = (0, 8, s8) := by
        show rebS g s8 k 0 9 0 = _
        unfold rebS
        rw [if_neg (by omega), Int.sub_zero, hsz]
        show rebL g 0 k (3 + 1) 0 s8 = _
        have hvk : viewS s8 k 0 = none := (hv8 k 0 hxd (by omega)).2 ⟨rfl, hkin⟩
        rw [rebL_succ, if_neg (by rw [hG8.good.lit.1]; decide), hvk, if_neg (by decide), Int.zero_ediv, Int.zero_emod, if_neg hlost8]
      rw [hreb] at hS10 ⊢
      have hG10 : GdI w10 w1.heap.size g m bks p cc s8 now (100000 + 32) := ⟨hS10, hG9.st.disks' k10, a2⟩
      have hO10 := hO9.keep hG9.set k10
      have k010 : Keep (fun _ => False) w w10 := (k08.trans k9).trans' k10 fun i hi e => by have := hO9.low i e; omega
      have hb10 := k10.has hb9 (hG9.set.typ hb9 (by decide) (by decide) (by decide))
      refine T2_mk.2 (OpI_int.2 (OpI_int.2 ?_))
      refine LdA_all hO10.st rfl ?_
      refine hG10.sound fun g1 w11 hg1 k11 => T2_mk.2 (OpB_bool.2 (OpI_int.2 ?_))
      have hg1 : g1 = false := by
        cases g1 with
        | false => rfl
        | true => exact absurd (hg1.1 rfl 0 0 (by omega) (by omega)).1 hlost8
      subst hg1
      have hG11 := hG10.keep0 k11
      have hO11 := hO10.keep0 k11
      refine LdA_all hO11.st rfl ?_
      refine hG11.st.rowLost (by omega) (by omega) hlost8 fun w12 k12 => T3_mk.2 (OpS_slice.2 (OpS_slice.2 (OpI_int.2 ?_)))
      have hG12 := hG11.keep0 k12
      have hO12 := hO11.keep0 k12
      refine LdA_all hO12.st rfl ?_
      refine hG12.st.rowOk (by omega) (by omega) (by omega) fun p13 c13 lp13 lc13 w13 _ _ k13 => T3_mk.2 (OpS_slice.2 (OpS_slice.2 (OpI_int.2 ?_)))
      have hG13 := hG12.keep0 k13
      have k1013 := (k11.trans k12).trans k13
      have hb13 := k1013.has hb10 (by simp)
      have k013 := k010.trans k1013
      refine ⟨fun st' w' => st'.1 = true ∧ w13 = w', ?_, ?_⟩
      · refine (Cb_true (q := _)).2 (LdA_all hb13 rfl ?_)
        refine DoQ_of (v := .agg (repV ⟨2, 1, 1, 1⟩)) (fun _ => run_build _ _ _ _ (by kernel_rfl)) (OpA_agg.2 ⟨rfl, ?_⟩)
        refine EqB_rep (N := 10) ⟨by decide, by decide, by decide, by decide⟩ ⟨by decide, by decide, by decide, by decide⟩ (by decide) fun r hr => ?_
        rw [hr.2 rfl]
        refine (Cb_true (q := _)).2 ?_
        refine ma_Steps hG13.set.main (OpI_int.2 ?_)
        have hst0 := hG7.good.st0
        have hstN := hG7.good.stN
        have hs8 : (s8.pw.steps == IntKind.wrap .i64 (s7.pw.steps + 1)) = true := by
          rw [wrapI (by omega) (by omega), a3]; simp
        refine ⟨by trivial, by trivial, by trivial, by trivial, by trivial, by trivial, by trivial, by trivial, by trivial, by trivial, by trivial, by trivial, ?_, rfl⟩
        simp only [hs8]
        rfl
      · rintro _ ⟨b3, u⟩ w15 ⟨hb3, rfl⟩
        simp only at hb3 ⊢
        rw [hb3]
        exact Ret_nil.2 (hK _ k013)
theorem lost_walk {a x other : Int} {lp : Option Addr} {ll lc : Nat} {ls : List Sec} {w : World} (ha : 0 ≤ a ∧ a ≤ 255) (hls : SlL secLay w lp ll ls) (hok : ∀ f ∈ ls, SecOk f) (hx : 0 ≤ x ∧ x ≤ 255) (ho : 0 ≤ other ∧ other ≤ 255) :
    CallV Try.prog 12 #[.int .u8 a, .slice lp ll lc, .int .u8 x, .int .u8 other] w fun v w' => v = .bool true ∧ Below w.heap.size w w' :=
  lost_walkR ha hls hok hx ho fun w' k => ⟨rfl, k.below⟩
end Go.Proofs
