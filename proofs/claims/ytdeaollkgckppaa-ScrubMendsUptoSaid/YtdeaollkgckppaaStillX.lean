/-
  THE LAWS OF SCRUB: how they begin; ScrubStill, the walk.
-/
import Derived.Test.YtdeaollkgckppaaLaw16M
import Derived.Test.YtdeaollkgckppaaFStill
namespace Go.Proofs
open Go Go.Ev Go.RowKit
set_option linter.unusedSimpArgs false
set_option linter.unusedVariables false
set_option maxRecDepth 100000

def Mk16 (b2 : Nat) (w : World) (K : Nat → Nat → Int → Nat → Bool → World → Prop) : Prop :=
  CallV Try.prog 30 #[] w fun v1 w => OpN v1 fun b3 o => LdA 3 b2 0 (At w) fun cs1 => CallV Try.prog 31 #[.agg cs1, .pointer (some ⟨b3, o, none⟩)] w fun v2 w => T2 v2
  fun v3 v4 => OpA 4 v3 fun cs2 => OpI .i64 v4 fun n => Alc 29 (zc Try.prog 29) w fun b4 w => StA 4 b4 0 cs2 w fun w => CallV Try.prog 36 #[] w fun v5 w => OpB v5 fun g => K b3 o n b4 g w
/-- what stands when a law has begun -/
structure O16 (w0 w : World) (g : Geo) (b2 b4 m : Nat) (bks : List (Nat × Nat)) (p : Option Addr) (c : Nat) : Prop where
  geo : Has w b2 (.cells (geoV g) 25 (0, 0))
  st : Has w b4 (.cells (setV g p g.d.toNat c) 29 (0, 0))
  low : ∀ b, SFoot ⟨m, g, bks⟩ b → w0.heap.size ≤ b
section calls
variable {w0 w w' : World} {base : Nat} {g : Geo} {b2 b4 m : Nat} {bks : List (Nat × Nat)} {p : Option Addr} {c : Nat} {s : SS} {now : Int → Sec} {N : Int} {R : Value → World → Prop}
theorem O16.keep0 (h : O16 w0 w g b2 b4 m bks p c) (k : Keep (fun _ => False) w w') : O16 w0 w' g b2 b4 m bks p c := ⟨k.has h.geo (by simp), k.has h.st (by simp), h.low⟩
theorem O16.keep (h : O16 w0 w g b2 b4 m bks p c) (hS : SetAt w ⟨m, g, bks⟩ s) (k : Keep (SFoot ⟨m, g, bks⟩) w w') : O16 w0 w' g b2 b4 m bks p c :=
  ⟨k.has h.geo (hS.typ h.geo (by decide) (by decide) (by decide)), k.has h.st (hS.typ h.st (by decide) (by decide) (by decide)), h.low⟩
theorem mk16 (hg : GeoOk g) (hgeo : Has w b2 (.cells (geoV g) 25 (0, 0))) {K : Nat → Nat → Int → Nat → Bool → World → Prop}
    (hK : ∀ m b4 bks p c w', GdI w' w.heap.size g m bks p c (newS g pw0) now0 0 → O16 w w' g b2 b4 m bks p c → Keep (fun _ => False) w w' → K m 0 0 b4 true w') : Mk16 b2 w K := by
  unfold Mk16
  refine ma_New fun m w1 hm hma k1 z1 => OpN_some.2 ?_
  refine LdA_all (k1.has hgeo (by simp)) rfl ?_
  refine st_New hg hma fun p c bks w2 hS o2 hfr k2 => ?_
  refine T2_mk.2 (OpA_agg.2 ⟨rfl, OpI_int.2 ?_⟩)
  refine copy_of (by kernel_rfl) rfl (one_setV _ _ _ _) fun w3 hb3 k3 z3 => ?_
  refine w_awake16 fun w4 k4 => OpB_bool.2 ?_
  have k24 := k3.trans k4
  have z1' := k1.size
  refine hK m _ bks p c w4 ⟨hS.keep0 k24, (o2.rebase z1').keep k24 (by simp), newS_good hg⟩ ⟨((k1.trans k2).trans k24).has hgeo (by simp), k4.has hb3 (by simp), fun b hb => ?_⟩ ((k1.trans k2).trans k24)
  rcases hb with e | hb | hb
  · have e : b = m := e
    have : m = w.heap.size := hm
    omega
  · obtain ⟨br, hbr, rfl⟩ := List.mem_map.1 hb
    have := (hfr br hbr).1; omega
  · obtain ⟨br, hbr, rfl⟩ := List.mem_map.1 hb
    have := (hfr br hbr).2; omega
end calls
theorem still_walkR {a b c lba d number : Int} {data : Sec} {w : World} {R : Value → World → Prop} (ha : 0 ≤ a ∧ a ≤ 255) (hb : 0 ≤ b ∧ b ≤ 255) (hc : 0 ≤ c ∧ c ≤ 255) (hl : 0 ≤ lba ∧ lba ≤ 255) (hdat : SecOk data) (hd : 0 ≤ d ∧ d ≤ 255) (hK : ∀ w', Keep (fun _ => False) w w' → R (.bool true) w') :
    CallV Try.prog 11 #[.int .u8 a, .int .u8 b, .int .u8 c, .int .u8 lba, .agg (secV data), .int .u8 d, .int .i64 number] w R := by
  apply C_ravelinlaw16_ScrubStill
  unfold F_ravelinlaw16_ScrubStill
  refine alc_fresh fun w1 hb1 k1 z1 => ?_
  refine w_small16 ha hb hc fun w2 k2 => OpA_agg.2 ⟨rfl, ?_⟩
  have hg := smallG16_ok (a := a) (b := b) (c := c)
  have hgc : (smallG16 a b c).c ≤ 2 := by
    have h4 := Int.emod_lt_of_pos b (show (0 : Int) < 2 by decide)
    show b % 2 + 1 ≤ 2; omega
  have hgs : (smallG16 a b c).s ≤ 3 := by
    have h4 := Int.emod_lt_of_pos c (show (0 : Int) < 3 by decide)
    show c % 3 + 1 ≤ 3; omega
  generalize smallG16 a b c = g at *
  refine copy_of (by kernel_rfl) rfl (one_geoV _) fun w3 hb3 k3 z3 => ?_
  refine mk16 hg hb3 fun m b4 bks p cc w4 hG4 hO4 k4 => ?_
  refine ⟨by trivial, by trivial, (Cb_false (p := _)).2 ?_⟩
  have hdd := hg.d
  have hcc := hg.c
  have hss := hg.s
  have hsz := hg.size
  have hcap := hg.cap
  have hsz6 : g.c * g.s ≤ 6 := by
    have := Int.mul_le_mul hgc hgs (by omega) (by omega)
    omega
  have hcapE : capG g = (g.d - 2) * g.c * g.s := rfl
  rw [← hcapE] at hcap
  have hm0 := Int.emod_nonneg lba (show capG g ≠ 0 by omega)
  have hm1 := Int.emod_lt_of_pos lba (show 0 < capG g by omega)
  refine LdA_all hO4.geo rfl ?_
  refine r3_Cap hg fun w5 k5 => ?_
  refine T2_mk.2 (OpI_int.2 (OpI_int.2 ?_))
  intro d1
  have k45 := k5.trans (Keep.drew (fun _ => False) w5 d1)
  have hG5 := hG4.keep0 k45
  have hO5 := hO4.keep0 k45
  have k35 := k4.trans k45
  have k03 := (k1.trans k2).trans k3
  have k05 := k03.trans k35
  have hb5 := ((k2.trans k3).trans k35).has hb1 (by simp)
  generalize w5.dr d1 = w6 at *
  refine ⟨fun _ => True, trivial, ?_⟩
  refine LdA_all hO5.st rfl ⟨by show capG g ≠ 0; omega, ?_⟩
  refine LdA_all hb5 rfl ?_
  rw [wrapI (x := lba) (by omega) (by omega), Int.tmod_eq_emod_of_nonneg hl.1]
  show CallV _ _ #[_, .int .i64 (lba % capG g), _] _ _
  generalize lba % capG g = lb at *
  have hl1 : lb < (g.d - 2) * g.c * g.s := hm1
  have hW0 := newS_whole hg pw0
  have z03 := k03.size
  refine hG5.plan hW0 hm0 hl1 hdat fun pp pn pc w7 hp3 op k7 => T2_mk.2 (OpS_slice.2 (OpI_int.2 ⟨trivial, ?_⟩))
  have hG7 := hG5.keep0 k7
  have hO7 := hO5.keep0 k7
  refine ⟨fun st' w' => st'.1 = false ∧ ∃ s', GdI w' w3.heap.size g m bks p cc s' (upd now0 lb data) 3 ∧ Whole g s' ∧ (∀ i, deadS s' i = false) ∧ O16 w3 w' g w2.heap.size b4 m bks p cc ∧ Keep (fun _ => False) w w', ?_, ?_⟩
  · refine (Cb_false (p := _)).2 ?_
    refine LdA_all hO7.st rfl ?_
    refine hG7.apply (by decide) hW0 (newS_dead g pw0) hm0 hl1 hdat hp3 op fun w8 s8 hG8 hW8 hal8 hs8 k8 => OpI_int.2 ⟨rfl, s8, hG8, hW8, hal8, hO7.keep hG7.set k8, ?_⟩
    exact (k05.trans k7).trans' k8 fun i hi e => by have := hO7.low i e; omega
  · rintro _ ⟨b1, u⟩ w8 ⟨hb8, s8, hG8, hW8, hal8, hO8, k08⟩
    simp only at hb8 ⊢
    subst hb8
    refine (Cb_false (p := _)).2 ?_
    refine ma_Steps hG8.set.main (OpI_int.2 ?_)
    refine LdA_all hO8.st rfl ?_
    have hd0 := Int.emod_nonneg d (show g.d ≠ 0 by omega)
    have hd1 := Int.emod_lt_of_pos d (show 0 < g.d by omega)
    -- what follows the scrub
    have hsc : CallV Try.prog 38 #[.agg (setV g p g.d.toNat cc), .int .i64 number, .int .u32 0] w8 fun v w9 => ∃ (rp : Rep) (e : Int) (s9 : SS), v = .tuple #[.agg (repV rp), .int .i64 e] ∧ RepLe rp 1000 ∧ GdI w9 w3.heap.size g m bks p cc s9 (upd now0 lb data) 1000 ∧ Whole g s9 ∧ (∀ i, deadS s9 i = false) ∧ O16 w3 w9 g w2.heap.size b4 m bks p cc ∧ Keep (fun _ => False) w w9 ∧ s9.pw.steps = s8.pw.steps ∧ ((0 ≤ number ∧ number < g.s) → rp = ⟨g.c, 0, 0, 0⟩ ∧ e = 0) ∧ (¬ (0 ≤ number ∧ number < g.s) → rp = rep0 ∧ e = 2) := by
      refine hG8.scrub (by decide) (fun o hs ho => by rw [hW8.lost hg hs ho]; omega) (fun hbad w9 k9 => ?_) fun hs w9 s9 j hG9 hst9 hal9 hv9 hj9 k9 => ?_
      · exact ⟨rep0, 2, s8, rfl, ⟨by decide, by decide, by decide, by decide⟩, ⟨hG8.set.keep0 k9, hG8.disks.keep k9 (by simp), hG8.good.mono (by decide)⟩, hW8, hal8, hO8.keep0 k9, k08.trans k9, rfl, fun h => absurd h hbad, fun _ => ⟨rfl, rfl⟩⟩
      · have hj0 := hj9 hW8
        subst hj0
        exact ⟨⟨g.c, 0, 0, 0⟩, 0, s9, rfl, ⟨⟨by show 0 ≤ g.c; omega, by show g.c ≤ 1000; omega⟩, by show (0 : Int) ≤ 0 ∧ (0 : Int) ≤ 1000; omega, by show (0 : Int) ≤ 0 ∧ (0 : Int) ≤ 1000; omega, by show (0 : Int) ≤ 0 ∧ (0 : Int) ≤ 1000; omega⟩, ⟨hG9.set, hG9.disks, hG9.good.mono (by decide)⟩, fun i a hi ha hv => hW8 i a hi ha ((hv9 i a hi ha).1 hv).1, fun i => by rw [hal9, hal8], hO8.keep hG8.set k9, k08.trans' k9 fun i hi e => by have := hO8.low i e; omega, by rw [hst9]; simp, fun _ => ⟨rfl, rfl⟩, fun h => absurd hs h⟩
    refine hsc.mono fun v w9 hv => ?_
    obtain ⟨rp, e, s9, rfl, hrp, hG9, hW9, hal9, hO9, k09, hst9, hin, hout⟩ := hv
    refine T2_mk.2 (OpA_agg.2 ⟨rfl, OpI_int.2 ?_⟩)
    · refine copy_of (by rw [repV_zero]; rfl) rfl (one_repV _) fun w10 hb10 k10 z10 => ?_
      have hG10 := hG9.keep0 k10
      have hO10 := hO9.keep0 k10
      intro d2
      have kd := Keep.drew (fun _ => False) w10 d2
      have hGd := hG10.keep0 kd
      have hOd := hO10.keep0 kd
      have hbd := kd.has hb10 (by simp)
      have k0d := (k09.trans k10).trans kd
      generalize w10.dr d2 = w11 at *
      refine ⟨fun w' => Has w' w2.heap.size (.cells (geoV g) 25 (0, 0)), hOd.geo, ?_⟩
      refine LdA_all hOd.st rfl ?_
      refine LdV_of (v := .int .i64 g.d) (fun w' hw => ⟨_, _, _, hw, rfl⟩) (OpI_int.2 ⟨by omega, ?_⟩)
      rw [wrapI (x := d) (by omega) (by omega), Int.tmod_eq_emod_of_nonneg hd.1]
      refine hGd.rebuildStill hW9 ⟨hd0, hd1⟩ (hal9 _) (by omega) fun w12 hG12 k12 => T2_mk.2 (OpI_int.2 (OpI_int.2 ?_))
      have hO12 := hOd.keep hGd.set k12
      have hb12 := k12.has hbd (hGd.set.typ hbd (by decide) (by decide) (by decide))
      have k012 : Keep (fun _ => False) w w12 := k0d.trans' k12 fun i hi e => by have := hOd.low i e; omega
      refine ⟨hO12.geo, ?_⟩
      refine LdA_all hO12.st rfl ?_
      refine hG12.sound fun g1 w13 hg1 k13 => T2_mk.2 (OpB_bool.2 (OpI_int.2 ?_))
      have hg1 : g1 = true := hg1.2 (whole_sound hG12.good hW9)
      subst hg1
      have hO13 := hO12.keep0 k13
      have hG13 := hG12.keep0 k13
      have hb13 := k13.has hb12 (by simp)
      have k013 := k012.trans k13
      refine ⟨fun st' w' => (st'.1 = true ↔ ¬ (0 ≤ number ∧ number < g.s)) ∧ w13 = w', ?_, ?_⟩
      · refine Cb_of (fun e => ⟨⟨fun _ h => ?_, fun _ => rfl⟩, rfl⟩) (fun e => ?_)
        · have e : number < 0 := by simpa using e
          omega
        · have e : ¬ number < 0 := by simpa using e
          refine LdV_has (v := .int .i64 g.s) hO13.geo rfl (OpI_int.2 ⟨?_, rfl⟩)
          show decide (number ≥ g.s) = true ↔ _
          rw [decide_eq_true_eq]
          omega
      · rintro _ ⟨b2, u⟩ w14 ⟨hb2, rfl⟩
        simp only at hb2 ⊢
        refine Cb_of (fun e2 => ?_) (fun e2 => ?_)
        · obtain ⟨rfl, rfl⟩ := hout (hb2.1 e2)
          refine ⟨fun st' w' => st'.1 = true ∧ w13 = w', ?_, ?_⟩
          · refine (Cb_true (q := _)).2 (LdA_all hb13 rfl ?_)
            refine DoQ_of (v := .agg (repV rep0)) (fun _ => run_build _ _ _ _ (by kernel_rfl)) (OpA_agg.2 ⟨rfl, ?_⟩)
            exact EqB_rep (N := 10) ⟨by decide, by decide, by decide, by decide⟩ ⟨by decide, by decide, by decide, by decide⟩ (by decide) fun r hr => ⟨hr.2 rfl, rfl⟩
          · rintro _ ⟨b3, u⟩ w15 ⟨hb3, rfl⟩
            simp only at hb3 ⊢
            rw [hb3]
            exact Ret_nil.2 (hK _ k013)
        · have hnum : 0 ≤ number ∧ number < g.s := Classical.byContradiction fun h => by rw [hb2.2 h] at e2; cases e2
          obtain ⟨rfl, rfl⟩ := hin hnum
          refine ⟨fun st' w' => st'.1 = true ∧ w13 = w', ?_, ?_⟩
          · refine (Cb_true (q := _)).2 (LdA_all hb13 rfl ?_)
            refine LdV_has (v := .int .i64 g.c) hO13.geo rfl (OpI_int.2 ?_)
            refine DoQ_of (v := .agg (repV ⟨g.c, 0, 0, 0⟩)) (fun _ => run_build _ _ _ _ (by kernel_rfl)) (OpA_agg.2 ⟨rfl, ?_⟩)
            refine EqB_rep (N := 1000) hrp hrp (by decide) fun r hr => ⟨by trivial, by trivial, ?_⟩
            rw [hr.2 rfl]
            refine (Cb_true (q := _)).2 ?_
            refine LdV_has (v := .int .i64 g.c) hO13.geo rfl (OpI_int.2 ?_)
            refine LdV_has (v := .int .i64 g.s) hO13.geo rfl (OpI_int.2 ⟨by trivial, by trivial, by trivial, ?_⟩)
            rw [wrapI (x := g.c * g.s) (by omega) (by omega), show (g.c * g.s == g.c * g.s) = true by simp]
            refine (Cb_true (q := _)).2 ?_
            refine ma_Steps hG13.set.main (OpI_int.2 ⟨?_, rfl⟩)
            show (s9.pw.steps == s8.pw.steps) = true
            rw [hst9]; simp
          · rintro _ ⟨b3, u⟩ w15 ⟨hb3, rfl⟩
            simp only at hb3 ⊢
            rw [hb3]
            exact Ret_nil.2 (hK _ k013)
theorem still_walk {a b c lba d number : Int} {data : Sec} {w : World} (ha : 0 ≤ a ∧ a ≤ 255) (hb : 0 ≤ b ∧ b ≤ 255) (hc : 0 ≤ c ∧ c ≤ 255) (hl : 0 ≤ lba ∧ lba ≤ 255) (hdat : SecOk data) (hd : 0 ≤ d ∧ d ≤ 255) :
    CallV Try.prog 11 #[.int .u8 a, .int .u8 b, .int .u8 c, .int .u8 lba, .agg (secV data), .int .u8 d, .int .i64 number] w fun v w' => v = .bool true ∧ Below w.heap.size w w' :=
  still_walkR ha hb hc hl hdat hd fun w' k => ⟨rfl, k.below⟩
end Go.Proofs
