/-
  ScrubRebuilds, the walk.
-/
import Derived.Test.YtdeaollkgckppaaReplM
import Derived.Test.YtdeaollkgckppaaStillX
import Derived.Test.YtdeaollkgckppaaTwoM
import Derived.Test.YtdeaollkgckppaaFRebuilds
namespace Go.Proofs
open Go Go.Ev Go.RowKit
set_option linter.unusedSimpArgs false
set_option linter.unusedVariables false
set_option maxRecDepth 100000

theorem run_min (k : IntKind) (a b : Int) (t : TypeId) (ts : Array TypeId) (w : World) : (Builtin.min_ ts t #[.int k a, .int k b]).run Try.prog w = .ok (.int k (min a b)) w := by
  simp only [Builtin.min_, List.foldlM, Builtin.min2, Sem.run_bind, Sem.run_pure, if_true]
  by_cases h : b < a
  · simp [h, Sem.run_pure, Int.min_eq_right (Int.le_of_lt h)]
  · simp [h, Sem.run_pure, Int.min_eq_left (show a ≤ b by omega)]
/-- a sector of two bytes -/
def sec2 (x y : Int) : Sec := sec [x, y]
theorem bld_secxy (x y : Int) (w : World) : (Instr.build 23 #[(0, .int .u8 x), (1, .int .u8 y)]).run Try.prog w = .ok (.agg (secV (sec [x, y]))) w := run_build _ _ _ _ (by kernel_rfl)
/-- what is lost lies on two disks -/
def V2 (g : Geo) (s : SS) (x y : Int) : Prop := ∀ j a, (0 ≤ j ∧ j < g.d) → (0 ≤ a ∧ a < g.c * g.s) → viewS s j a = none → j = x ∨ j = y
theorem V2.lost {g : Geo} (hg : GeoOk g) {s : SS} {x y : Int} (h : V2 g s x y) (st off : Int) (hst : 0 ≤ st ∧ st < g.s) (hof : 0 ≤ off ∧ off < g.c) : lostN (colsS g s st off) ≤ 2 :=
  lost_two hg hst hof x y fun k hk hv => by
    obtain ⟨pk1, pk2⟩ := plcP_ok hg hst hof (k : Int)
    exact h _ _ pk1 pk2 hv
theorem V2.fail {g : Geo} {s : SS} (hs : SsOk g s) {x y : Int} (h : V2 g s x x) (hy : 0 ≤ y ∧ y < g.d) : V2 g (failS s y) x y := fun j a hj ha hv => by
  rw [failS_view hy.1 (by have := hs.num; omega) hj.1] at hv
  split at hv
  · exact Or.inr ‹_›
  · exact Or.inl ((h j a hj ha hv).elim id id)
/-- the reads at the end, as they are printed -/
def Reads16 (b3 : Nat) (p : Option Addr) (l : Nat) (n : Int) (w : World) (R : Value → World → Prop) : Prop :=
  LoopC (σ := Int × Unit) (fun _ s7 w K7 => Cb (decide (s7.1 < n)) (LdA 4 b3 0 (At w) fun cs12 => CallV Try.prog 25 #[.agg cs12,
  .int .i64 s7.1] w fun v54 w => T2 v54 fun v55 v56 => OpA 16 v55 fun cs13 => OpI .i64 v56 fun n21 => Alc 23 (zc Try.prog 23) w fun b20 w => StA 16 b20 0 cs13 w fun w => Cb
  (n21 != 0) (Drw w fun w => Ret [] (R (.bool false) w)) (LdA 16 b20 0 (At w) fun cs14 => IdxS p l s7.1 16 fun b21 o15 => LdA 16 b21 o15 (At w) fun cs15 => EqB Try.prog
  .neq 23 (.tmp 237) (.tmp 241) (.agg cs14 : Value) (.agg cs15 : Value) (At w) fun g1 => Drw w fun w => Cb g1 (Ret [] (R (.bool false) w)) (K7 (IntKind.wrap .i64 (s7.1 + 1),
  ()) w))) (Ret [] (R (.bool true) w))) (0, ()) w
theorem reads16 {w0 w : World} {base : Nat} {g : Geo} {b2 b3 m : Nat} {bks : List (Nat × Nat)} {p : Option Addr} {c : Nat} {s : SS} {now : Int → Sec} {N : Int} {np : Option Addr} {nb nc : Nat} {x y : Int} {R : Value → World → Prop} (h : GdI w base g m bks p c s now N) (hO : O16 w0 w g b2 b3 m bks p c) (hrow : OwnL secLay w nb 23 np (capG g).toNat nc (nowL (capG g).toNat now)) (hV : V2 g s x y)
    (hK : ∀ w', Keep (fun _ => False) w w' → R (.bool true) w') : Reads16 b3 np (capG g).toNat (capG g) w R := by
  unfold Reads16
  have hg := h.good.ss.geo
  have hcap := hg.cap
  have hcapE : capG g = (g.d - 2) * g.c * g.s := rfl
  rw [← hcapE] at hcap
  refine LoopC_of (σ := Int × Unit) (fun st w' => ∃ i : Nat, st.1 = (i : Int) ∧ (i : Int) ≤ capG g ∧ Keep (fun _ => False) w w') (fun st _ => (capG g - st.1).toNat) ⟨0, rfl, by omega, Keep.refl _ _⟩ ?_
  rintro _ ⟨i, u⟩ w1 ⟨i', hi, hil, k1⟩
  simp only at hi ⊢
  subst hi
  refine Cb_of (fun hc => ?_) (fun hc => ?_)
  · have hc : (i' : Int) < capG g := by simpa using hc
    have ek : IntKind.wrap .i64 ((i' : Int) + 1) = ((i' + 1 : Nat) : Int) := by rw [wrapI (by omega) (by omega)]; omega
    have h1 := h.keep0 k1
    have hl1 : (i' : Int) < (g.d - 2) * g.c * g.s := hc
    obtain ⟨pst, pco, pof⟩ := spotP_ok hg (show 0 ≤ (i' : Int) by omega) hl1
    have hrd : readS g s (i' : Int) = (now (i' : Int), 0) := by
      rcases h.good.inv.read hg h.good.nok h.good.lit.1 (show 0 ≤ (i' : Int) by omega) hl1 with e | ⟨_, e, _⟩
      · exact e
      · exact absurd (hV.lost hg _ _ pst pof) e
    refine LdA_all (hO.keep0 k1).st rfl ?_
    refine h1.st.read (show 0 ≤ (i' : Int) by omega) hl1 fun w2 k2 => ?_
    rw [hrd]
    refine T2_mk.2 (OpA_agg.2 ⟨rfl, OpI_int.2 ?_⟩)
    refine copy_of (by rw [zc_sec]; rfl) rfl (one_secV _) fun w3 hb3 k3 z3 => ?_
    refine (Cb_false (p := _)).2 ?_
    refine LdA_all hb3 rfl ?_
    have k13 := (k1.trans k2).trans k3
    refine (hrow.keep k13 (by simp)).sl.ldA (i := (i' : Int)) (n := 16) (x := now (i' : Int)) rfl (by omega) (by rw [Int.toNat_natCast]; exact nowL_at (by omega) now) ?_
    have e16 : (secLay.row (now (i' : Int))).toArray = secV (now (i' : Int)) := by show ((secV (now (i' : Int))).toList).toArray = _; simp
    rw [e16]
    refine EqB_sec_ne (h.good.nok _) (h.good.nok _) fun r hr => ?_
    have hr0 : r = false := by
      cases r with
      | false => rfl
      | true => exact absurd rfl (hr.1 rfl)
    rw [hr0]
    intro d
    refine (Cb_false (p := _)).2 ?_
    exact ⟨_, by show (capG g - IntKind.wrap .i64 ((i' : Int) + 1)).toNat < (capG g - (i' : Int)).toNat; rw [ek]; omega, ⟨i' + 1, ek, by omega, k13.dr d⟩, rfl⟩
  · exact Ret_nil.2 (hK w1 k1)
/-- a row of one's own and the set: apart -/
theorem row_off' {w : World} {g : Geo} {m : Nat} {bks : List (Nat × Nat)} {s : SS} (hS : SetAt w ⟨m, g, bks⟩ s) {nb : Nat} {np : Option Addr} {n nc : Nat} {rs : List Sec} (h : OwnL secLay w nb 23 np n nc rs) : ∀ k, np = some ⟨k, 0, none⟩ → ¬ SFoot ⟨m, g, bks⟩ k := fun k hk hi => by
  rcases Own.cases h with ⟨h0, _⟩ | ⟨b', cur, h0, _, hg', _⟩
  · rw [h0] at hk; cases hk
  · rw [h0] at hk; cases hk
    exact hS.typ hg' (by decide) (by decide) (by decide) hi
theorem O16.row' {w0 w w' : World} {g : Geo} {b2 b4 m : Nat} {bks : List (Nat × Nat)} {p : Option Addr} {c : Nat} (h : O16 w0 w g b2 b4 m bks p c) {nb : Nat} {np : Option Addr} {n nc : Nat} {rs : List Sec} (hr : OwnL secLay w nb 23 np n nc rs) (k : Keep (fun k => np = some ⟨k, 0, none⟩) w w') : O16 w0 w' g b2 b4 m bks p c :=
  ⟨k.has h.geo (OwnL.neH hr h.geo (by decide)), k.has h.st (OwnL.neH hr h.st (by decide)), h.low⟩
theorem GdI.row' {w w' : World} {base : Nat} {g : Geo} {m : Nat} {bks : List (Nat × Nat)} {p : Option Addr} {c : Nat} {s : SS} {now : Int → Sec} {N : Int} (h : GdI w base g m bks p c s now N) {nb : Nat} {np : Option Addr} {n nc : Nat} {rs : List Sec} (hr : OwnL secLay w nb 23 np n nc rs) (k : Keep (fun k => np = some ⟨k, 0, none⟩) w w') : GdI w' base g m bks p c s now N :=
  h.keep k (fun b hb e => row_off' h.set hr b e hb) (fun b hb he => OwnL.ne h.disks hr (by decide) hb he)
theorem reb_walkR {a b c d gone : Int} {lp pp : Option Addr} {ll lc pl pc : Nat} {ls ps : List Int} {w : World} {R : Value → World → Prop} (ha : 0 ≤ a ∧ a ≤ 255) (hb : 0 ≤ b ∧ b ≤ 255) (hc : 0 ≤ c ∧ c ≤ 255) (hls : SlL byLay w lp ll ls) (hby : By ls) (hd : 0 ≤ d ∧ d ≤ 255) (hgo : 0 ≤ gone ∧ gone ≤ 255) (hps : SlL byLay w pp pl ps) (hpb : By ps) (hpl : pl ≤ 100000000) (hK : ∀ w', Keep (fun _ => False) w w' → R (.bool true) w') :
    CallV Try.prog 10 #[.int .u8 a, .int .u8 b, .int .u8 c, .slice lp ll lc, .int .u8 d, .int .u8 gone, .slice pp pl pc] w R := by
  apply C_ravelinlaw16_ScrubRebuilds
  unfold F_ravelinlaw16_ScrubRebuilds
  refine w_small16 ha hb hc fun w1 k1 => OpA_agg.2 ⟨rfl, ?_⟩
  have hg := smallG16_ok (a := a) (b := b) (c := c)
  generalize smallG16 a b c = g at *
  refine copy_of (by kernel_rfl) rfl (one_geoV _) fun w2 hb2 k2 z2 => ?_
  have hdd := hg.d
  have hcc := hg.c
  have hss := hg.s
  have hsz := hg.size
  have hcap := hg.cap
  have hcapE : capG g = (g.d - 2) * g.c * g.s := rfl
  rw [← hcapE] at hcap
  have hn : capG g = (((capG g).toNat : Nat) : Int) := by omega
  have k02 := k1.trans k2
  have zset : (zc Try.prog 29) = setV ⟨0, 0, 0⟩ none 0 0 := by kernel_rfl
  refine ⟨fun st' w' => ∃ m bks p cc, st'.1.2 = 0 ∧ st'.2.1 = 0 ∧ GdI w' w2.heap.size g m bks p cc (newS g pw0) now0 0 ∧ O16 w2 w' g w1.heap.size st'.1.1 m bks p cc ∧ Keep (fun _ => False) w2 w', ?_, ?_⟩
  · intro d0
    have kd := Keep.drew (fun _ => False) w2 d0
    have hbd := kd.has hb2 (by simp)
    have zd := kd.size
    generalize w2.dr d0 = w3 at *
    refine ⟨fun w' => Has w' w1.heap.size (.cells (geoV g) 25 (0, 0)), hbd, ?_⟩
    refine LdA_of (cs := geoV g) rfl (fun w' hw => ⟨_, _, _, hw, Nat.le_refl 3, rfl⟩) ?_
    have fin : ∀ (wa : World) (b4 m : Nat) (bks : List (Nat × Nat)) (p : Option Addr) (cc : Nat), Has wa b4 (.cells (zc Try.prog 29) 29 (0, 0)) → GdI wa w2.heap.size g m bks p cc (newS g pw0) now0 0 → (∀ b, SFoot ⟨m, g, bks⟩ b → w2.heap.size ≤ b) → Keep (fun _ => False) w2 wa → w2.heap.size ≤ b4 → Has wa w1.heap.size (.cells (geoV g) 25 (0, 0)) →
        StA 4 b4 0 (setV g p g.d.toNat cc) wa fun w => Has w w1.heap.size (.cells (geoV g) 25 (0, 0)) ∧ ∃ m bks p cc, (((b4, 0), (0, ())) : (Nat × Nat) × Int × Unit).1.2 = 0 ∧ (((b4, 0), (0, ())) : (Nat × Nat) × Int × Unit).2.1 = 0 ∧ GdI w w2.heap.size g m bks p cc (newS g pw0) now0 0 ∧ O16 w2 w g w1.heap.size (((b4, 0), (0, ())) : (Nat × Nat) × Int × Unit).1.1 m bks p cc ∧ Keep (fun _ => False) w2 w := by
      intro wa b4 m bks p cc hb4 hG hlow k hle hgeo
      refine StA_all hb4 rfl (by rw [zset]; rfl) (one_setV _ _ _ _) ?_
      have ku := Keep.one wa b4 (.cells (setV g p g.d.toNat cc) 29 (0, 0))
      have hgeo' := ku.has hgeo (hgeo.ne hb4 (by simp only [ne_eq, Obj.cells.injEq]; intro e; exact absurd e.2.1 (by decide)))
      exact ⟨hgeo', m, bks, p, cc, rfl, rfl, hG.keep ku (fun b hb e => by rw [e] at hb; exact hG.set.typ hb4 (by decide) (by decide) (by decide) hb) (fun b hb e => OwnL.neH hG.disks hb4 (by decide) (by rw [hb, e])), ⟨hgeo', hb4.upd_same _, hlow⟩, k.trans' ku fun i hi e => by omega⟩
    have lowF : ∀ {m : Nat} {bks : List (Nat × Nat)} {n : Nat}, w2.heap.size ≤ m → (SB.mk m g bks).from_ n → w2.heap.size ≤ n → ∀ b, SFoot ⟨m, g, bks⟩ b → w2.heap.size ≤ b := @fun m bks n hm hfr hn b hb => by
      rcases hb with e | hb | hb
      · have e : b = m := e
        omega
      · obtain ⟨br, hbr, rfl⟩ := List.mem_map.1 hb
        have := (hfr br hbr).1; omega
      · obtain ⟨br, hbr, rfl⟩ := List.mem_map.1 hb
        have := (hfr br hbr).2; omega
    refine ⟨?_, ?_⟩
    · refine ma_New fun m w4 hm hma k4 z4 => OpN_some.2 ⟨k4.has hbd (by simp), ?_⟩
      have hm : m = w3.heap.size := hm
      have k24 := kd.trans k4
      have z24 := k24.size
      refine ⟨?_, ?_⟩
      · refine st_New hg hma fun p cc bks w5 hS o5 hfr k5 => T2_mk.2 (OpA_agg.2 ⟨rfl, OpI_int.2 ⟨(k4.trans k5).has hbd (by simp), ?_⟩⟩)
        refine alc_fresh fun w6 hb6 k6 z6 => ⟨((k4.trans k5).trans k6).has hbd (by simp), ?_⟩
        have k26 := (k24.trans k5).trans k6
        have z25 := (k24.trans k5).size
        exact fin w6 _ m bks p cc hb6 ⟨hS.keep0 k6, (o5.rebase z24).keep k6 (by simp), newS_good hg⟩ (lowF (by omega) hfr z24) k26 z25 (((k4.trans k5).trans k6).has hbd (by simp))
      · refine alc_fresh fun w5 hb5 k5 z5 => ⟨(k4.trans k5).has hbd (by simp), ?_⟩
        have hma5 : MaAt w5 m ⟨true, 0, 0⟩ := k5.has hma (by simp)
        have z25 := (k24.trans k5).size
        refine st_New hg hma5 fun p cc bks w6 hS o6 hfr k6 => T2_mk.2 (OpA_agg.2 ⟨rfl, OpI_int.2 ⟨((k4.trans k5).trans k6).has hbd (by simp), ?_⟩⟩)
        exact fin w6 _ m bks p cc (k6.has hb5 (by simp)) ⟨hS, o6.rebase z25, newS_good hg⟩ (lowF (by omega) hfr z25) ((k24.trans k5).trans k6) z24 (((k4.trans k5).trans k6).has hbd (by simp))
    · refine alc_fresh fun w4 hb4 k4 z4 => ⟨k4.has hbd (by simp), ?_⟩
      have z24 := (kd.trans k4).size
      refine ma_New fun m w5 hm hma k5 z5 => OpN_some.2 ⟨(k4.trans k5).has hbd (by simp), ?_⟩
      have hm : m = w4.heap.size := hm
      have k25 := (kd.trans k4).trans k5
      have z25 := k25.size
      refine st_New hg hma fun p cc bks w6 hS o6 hfr k6 => T2_mk.2 (OpA_agg.2 ⟨rfl, OpI_int.2 ⟨((k4.trans k5).trans k6).has hbd (by simp), ?_⟩⟩)
      exact fin w6 _ m bks p cc ((k5.trans k6).has hb4 (by simp)) ⟨hS, o6.rebase z25, newS_good hg⟩ (lowF (by omega) hfr z25) (k25.trans k6) zd (((k4.trans k5).trans k6).has hbd (by simp))
  rintro _ ⟨⟨b4, o4⟩, n4, u⟩ w3 ⟨m, bks, p, cc, ho4, hn4, hG3, hO3, k3⟩
  simp only at ho4 hn4 hO3 ⊢
  subst ho4 hn4
  refine w_awake16 fun w4 k4 => OpB_bool.2 ⟨by trivial, by trivial, (Cb_false (p := _)).2 ?_⟩
  have hG4 := hG3.keep0 k4
  have hO4 := hO3.keep0 k4
  refine LdV_has (v := .slice p g.d.toNat cc) hO4.st rfl (OpS_slice.2 ?_)
  refine LdV_has (v := .int .i64 g.d) hO4.geo rfl (OpI_int.2 ?_)
  rw [show ((((g.d.toNat : Nat) : Int)) != g.d) = false by rw [show ((g.d.toNat : Nat) : Int) = g.d by omega]; simp]
  refine (Cb_false (p := _)).2 ?_
  refine LdA_all hO4.geo rfl ?_
  refine r3_Cap hg fun w5 k5 => T2_mk.2 (OpI_int.2 (OpI_int.2 ?_))
  have hG5 := hG4.keep0 k5
  have hO5 := hO4.keep0 k5
  refine LdV_has (v := .int .i64 g.c) hO5.geo rfl (OpI_int.2 ?_)
  refine LdV_has (v := .int .i64 g.s) hO5.geo rfl (OpI_int.2 ?_)
  obtain ⟨w6, hr6, o6, k6, z6⟩ := run_mks w5 (n := (capG g).toNat) (by omega)
  rw [← hn] at hr6
  refine ⟨_, _, hr6, OpS_slice.2 ?_⟩
  have k25 := (k3.trans k4).trans k5
  have z25 := k25.size
  have hG6 := hG5.keep0 k6
  have hO6 := hO5.keep0 k6
  have k06 := (k02.trans k25).trans k6
  rw [nowL_zero] at o6
  have hr6 : OwnL secLay w6 w2.heap.size 23 (some ⟨w5.heap.size, 0, none⟩) (capG g).toNat (capG g).toNat (nowL (capG g).toNat now0) := o6.rebase z25
  have z02 := k02.size
  have hnpb : ∀ k, (some (⟨w5.heap.size, 0, none⟩ : Addr)) = some ⟨k, 0, none⟩ → w.heap.size ≤ k := fun k hk => by cases hk; omega
  generalize (some (⟨w5.heap.size, 0, none⟩ : Addr)) = np at *
  rw [wrapI (x := g.c * g.s) (by omega) (by omega)]
  -- the sectors are written
  refine LoopC_of (σ := Int × Unit) (fun st w' => ∃ (i : Nat) (s : SS) (now : Int → Sec), st.1 = (i : Int) ∧ i ≤ 30 ∧ GdI w' w2.heap.size g m bks p cc s now (3 * (i : Int)) ∧ Whole g s ∧ (∀ j, deadS s j = false) ∧ O16 w2 w' g w1.heap.size b4 m bks p cc ∧ OwnL secLay w' w2.heap.size 23 np (capG g).toNat (capG g).toNat (nowL (capG g).toNat now) ∧ Keep (fun _ => False) w w') (fun st _ => (30 - st.1).toNat)
    ⟨0, _, _, rfl, by omega, hG6, newS_whole hg pw0, newS_dead g pw0, hO6, hr6, k06⟩ ?_
  rintro _ ⟨i, u⟩ w7 ⟨i', s, now, hi, hil, hG7, hW7, hal7, hO7, hr7, k7⟩
  simp only at hi ⊢
  subst hi
  refine ⟨by trivial, by trivial, ?_⟩
  refine Cb_of (fun hcc => ?_) (fun hcc => ?_)
  · have hcc : i' < ll ∧ i' < 30 := by
      have hcc : cond (decide ((i' : Int) < (ll : Int))) (decide ((i' : Int) < 30)) false = true := hcc
      by_cases h : (i' : Int) < (ll : Int)
      · rw [decide_eq_true h] at hcc
        have : (i' : Int) < 30 := by simpa using hcc
        omega
      · rw [decide_eq_false h] at hcc
        cases hcc
    have ek : IntKind.wrap .i64 ((i' : Int) + 1) = ((i' + 1 : Nat) : Int) := by rw [wrapI (by omega) (by omega)]; omega
    have hlen := hls.1
    obtain ⟨y, hy⟩ : ∃ y, ls[i']? = some y := ⟨_, List.getElem?_eq_getElem (by omega)⟩
    have hyr := hby y (List.mem_of_getElem? hy)
    refine (hls.keepB k7 (by simp)).ld0 (i := (i' : Int)) (n := 1) (x := y) (v := .int .u8 y) rfl (by omega) (by rw [Int.toNat_natCast]; exact hy) rfl (OpI_int.2 ⟨by show capG g ≠ 0; omega, ?_⟩)
    refine LdA_all hO7.st rfl ?_
    have hm0 := Int.emod_nonneg y (show capG g ≠ 0 by omega)
    have hm1 := Int.emod_lt_of_pos y (show 0 < capG g by omega)
    rw [wrapI (x := (i' : Int) + 1) (by omega) (by omega), wrapU8 (by omega) (by omega), wrapI (x := y) (by omega) (by omega), Int.tmod_eq_emod_of_nonneg hyr.1]
    show DoQ _ (Instr.build 23 #[(0, .int .u8 ((i' : Int) + 1)), (1, .int .u8 9)]) _ _
    refine DoQ_of (fun _ => bld_secxy _ _ _) (OpA_agg.2 ⟨rfl, ?_⟩)
    have hdat : SecOk (sec [(i' : Int) + 1, 9]) := sec_ok (by intro z hz; simp only [List.mem_cons, List.not_mem_nil, or_false] at hz; rcases hz with rfl | rfl <;> omega)
    show CallV _ _ #[_, .int .i64 (y % capG g), _] _ _
    generalize hlb : y % capG g = lb at *
    have hl1 : lb < (g.d - 2) * g.c * g.s := hm1
    generalize hf : sec [(i' : Int) + 1, 9] = f at *
    refine hG7.plan hW7 hm0 hl1 hdat fun pp' pn pc' w8 hp3 op k8 => T2_mk.2 (OpS_slice.2 (OpI_int.2 ((Cb_false (p := _)).2 ?_)))
    have hG8 := hG7.keep0 k8
    have hO8 := hO7.keep0 k8
    have hr8 := hr7.keep k8 (by simp)
    refine LdA_all hO8.st rfl ?_
    refine hG8.apply (by omega) hW7 hal7 hm0 hl1 hdat hp3 op fun w9 s9 hG9 hW9 hal9 hs9 k9 => OpI_int.2 ((Cb_false (p := _)).2 ?_)
    have hO9 := hO8.keep hG8.set k9
    have hr9 := hr8.keep k9 (row_off' hG8.set hr8)
    have k09 : Keep (fun _ => False) w w9 := (k7.trans k8).trans' k9 fun i hi e => by have := hO8.low i e; omega
    refine DoQ_of (fun _ => bld_secxy _ _ _) (OpA_agg.2 ⟨rfl, ?_⟩)
    rw [hf]
    show IdxS _ _ (y % (capG g)) 16 _
    rw [hlb]
    refine hr9.stA (i := lb) (n := 16) rfl hm0 (by omega) f (by show secV f = ((secV f).toList).toArray; simp) fun w10 o10 k10 z10 => ?_
    rw [nowL_set, show ((lb.toNat : Nat) : Int) = lb by omega] at o10
    refine ⟨_, by show (30 - ((i' : Int) + 1)).toNat < (30 - (i' : Int)).toNat; omega, ⟨i' + 1, s9, _, by show (i' : Int) + 1 = ((i' + 1 : Nat) : Int); omega, by omega, GdI.row' ⟨hG9.set, hG9.disks, hG9.good.mono (by omega)⟩ hr9 k10, hW9, hal9, hO9.row' hr9 k10, o10, k09.trans' k10 fun k hk hh => by have := hnpb k hh; omega⟩, rfl⟩
  · have hm0 := fun v : Int => Int.emod_nonneg v (show g.d ≠ 0 by omega)
    have hm1 := fun v : Int => Int.emod_lt_of_pos v (show 0 < g.d by omega)
    refine LdV_has (v := .int .i64 g.d) hO7.geo rfl (OpI_int.2 ⟨by omega, ?_⟩)
    refine LdV_has (v := .int .i64 g.d) hO7.geo rfl (OpI_int.2 ⟨by omega, ?_⟩)
    intro d1
    have k7d := k7.dr d1
    have hG8 := hG7.keep0 (Keep.drew _ w7 d1)
    have hO8 := hO7.keep0 (Keep.drew _ w7 d1)
    have hr8 := hr7.keep (Keep.drew (fun _ => False) w7 d1) (by simp)
    generalize w7.dr d1 = w8 at *
    rw [wrapI (x := d) (by omega) (by omega), Int.tmod_eq_emod_of_nonneg hd.1, wrapI (x := gone) (by omega) (by omega), Int.tmod_eq_emod_of_nonneg hgo.1]
    have hxr := And.intro (hm0 d) (hm1 d)
    have hyr := And.intro (hm0 gone) (hm1 gone)
    generalize d % g.d = x at *
    generalize gone % g.d = y at *
    -- one disk fails, one is replaced
    refine LdV_has (v := .slice p g.d.toNat cc) hO8.st rfl (OpS_slice.2 ?_)
    refine hG8.failT hyr fun w9 hG9 k9 => ?_
    have hO9 := hO8.keep hG8.set k9
    have hr9 := hr8.keep k9 (row_off' hG8.set hr8)
    have k09 : Keep (fun _ => False) w w9 := k7d.trans' k9 fun i hi e => by have := hO8.low i e; omega
    refine LdV_has (v := .slice p g.d.toNat cc) hO9.st rfl (OpS_slice.2 ?_)
    have hn7 := hG7.good.ss.num
    have hn9 := hG9.good.ss.num
    have hv10 : V2 g (replS (failS s y) x) x y := fun j a hj ha hv => by
      rw [replS_view hxr.1 (by omega) hj.1] at hv
      split at hv
      · exact Or.inl ‹_›
      · rw [failS_view hyr.1 (by omega) hj.1] at hv
        split at hv
        · exact Or.inr ‹_›
        · exact absurd hv (hW7 j a hj ha)
    have hal10 : deadS (replS (failS s y) x) x = false := by rw [replS_dead hxr.1 (by omega) hxr.1, if_pos rfl]
    have z29 : w2.heap.size ≤ w9.heap.size := by
      have h1 := (hG9.disks.sl).1
      have := hO9.low m (Or.inl rfl)
      have hlt : m < w9.heap.size := hG9.set.main.lt
      omega
    refine hG9.replT hxr fun w10 bks' hfst hft hG10 k10 => ?_
    have hO10 : O16 w2 w10 g w1.heap.size b4 m bks' p cc := ⟨k10.has hO9.geo (hG9.set.typ hO9.geo (by decide) (by decide) (by decide)), k10.has hO9.st (hG9.set.typ hO9.st (by decide) (by decide) (by decide)), fun b hb => (hft b hb).elim (hO9.low b) fun h => by omega⟩
    have hr10 := hr9.keep k10 (row_off' hG9.set hr9)
    have k010 : Keep (fun _ => False) w w10 := k09.trans' k10 fun i hi e => by have := hO9.low i e; omega
    generalize replS (failS s y) x = s10 at *
    clear hG9 hO9 hr9 hG8 hO8 hr8 hG7 hO7 hr7
    -- piece by piece
    refine LoopC_of (σ := Int × Int × Unit) (fun st w' => ∃ (i : Nat) (s : SS), st.2.1 = (i : Int) ∧ i ≤ pl ∧ (0 ≤ st.1 ∧ st.1 ≤ g.c * g.s) ∧ GdI w' w2.heap.size g m bks' p cc s now (1000 + st.1) ∧ V2 g s x y ∧ deadS s x = false ∧ (∀ a, 0 ≤ a ∧ a < st.1 → viewS s x a ≠ none) ∧ O16 w2 w' g w1.heap.size b4 m bks' p cc ∧ OwnL secLay w' w2.heap.size 23 np (capG g).toNat (capG g).toNat (nowL (capG g).toNat now) ∧ Keep (fun _ => False) w w') (fun st _ => ((pl : Int) - st.2.1).toNat)
      ⟨0, s10, rfl, by omega, by show (0 : Int) ≤ 0 ∧ (0 : Int) ≤ g.c * g.s; omega, ⟨hG10.set, hG10.disks, hG10.good.mono (by show 3 * (i' : Int) ≤ 1000 + 0; omega)⟩, hv10, hal10, fun a ha => by have : (0 : Int) ≤ a ∧ a < 0 := ha; omega, hO10, hr10, k010⟩ ?_
    rintro _ ⟨mk, j, u⟩ w11 ⟨j', s11, hj, hjl, hmk, hG11, hv11, hal11, hseen, hO11, hr11, k11⟩
    simp only at hj hmk hG11 hseen ⊢
    subst hj
    refine ⟨by trivial, by trivial, by trivial, ?_⟩
    refine Cb_of (fun hcc => ?_) (fun hcc => ?_)
    · have hcc : j' < pl ∧ mk < g.c * g.s := by
        have hcc : cond (decide ((j' : Int) < (pl : Int))) (decide (mk < g.c * g.s)) false = true := hcc
        by_cases h : (j' : Int) < (pl : Int)
        · rw [decide_eq_true h] at hcc
          have : mk < g.c * g.s := by simpa using hcc
          omega
        · rw [decide_eq_false h] at hcc
          cases hcc
      have ek : IntKind.wrap .i64 ((j' : Int) + 1) = ((j' + 1 : Nat) : Int) := by rw [wrapI (by omega) (by omega)]; omega
      have hlen := hps.1
      obtain ⟨v, hv⟩ : ∃ v, ps[j']? = some v := ⟨_, List.getElem?_eq_getElem (by omega)⟩
      have hvr := hpb v (List.mem_of_getElem? hv)
      refine (hps.keepB k11 (by simp)).ld0 (i := (j' : Int)) (n := 1) (x := v) (v := .int .u8 v) rfl (by omega) (by rw [Int.toNat_natCast]; exact hv) rfl (OpI_int.2 ⟨by decide, ?_⟩)
      have hq0 := Int.emod_nonneg v (show (4 : Int) ≠ 0 by decide)
      have hq1 := Int.emod_lt_of_pos v (show (0 : Int) < 4 by decide)
      rw [Int.tmod_eq_emod_of_nonneg hvr.1, wrapI (x := v % 4) (by omega) (by omega)]
      generalize v % 4 = q at *
      refine LdA_all hO11.st rfl ?_
      refine hG11.rebuild (by omega) hxr hal11 hmk hq0 (fun st off hst hof => hv11.lost hg st off hst hof) fun w12 s12 hG12 hd12 hv12 k12 => T2_mk.2 (OpI_int.2 (OpI_int.2 ?_))
      have hO12 := hO11.keep hG11.set k12
      have hr12 := hr11.keep k12 (row_off' hG11.set hr11)
      have k012 : Keep (fun _ => False) w w12 := k11.trans' k12 fun i hi e => by have := hO11.low i e; omega
      refine ⟨fun st' w' => st'.1 = false ∧ w12 = w', ?_, ?_⟩
      · refine (Cb_false (p := _)).2 ?_
        rw [wrapI (x := mk + q) (by omega) (by omega)]
        refine DoQ_of (fun _ => run_min _ _ _ _ _ _) (OpI_int.2 ⟨?_, rfl⟩)
        show (min (g.c * g.s) (mk + q) != min (g.c * g.s) (mk + q)) = false
        simp
      · rintro _ ⟨b5, u⟩ w13 ⟨hb5, rfl⟩
        simp only at hb5 ⊢
        subst hb5
        refine (Cb_false (p := _)).2 ?_
        refine ⟨_, by show ((pl : Int) - IntKind.wrap .i64 ((j' : Int) + 1)).toNat < ((pl : Int) - (j' : Int)).toNat; rw [ek]; omega, ⟨j' + 1, s12, ek, by omega, by show 0 ≤ min (g.c * g.s) (mk + q) ∧ min (g.c * g.s) (mk + q) ≤ g.c * g.s; omega, ⟨hG12.set, hG12.disks, hG12.good.mono (by show 1000 + mk + (min (g.c * g.s) (mk + q) - mk) ≤ 1000 + min (g.c * g.s) (mk + q); omega)⟩, fun j a hj ha hvv => hv11 j a hj ha ((hv12 j a hj ha).1 hvv).1, by rw [hd12]; exact hal11, fun a ha hvv => ?_, hO12, hr12, k012⟩, rfl⟩
        have ha : 0 ≤ a ∧ a < min (g.c * g.s) (mk + q) := ha
        obtain ⟨e1, e2⟩ := (hv12 x a hxr (by omega)).1 hvv
        by_cases e : a < mk
        · exact hseen a ⟨ha.1, e⟩ e1
        · exact e2 ⟨rfl, by omega⟩
    · refine LdA_all hO11.st rfl ?_
      refine hG11.rebuild (by omega) hxr hal11 hmk (show 0 ≤ g.c * g.s by omega) (fun st off hst hof => hv11.lost hg st off hst hof) fun w12 s12 hG12 hd12 hv12 k12 => T2_mk.2 (OpI_int.2 (OpI_int.2 ?_))
      have hO12 := hO11.keep hG11.set k12
      have hr12 := hr11.keep k12 (row_off' hG11.set hr11)
      have k012 : Keep (fun _ => False) w w12 := k11.trans' k12 fun i hi e => by have := hO11.low i e; omega
      have hvy : x ≠ y → V2 g s12 y y := fun hne j a hj ha hvv => by
        obtain ⟨e1, e2⟩ := (hv12 j a hj ha).1 hvv
        rcases hv11 j a hj ha e1 with e | e
        · subst e
          exfalso
          by_cases e : a < mk
          · exact hseen a ⟨ha.1, e⟩ e1
          · exact e2 ⟨rfl, by omega⟩
        · exact Or.inl e
      refine ⟨fun st' w' => st'.1 = false ∧ w12 = w', ⟨by trivial, by trivial, by trivial, ?_, rfl⟩, ?_⟩
      · show (cond ((0 : Int) != 0) true (min (g.c * g.s) (mk + g.c * g.s) != g.c * g.s)) = false
        rw [Int.min_eq_left (by omega)]
        simp
      · rintro _ ⟨b5, u⟩ w13 ⟨hb5, rfl⟩
        simp only at hb5 ⊢
        subst hb5
        refine (Cb_false (p := _)).2 ?_
        refine LdV_has (v := .int .i64 g.d) hO12.geo rfl (OpI_int.2 ⟨by omega, ?_⟩)
        refine ⟨fun st' w' => (0 ≤ st'.1 ∧ st'.1 < g.d) ∧ w12 = w', ?_, ?_⟩
        · rw [wrapI (x := x + 1) (by omega) (by omega), Int.tmod_eq_emod_of_nonneg (by omega)]
          refine Cb_of (fun _ => ?_) (fun _ => ⟨⟨hm0 _, hm1 _⟩, rfl⟩)
          refine LdV_has (v := .int .i64 g.d) hO12.geo rfl (OpI_int.2 ⟨by omega, ?_⟩)
          rw [wrapI (x := x + 2) (by omega) (by omega), Int.tmod_eq_emod_of_nonneg (by omega)]
          exact ⟨⟨hm0 _, hm1 _⟩, rfl⟩
        · rintro _ ⟨z, u⟩ w13 ⟨hz, rfl⟩
          simp only at hz ⊢
          refine LdV_has (v := .slice p g.d.toNat cc) hO12.st rfl (OpS_slice.2 ?_)
          refine hG12.failT hyr fun w13 hG13 k13 => ?_
          have hO13 := hO12.keep hG12.set k13
          have hr13 := hr12.keep k13 (row_off' hG12.set hr12)
          refine LdV_has (v := .slice p g.d.toNat cc) hO13.st rfl (OpS_slice.2 ?_)
          refine hG13.failT hz fun w14 hG14 k14 => ?_
          have hO14 := hO13.keep hG13.set k14
          have hr14 := hr13.keep k14 (row_off' hG13.set hr13)
          have k014 : Keep (fun _ => False) w w14 := (k012.trans' k13 fun i hi e => by have := hO12.low i e; omega).trans' k14 fun i hi e => by have := hO13.low i e; omega
          refine Cb_of (fun e => ?_) (fun e => ?_)
          · refine LdV_has (v := .slice p g.d.toNat cc) hO14.st rfl (OpS_slice.2 ?_)
            obtain ⟨bd, rd, D, hbk, hD, hda, hdl⟩ := hG14.set.get (i := x.toNat) (by have := hG14.set.num; have : ((failS (failS s12 y) z).ds.length : Int) = g.d := this; omega)
            exact hG14.disks.sl.ld0 (i := x) (n := 1) (x := bd) (v := .pointer (some ⟨bd, 0, none⟩)) rfl hxr.1 (by rw [List.getElem?_map, show bks'[x.toNat]? = some (bd, rd) from hbk]; rfl) rfl (OpN_some.2 (Ret_nil.2 (hK _ k014)))
          · have hne : x ≠ y := by simpa using e
            have h1 := (hvy hne).fail hG12.good.ss hyr
            have h2 : V2 g (failS s12 y) y y := fun j a hj ha hvv => (h1 j a hj ha hvv).elim Or.inl Or.inl
            exact reads16 hG14 hO14 hr14 (h2.fail hG13.good.ss hz) fun w15 k15 => hK _ (k014.trans k15)
theorem reb_walk {a b c d gone : Int} {lp pp : Option Addr} {ll lc pl pc : Nat} {ls ps : List Int} {w : World} (ha : 0 ≤ a ∧ a ≤ 255) (hb : 0 ≤ b ∧ b ≤ 255) (hc : 0 ≤ c ∧ c ≤ 255) (hls : SlL byLay w lp ll ls) (hby : By ls) (hd : 0 ≤ d ∧ d ≤ 255) (hgo : 0 ≤ gone ∧ gone ≤ 255) (hps : SlL byLay w pp pl ps) (hpb : By ps) (hpl : pl ≤ 100000000) :
    CallV Try.prog 10 #[.int .u8 a, .int .u8 b, .int .u8 c, .slice lp ll lc, .int .u8 d, .int .u8 gone, .slice pp pl pc] w fun v w' => v = .bool true ∧ Below w.heap.size w w' :=
  reb_walkR ha hb hc hls hby hd hgo hps hpb hpl fun w' k => ⟨rfl, k.below⟩
end Go.Proofs
