/-
  StripeTwo: a write, as it is printed.
-/
import Derived.Test.YtdeaollkgckppaaFailM
namespace Go.Proofs
open Go Go.Ev
set_option linter.unusedSimpArgs false
set_option linter.unusedVariables false
set_option maxRecDepth 100000

def nowL (n : Nat) (now : Int → Sec) : List Sec := (List.range n).map fun (k : Nat) => now (k : Int)
theorem len_nowL (n : Nat) (now : Int → Sec) : (nowL n now).length = n := by simp [nowL]
theorem nowL_at {n k : Nat} (h : k < n) (now : Int → Sec) : (nowL n now)[k]? = some (now (k : Int)) := by
  unfold nowL
  rw [List.getElem?_map, List.getElem?_range h]; rfl
theorem nowL_set {n k : Nat} (now : Int → Sec) (f : Sec) : (nowL n now).set k f = nowL n (upd now (k : Int) f) := by
  apply List.ext_getElem?
  intro i
  by_cases hi : i < n
  · rw [nowL_at hi]
    unfold upd
    by_cases e : k = i
    · subst e
      rw [List.getElem?_set_self (by rw [len_nowL]; exact hi), if_pos rfl]
    · rw [List.getElem?_set_ne e, nowL_at hi, if_neg (by omega)]
  · rw [List.getElem?_eq_none (by rw [List.length_set, len_nowL]; omega), List.getElem?_eq_none (by rw [len_nowL]; omega)]
def fst0 (f : Sec) (v : Int) : Sec := fun k => if k.val = 0 then v else f k
theorem fst0_ok {f : Sec} (h : SecOk f) {v : Int} (hv : 0 ≤ v ∧ v ≤ 255) : SecOk (fst0 f v) := fun k => by
  unfold fst0
  split
  · exact hv
  · exact h k
theorem fst0_V (f : Sec) (v : Int) : (secV f).setIfInBounds (0 + Int.toNat 0 * 1) (.int .u8 v) = secV (fst0 f v) := rfl
/-- what stands at the head of each turn -/
structure TwoI (w0 w : World) (g : Geo) (b1 b2 b3 m : Nat) (bks : List (Nat × Nat)) (p : Option Addr) (c : Nat) (pr : Option Addr) (cr : Nat) (xs : List (Nat × Nat × Nat)) (np : Option Addr) (nc : Nat) (X Y : Int) (s : SS) (now : Int → Sec) (data : Sec) : Prop where
  op : Opened w0 w g b2 b3 m bks p c pr cr xs
  set : SetAt w ⟨m, g, bks⟩ s
  ss : SsOk g s
  lit : Lit0 s.pw
  key : ∀ i : Nat, (s.ds.getD i dsk0).key ≤ 0
  inv : Inv g s now
  nok : ∀ l, SecOk (now l)
  two : TwoS g s X Y
  dat : Has w b1 (.cells (secV data) 23 (0, 0))
  dok : SecOk data
  row : OwnL secLay w w0.heap.size 23 np (capG g).toNat nc (nowL (capG g).toNat now)
  off : ∀ k, np = some ⟨k, 0, none⟩ → k ≠ b1
def StepT (b1 b3 : Nat) (lp : Option Addr) (ll : Nat) (p : Option Addr) (l : Nat) (n i : Int) (w : World) (R : Value → World → Prop) (K : World → Prop) : Prop :=
  IdxS lp ll i 1 fun b8 o4 => LdV b8 o4 (At w) fun v17 => OpI .u8 v17 fun n4 => Req
  (n ≠ 0) (Req (0 ≤ (0 : Int) ∧ (0 : Int) < 16) (StV b1 (0 + Int.toNat 0 * 1) (.int .u8 (IntKind.wrap .u8 (IntKind.wrap .i64 (i + 1)))) w fun w => LdA 4 b3 0 (At w) fun
  cs4 => LdA 16 b1 0 (At w) fun cs5 => CallV Try.prog 17 #[.agg cs4, .int .i64 (Int.tmod (IntKind.wrap .i64 n4) n), .agg cs5] w fun v18 w => T2 v18 fun v19 v20 => OpS v19
  fun p3 l3 c4 => OpI .i64 v20 fun n5 => Cb (n5 != 0) (Ret [] (R (.bool false) w)) (LdA 4 b3 0 (At w) fun cs6 => CallV Try.prog 18 #[.agg cs6, .slice p3 l3 c4, .int .u32 0]
  w fun v21 w => OpI .i64 v21 fun n6 => Cb (n6 != 0) (Ret [] (R (.bool false) w)) (LdA 16 b1 0 (At w) fun cs7 => IdxS p l (Int.tmod (IntKind.wrap .i64 n4) n) 16 fun b9 o5 =>
  StA 16 b9 o5 cs7 w fun w => K w))))
section calls
variable {w0 w : World} {g : Geo} {b1 b2 b3 m : Nat} {bks : List (Nat × Nat)} {p : Option Addr} {c : Nat} {pr : Option Addr} {cr : Nat} {xs : List (Nat × Nat × Nat)} {np : Option Addr} {nc : Nat} {X Y : Int} {s : SS} {now : Int → Sec} {data : Sec} {R : Value → World → Prop}
theorem TwoI.fail (h : TwoI w0 w g b1 b2 b3 m bks p c pr cr xs np nc X Y s now data) {x : Int} (hx : 0 ≤ x ∧ x ≤ 255) (hX : x % g.d = X ∨ x % g.d = Y) {K : World → Prop}
    (hK : ∀ w' s', TwoI w0 w' g b1 b2 b3 m bks p c pr cr xs np nc X Y s' now data → Keep (SFoot ⟨m, g, bks⟩) w w' → K w') : FailT b2 b3 x w K := by
  have hg := h.ss.geo
  have hgd := hg.d
  have hm0 := Int.emod_nonneg x (show g.d ≠ 0 by omega)
  have hm1 := Int.emod_lt_of_pos x (show 0 < g.d by omega)
  have hnum := h.ss.num
  refine failT hg h.op h.set hx fun w' hS hO k => hK w' _ ⟨hO, hS, failS_ok h.ss hm0 hm1, h.lit, fun i => by rw [failS_key (by omega)]; exact h.key i, failS_inv h.ss h.inv hm0 hm1, h.nok, h.two.fail h.ss hm0 hm1 hX, k.has h.dat (h.set.typ h.dat (by decide) (by decide) (by decide)), h.dok, h.row.keep k fun b hb hi => ?_, h.off⟩ k
  rcases Own.cases h.row with ⟨h0, _⟩ | ⟨b', cur, h0, _, hg', _⟩
  · rw [h0] at hb; cases hb
  · rw [h0] at hb; cases hb
    exact h.set.typ hg' (by decide) (by decide) (by decide) hi
theorem stepT (h : TwoI w0 w g b1 b2 b3 m bks p c pr cr xs np nc X Y s now data) {lp : Option Addr} {ll : Nat} {ls : List Int} {wl : World} (hls : SlL byLay wl lp ll ls) (hby : By ls) (k0 : Keep (fun _ => False) wl w) {i : Nat} (hi : i < ll) (hi40 : i < 40) {K : World → Prop}
    (hK : ∀ w' s' now' data', TwoI w0 w' g b1 b2 b3 m bks p c pr cr xs np nc X Y s' now' data' → Keep (fun k => k = b1 ∨ SFoot ⟨m, g, bks⟩ k ∨ np = some ⟨k, 0, none⟩) w w' → K w') : StepT b1 b3 lp ll np (capG g).toNat (capG g) (i : Int) w R K := by
  unfold StepT
  have hg := h.ss.geo
  have hll := hls.1
  obtain ⟨x, hx⟩ : ∃ x, ls[i]? = some x := ⟨_, List.getElem?_eq_getElem (by omega)⟩
  have hxr := hby x (List.mem_of_getElem? hx)
  refine (hls.keepB k0 (by simp)).ld0 (i := (i : Int)) (n := 1) (x := x) (v := .int .u8 x) rfl (by omega) (by rw [Int.toNat_natCast]; exact hx) rfl (OpI_int.2 ?_)
  have hcap := hg.cap
  have hcapE : capG g = (g.d - 2) * g.c * g.s := rfl
  rw [← hcapE] at hcap
  have hm0 := Int.emod_nonneg x (show capG g ≠ 0 by omega)
  have hm1 := Int.emod_lt_of_pos x (show 0 < capG g by omega)
  refine ⟨by omega, ⟨by decide, by decide⟩, ?_⟩
  rw [wrapI (x := (i : Int) + 1) (by omega) (by omega), wrapU8 (by omega) (by omega), wrapI (x := x) (by omega) (by omega), Int.tmod_eq_emod_of_nonneg hxr.1]
  generalize x % capG g = lba at *
  refine StV_of h.dat (by show 0 + Int.toNat 0 * 1 < 16; decide) rfl ?_
  rw [fst0_V]
  have hd1 := h.dat.upd_same (.cells (secV (fst0 data ((i : Int) + 1))) 23 (0, 0))
  have hdok := fst0_ok h.dok (v := (i : Int) + 1) (by omega)
  have ku : Keep (fun k => k = b1) w (w.upd b1 (.cells (secV (fst0 data ((i : Int) + 1))) 23 (0, 0))) := (Keep.refl (fun k => k = b1) w).upd (fun _ => rfl) _
  generalize fst0 data ((i : Int) + 1) = dat at *
  generalize w.upd b1 (.cells (secV dat) 23 (0, 0)) = w1 at *
  have hS1 : SetAt w1 ⟨m, g, bks⟩ s := h.set.keep ku fun i hi e => by rw [e] at hi; exact h.set.typ h.dat (by decide) (by decide) (by decide) hi
  have hrow1 := h.row.keep ku fun k hk e => h.off k hk e
  have hO1 : Opened w0 w1 g b2 b3 m bks p c pr cr xs := ⟨ku.has h.op.geo (h.op.geo.ne h.dat (by simp only [ne_eq, Obj.cells.injEq]; intro e; exact absurd e.2.1 (by decide))), ku.has h.op.lw (h.op.lw.ne h.dat (by simp only [ne_eq, Obj.cells.injEq]; intro e; exact absurd e.2.1 (by decide))), h.op.row.keep ku (fun k hk e => OwnL.neH h.op.row h.dat (by decide) (by rw [hk, e])), h.op.rset.keep ku (fun b cs t hb ht _ e => by
    subst e
    refine hb.ne h.dat ?_ rfl
    rcases ht with rfl | rfl | rfl
    · simp only [ne_eq, Obj.cells.injEq]; intro e; exact absurd e.2.1 (by decide)
    · simp only [ne_eq, Obj.cells.injEq]; intro e; exact absurd e.2.1 (by decide)
    · simp only [ne_eq, Obj.cells.injEq]; intro e; exact absurd e.2.1 (by decide)), h.op.from_, h.op.m, h.op.b2, h.op.b3⟩
  refine hO1.ld ?_
  refine LdA_all hd1 rfl ?_
  have hl1 : lba < (g.d - 2) * g.c * g.s := hm1
  obtain ⟨pst, pco, pof⟩ := spotP_ok hg hm0 hl1
  have hlost := h.two.lost hg pst pof
  obtain ⟨hp2, s', hap, hw⟩ := h.inv.write h.ss h.nok h.lit hm0 hl1 hdok h.key hlost
  refine st_Plan hS1 hO1.row.sl hO1.row.cap.1 h.ss.ok hm0 hl1 hdok fun pp pc w2 o2 k2 => ?_
  have hp2' : (planS (SB.mk m g bks).g s lba dat).2 = 0 := hp2
  rw [hp2']
  refine T2_mk.2 (OpS_slice.2 (OpI_int.2 ((Cb_false (p := _)).2 ?_)))
  have hO2 := hO1.keep0 k2
  have hS2 := hS1.keep0 k2
  refine hO2.ld ?_
  have hplen : (planS g s lba dat).1.length ≤ 1000000 := by
    have : planS g s lba dat = (planL g s (spotP g lba).1 (spotP g lba).2.2 (rowW (rowR (colsS g s (spotP g lba).1 (spotP g lba).2.2)) (spotP g lba).2.1.toNat dat) [(spotP g lba).2.1, g.d - 2, g.d - 1], 0) := by
      unfold planS
      simp only
      rw [if_neg (by rw [h.lit.1]; decide), if_pos hlost]
    rw [this]
    exact Nat.le_trans (List.length_filterMap_le _ _) (by simp)
  refine st_Apply hS2 hO2.row.sl hO2.row.cap.1 (hO2.off hS2) o2.sl hplen (fun b' o hb' hi => ?_) fun w3 hS3 k3 => ?_
  · rcases Own.cases o2 with ⟨h0, _⟩ | ⟨b'', cur, h0, _, hg', _⟩
    · rw [h0] at hb'; cases hb'
    · rw [h0] at hb'; cases hb'
      exact hS2.typ hg' (by decide) (by decide) (by decide) hi
  have hap' : applyS (SB.mk m g bks).g s (planS (SB.mk m g bks).g s lba dat).1 0 = (0, s') := hap
  rw [hap'] at hS3 ⊢
  refine OpI_int.2 ((Cb_false (p := _)).2 ?_)
  have hd2 := k2.has hd1 (by simp)
  have hd3 := k3.has hd2 (hS2.typ hd2 (by decide) (by decide) (by decide))
  have hO3 := hO2.keep hS2 k3
  have hrow2 := hrow1.keep k2 (by simp)
  have hrow3 := hrow2.keep k3 fun b hb hi => by
    rcases Own.cases hrow2 with ⟨h0, _⟩ | ⟨b', cur, h0, _, hg', _⟩
    · rw [h0] at hb; cases hb
    · rw [h0] at hb; cases hb
      exact hS2.typ hg' (by decide) (by decide) (by decide) hi
  refine LdA_all hd3 rfl ?_
  refine hrow3.stA (i := lba) (n := 16) rfl hm0 (by omega) dat (by show secV dat = ((secV dat).toList).toArray; simp) fun w4 o4 k4 z4 => ?_
  rw [nowL_set, show ((lba.toNat : Nat) : Int) = lba by omega] at o4
  have k4' : ∀ i, SFoot ⟨m, g, bks⟩ i → ¬ np = some ⟨i, 0, none⟩ := fun i hi e => by
    rcases Own.cases hrow3 with ⟨h0, _⟩ | ⟨b', cur, h0, _, hg', _⟩
    · rw [h0] at e; cases e
    · rw [h0] at e; cases e
      exact hS3.typ hg' (by decide) (by decide) (by decide) hi
  have hO4 : Opened w0 w4 g b2 b3 m bks p c pr cr xs := ⟨k4.has hO3.geo (OwnL.neH hrow3 hO3.geo (by decide)), k4.has hO3.lw (OwnL.neH hrow3 hO3.lw (by decide)), hO3.row.keep k4 (fun k hk he => OwnL.ne hO3.row hrow3 (by decide) hk he), hO3.rset.keep k4 (fun b cs t hb ht _ => by
    rcases ht with rfl | rfl | rfl
    · exact OwnL.neH hrow3 hb (by decide)
    · exact OwnL.neH hrow3 hb (by decide)
    · exact OwnL.neH hrow3 hb (by decide)), hO3.from_, hO3.m, hO3.b2, hO3.b3⟩
  refine hK w4 s' (upd now lba dat) dat ⟨hO4, hS3.keep k4 k4', hw.ss, hw.lit, fun i => by rw [hw.key]; exact h.key i, hw.inv, upd_ok h.nok hdok lba, h.two.write hw, k4.has hd3 (fun e => h.off b1 e rfl), hdok, o4, h.off⟩ ?_
  exact (ku.mono fun k hk => Or.inl hk).trans (((k2.mono fun _ h => h.elim).trans (k3.mono fun k hk => Or.inr (Or.inl hk))).trans (k4.mono fun k hk => Or.inr (Or.inr hk)))
end calls
end Go.Proofs
