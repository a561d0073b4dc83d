/-
  StripeNever, the walk.
-/
import Derived.Test.YtdeaollkgckppaaNeverM
import Derived.Test.YtdeaollkgckppaaTwoW
import Derived.Test.YtdeaollkgckppaaTwoM
import Derived.Test.YtdeaollkgckppaaArgs9
import Derived.Test.YtdeaollkgckppaaFNever9
namespace Go.Proofs
open Go Go.Ev Go.RowKit
set_option linter.unusedSimpArgs false
set_option linter.unusedVariables false
set_option maxRecDepth 100000

def OpOk9 (o : Op9) : Prop := SecOk o.data ∧ (-9223372036854775808 ≤ o.a ∧ o.a ≤ 9223372036854775807)
instance : Inhabited Op9 := ⟨⟨0, 0, 0, 0, sec [], 0⟩⟩
theorem op9_of {cs : List Value} (h : Fits ([.int .i64, .int .i64, .int .i64, .int .i64] ++ (List.replicate 16 (.int .u8) ++ [.int .u32])) cs) : ∃ o : Op9, cs = opLay.row o ∧ OpOk9 o := by
  obtain ⟨_, _, rfl, ⟨a, rfl, a1, a2⟩, q1⟩ := fits_cons h
  obtain ⟨_, _, rfl, ⟨b, rfl, b1, b2⟩, q2⟩ := fits_cons q1
  obtain ⟨_, _, rfl, ⟨c, rfl, c1, c2⟩, q3⟩ := fits_cons q2
  obtain ⟨_, _, rfl, ⟨d, rfl, d1, d2⟩, q4⟩ := fits_cons q3
  obtain ⟨_, _, rfl, ⟨x0, rfl, p0⟩, q5⟩ := fits_cons q4
  obtain ⟨_, _, rfl, ⟨x1, rfl, p1⟩, q6⟩ := fits_cons q5
  obtain ⟨_, _, rfl, ⟨x2, rfl, p2⟩, q7⟩ := fits_cons q6
  obtain ⟨_, _, rfl, ⟨x3, rfl, p3⟩, q8⟩ := fits_cons q7
  obtain ⟨_, _, rfl, ⟨x4, rfl, p4⟩, q9⟩ := fits_cons q8
  obtain ⟨_, _, rfl, ⟨x5, rfl, p5⟩, q10⟩ := fits_cons q9
  obtain ⟨_, _, rfl, ⟨x6, rfl, p6⟩, q11⟩ := fits_cons q10
  obtain ⟨_, _, rfl, ⟨x7, rfl, p7⟩, q12⟩ := fits_cons q11
  obtain ⟨_, _, rfl, ⟨x8, rfl, p8⟩, q13⟩ := fits_cons q12
  obtain ⟨_, _, rfl, ⟨x9, rfl, p9⟩, q14⟩ := fits_cons q13
  obtain ⟨_, _, rfl, ⟨xa, rfl, pa⟩, q15⟩ := fits_cons q14
  obtain ⟨_, _, rfl, ⟨xb, rfl, pb⟩, q16⟩ := fits_cons q15
  obtain ⟨_, _, rfl, ⟨xc, rfl, pc⟩, q17⟩ := fits_cons q16
  obtain ⟨_, _, rfl, ⟨xd, rfl, pd⟩, q18⟩ := fits_cons q17
  obtain ⟨_, _, rfl, ⟨xe, rfl, pe⟩, q19⟩ := fits_cons q18
  obtain ⟨_, _, rfl, ⟨xf, rfl, pf⟩, q20⟩ := fits_cons q19
  obtain ⟨_, _, rfl, ⟨e, rfl, e1, e2⟩, q21⟩ := fits_cons q20
  cases fits_nil q21
  refine ⟨⟨a, b, c, d, sec [x0, x1, x2, x3, x4, x5, x6, x7, x8, x9, xa, xb, xc, xd, xe, xf], e⟩, rfl, sec_ok ?_, b1, b2⟩
  intro x hx
  simp only [List.mem_cons, List.not_mem_nil, or_false] at hx
  rcases hx with rfl | rfl | rfl | rfl | rfl | rfl | rfl | rfl | rfl | rfl | rfl | rfl | rfl | rfl | rfl | rfl <;> assumption
theorem ops9_list {W : World} {xp : Option Addr} {l : Nat} {g : Nat → List Value} (h : Sl W 21 xp l g) (hf : ∀ i, i < l → Fits ([.int .i64, .int .i64, .int .i64, .int .i64] ++ (List.replicate 16 (.int .u8) ++ [.int .u32])) (g i)) : ∃ os : List Op9, SlL opLay W xp l os ∧ ∀ o ∈ os, OpOk9 o :=
  slL_ex h rfl hf fun cs hc => op9_of hc
theorem op_dat (o : Op9) : (opV o).extract 4 (4 + 16) = secV o.data := by kernel_rfl
theorem op_row (o : Op9) : (opLay.row o).toArray = opV o := by kernel_rfl
theorem zc_op : (zc Try.prog 90).size = 21 := by kernel_rfl
theorem lw_set9 (g : Geo) (p : Option Addr) (c : Nat) (pr : Option Addr) (cr m : Nat) : (lwV g p c pr cr m).extract 0 (0 + 4) = setV g p g.d.toNat c := by kernel_rfl
/-- what a law holds on to -/
structure NvI (w0 w : World) (g : Geo) (b3 m : Nat) (bks : List (Nat × Nat)) (p : Option Addr) (c : Nat) (pr : Option Addr) (cr : Nat) (xs : List RD) (np : Option Addr) (s : SS) (now : Int → Sec) : Prop where
  st : StI w w0.heap.size g m bks p c s now
  rg : RG w pr g.d.toNat cr (g.c * g.s).toNat xs
  lw : Has w b3 (.cells (lwV g p c pr cr m) 37 (0, 0))
  row : OwnL secLay w w0.heap.size 23 np (capG g).toNat (capG g).toNat (nowL (capG g).toNat now)
section nv
variable {w0 w w' : World} {g : Geo} {b3 m : Nat} {bks : List (Nat × Nat)} {p : Option Addr} {c : Nat} {pr : Option Addr} {cr : Nat} {xs : List RD} {np : Option Addr} {s : SS} {now : Int → Sec}
theorem NvI.keep0 (h : NvI w0 w g b3 m bks p c pr cr xs np s now) (k : Keep (fun _ => False) w w') : NvI w0 w' g b3 m bks p c pr cr xs np s now :=
  ⟨h.st.keep0 k, h.rg.keep0 k, k.has h.lw (by simp), h.row.keep k (by simp)⟩
theorem NvI.rowOff (h : NvI w0 w g b3 m bks p c pr cr xs np s now) : ∀ k, np = some ⟨k, 0, none⟩ → ¬ SFoot ⟨m, g, bks⟩ k := fun k hk hi => by
  rcases Own.cases h.row with ⟨h0, _⟩ | ⟨b', cur, h0, _, hg', _⟩
  · rw [h0] at hk; cases hk
  · rw [h0] at hk; cases hk
    exact h.st.set.typ hg' (by decide) (by decide) (by decide) hi
end nv
theorem never_walkR {a b c : Int} {op : Option Addr} {ol oc : Nat} {os : List Op9} {w : World} {R : Value → World → Prop} (ha : 0 ≤ a ∧ a ≤ 255) (hb : 0 ≤ b ∧ b ≤ 255) (hc : 0 ≤ c ∧ c ≤ 255) (hos : SlL opLay w op ol os) (hok : ∀ o ∈ os, OpOk9 o) (hol : ol ≤ 100000000) (hK : ∀ w', Keep (fun _ => False) w w' → R (.bool true) w') :
    CallV Try.prog 8 #[.int .u8 a, .int .u8 b, .int .u8 c, .slice op ol oc] w R := by
  apply C_Never9
  unfold F_Never9
  refine open9 (R := R) (K := fun b1 b2 n w => _) ha hb hc fun b2 b3 m bks p cc pr cr xs0 w1 hS1 hO1 k1 => ?_
  have hg := smallG_ok (a := a) (b := b) (c := c)
  generalize smallG a b c = g at *
  have hdd := hg.d
  have hsz := hg.size
  have hcap := hg.cap
  have hcapE : capG g = (g.d - 2) * g.c * g.s := rfl
  rw [← hcapE] at hcap
  have hn : capG g = (((capG g).toNat : Nat) : Int) := by omega
  obtain ⟨w2, hr2, o2, k2, z2⟩ := run_mks w1 (n := (capG g).toNat) (by omega)
  rw [← hn] at hr2
  refine ⟨_, _, hr2, OpS_slice.2 ?_⟩
  have z1 := k1.size
  have o2' : OwnL secLay w2 w.heap.size 23 (some ⟨w1.heap.size, 0, none⟩) (capG g).toNat (capG g).toNat (nowL (capG g).toNat now0) := by
    rw [nowL_zero] at o2
    exact o2.rebase z1
  have hfoot : ∀ i, SFoot ⟨m, g, bks⟩ i → w.heap.size ≤ i := fun i hi => hO1.foot hi
  have hb3 := hO1.b3
  have hN2 : NvI w w2 g b3 m bks p cc pr cr (xs0.map (rdOf (g.c * g.s).toNat)) (some ⟨w1.heap.size, 0, none⟩) (newS g pw0) now0 :=
    ⟨⟨hS1.keep0 k2, hO1.row.keep k2 (by simp), newS_ok hg pw0, lit0, fun i => by rw [newS_key]; omega, newS_inv hg pw0, now0_ok⟩, hO1.rset.rg.keep0 k2, k2.has hO1.lw (by simp), o2'⟩
  have k02 := k1.trans k2
  generalize (some (⟨w1.heap.size, 0, none⟩ : Addr)) = np at *
  generalize xs0.map (rdOf (g.c * g.s).toNat) = xs at *
  clear hO1 hS1 o2 o2' hr2
  refine LoopC_of (σ := Int × Unit) (fun st w' => ∃ (i : Nat) (pr : Option Addr) (cr : Nat) (xs : List RD) (s : SS) (now : Int → Sec), st.1 = (i : Int) ∧ i ≤ ol ∧ NvI w w' g b3 m bks p cc pr cr xs np s now ∧ Keep (fun _ => False) w w') (fun st _ => ((ol : Int) - st.1).toNat)
    ⟨0, pr, cr, xs, _, _, rfl, by omega, hN2, k02⟩ ?_
  rintro _ ⟨i, u⟩ w3 ⟨i', pr, cr, xs, s, now, hi, hil, hN3, k3⟩
  simp only at hi ⊢
  subst hi
  refine Cb_of (fun hcc => ?_) (fun hcc => ?_)
  · have hcc : i' < ol := by
      have : (i' : Int) < (ol : Int) := by simpa using hcc
      omega
    have ek : IntKind.wrap .i64 ((i' : Int) + 1) = ((i' + 1 : Nat) : Int) := by rw [wrapI (by omega) (by omega)]; omega
    have hless : ((ol : Int) - IntKind.wrap .i64 ((i' : Int) + 1)).toNat < ((ol : Int) - (i' : Int)).toNat := by rw [ek]; omega
    have hlen := hos.1
    obtain ⟨o, ho⟩ : ∃ o, os[i']? = some o := ⟨_, List.getElem?_eq_getElem (by omega)⟩
    have hoo := hok o (List.mem_of_getElem? ho)
    refine (hos.keepB k3 (by simp)).ldA (i := (i' : Int)) (n := 21) (x := o) rfl (by omega) (by rw [Int.toNat_natCast]; exact ho) ?_
    rw [op_row]
    refine copy_of zc_op rfl (one_opV _) fun w4 hb4 k4 z4 => ?_
    have hN4 := hN3.keep0 k4
    have k04 := k3.trans k4
    generalize w3.heap.size = b4 at *
    have next : ∀ (w5 : World) pr cr xs s now, NvI w w5 g b3 m bks p cc pr cr xs np s now → Keep (fun _ => False) w w5 → ∃ m_1, m_1 < ((ol : Int) - (i' : Int)).toNat ∧ (∃ (i : Nat) (pr : Option Addr) (cr : Nat) (xs : List RD) (s : SS) (now : Int → Sec), IntKind.wrap .i64 ((i' : Int) + 1) = (i : Int) ∧ i ≤ ol ∧ NvI w w5 g b3 m bks p cc pr cr xs np s now ∧ Keep (fun _ => False) w w5) ∧ ((ol : Int) - IntKind.wrap .i64 ((i' : Int) + 1)).toNat = m_1 := fun w5 pr cr xs s now h k => ⟨_, hless, ⟨i' + 1, pr, cr, xs, s, now, ek, by omega, h, k⟩, rfl⟩
    refine LdV_has (v := .int .i64 o.kind) hb4 rfl (OpI_int.2 ?_)
    refine Cb_of (fun _ => ?_) (fun _ => ?_)
    · refine LdA_has (cs := setV g p g.d.toNat cc) hN4.lw (by show 0 + 4 ≤ 12; decide) (lw_set9 _ _ _ _ _ _) ?_
      refine LdV_has (v := .int .i64 o.a) hb4 rfl (OpI_int.2 ?_)
      refine LdA_has (cs := secV o.data) hb4 (by show 4 + 16 ≤ 21; decide) (op_dat o) ?_
      by_cases hin : 0 ≤ o.a ∧ o.a < capG g
      · have hl1 : o.a < (g.d - 2) * g.c * g.s := hin.2
        by_cases hlost : lostN (colsS g s (spotP g o.a).1 (spotP g o.a).2.2) ≤ 2
        · refine hN4.st.plan hin.1 hl1 hoo.1 hlost fun p' n' c' w5 hpn hp3 op k5 => T2_mk.2 (OpS_slice.2 (OpI_int.2 ((Cb_true (q := _)).2 ?_)))
          have hN5 := hN4.keep0 k5
          have hb5 := k5.has hb4 (by simp)
          refine LdV_has (v := .int .i64 o.a) hb5 rfl (OpI_int.2 ?_)
          rw [decide_eq_false (show ¬ o.a < 0 by omega)]
          refine (Cb_false (p := _)).2 ?_
          refine LdV_has (v := .int .i64 o.a) hb5 rfl (OpI_int.2 ?_)
          refine Cb_of (fun e => absurd (show o.a ≥ capG g by simpa using e) (by omega)) (fun _ => ?_)
          refine LdA_has (cs := setV g p g.d.toNat cc) hN5.lw (by show 0 + 4 ≤ 12; decide) (lw_set9 _ _ _ _ _ _) ?_
          refine hN5.st.apply hin.1 hl1 hoo.1 hlost hp3 op fun w6 s6 _ hw hT6 k6 => OpI_int.2 ((Cb_false (p := _)).2 ((Cb_true (q := _)).2 ?_))
          have hb6 := k6.has hb5 (hN5.st.set.typ hb5 (by decide) (by decide) (by decide))
          refine LdV_has (v := .int .i64 o.a) hb6 rfl (OpI_int.2 ?_)
          refine LdA_has (cs := secV o.data) hb6 (by show 4 + 16 ≤ 21; decide) (op_dat o) ?_
          have hr6 := hN5.row.keep k6 hN5.rowOff
          have hlw6 := k6.has hN5.lw (hN5.st.set.typ hN5.lw (by decide) (by decide) (by decide))
          have hrg6 := hN5.rg.keep k6 fun b cs t hb ht => by
            rcases ht with rfl | rfl | rfl <;> exact hN5.st.set.typ hb (by decide) (by decide) (by decide)
          have k06 : Keep (fun _ => False) w w6 := (k04.trans k5).trans' k6 fun i hi e => by have := hfoot i e; omega
          refine hr6.stA (i := o.a) (n := 16) rfl hin.1 (by omega) o.data (by show secV o.data = ((secV o.data).toList).toArray; simp) fun w7 o7 k7 z7 => ?_
          rw [nowL_set, show ((o.a.toNat : Nat) : Int) = o.a by omega] at o7
          have low := own_lowR hr6
          refine next w7 pr cr xs s6 (upd now o.a o.data) ⟨hT6.keep k7 (fun b hb e => ?_) (fun b hb he => OwnL.ne hT6.disks hr6 (by decide) hb he), hrg6.keep k7 (fun b cs t hb ht => ?_), k7.has hlw6 (OwnL.neH hr6 hlw6 (by decide)), o7⟩ (k06.trans' k7 fun i hi e => by have := low i e; omega)
          · rcases Own.cases hr6 with ⟨h0, _⟩ | ⟨b', cur, h0, _, hg', _⟩
            · rw [h0] at e; cases e
            · rw [h0] at e; cases e
              exact hT6.set.typ hg' (by decide) (by decide) (by decide) hb
          · rcases ht with rfl | rfl | rfl <;> exact OwnL.neH hr6 hb (by decide)
        · refine st_Plan hN4.st.set hN4.st.disks.sl hN4.st.disks.cap.1 hN4.st.ss.ok hin.1 hl1 hoo.1 fun p' c' w5 op k5 => ?_
          have he : planS (SB.mk m g bks).g s o.a o.data = ([], 8) := by
            show planS g s o.a o.data = ([], 8)
            unfold planS
            rw [if_neg (by rw [hN4.st.lit.1]; decide), if_neg hlost]
          rw [he]
          refine T2_mk.2 (OpS_slice.2 (OpI_int.2 ((Cb_false (p := _)).2 ((Cb_false (p := _)).2 ?_))))
          exact next w5 pr cr xs s now (hN4.keep0 k5) (k04.trans k5)
      · refine st_PlanN hN4.st.set hN4.st.disks hin fun w5 k5 => T2_mk.2 (OpS_slice.2 (OpI_int.2 ((Cb_false (p := _)).2 ((Cb_false (p := _)).2 ?_))))
        exact next w5 pr cr xs s now (hN4.keep0 k5) (k04.trans k5)
    · have hitted : o.kind = 4 ∨ o.kind = 6 → LdA 12 b3 0 (At w4) fun cs10 => LdA 21 b4 0 (At w4) fun cs11 => CallV Try.prog 34 #[.agg cs10, .agg cs11] w4 fun v19 w_1 => T2 v19 fun v20 v21 => OpA 12 v20 fun cs12 => OpB v21 fun g2 => StA 12 b3 0 cs12 w_1 fun w_1 => ∃ m_1, m_1 < ((ol : Int) - (i' : Int)).toNat ∧ (∃ (i : Nat) (pr : Option Addr) (cr : Nat) (xs : List RD) (s : SS) (now : Int → Sec), IntKind.wrap .i64 ((i' : Int) + 1) = (i : Int) ∧ i ≤ ol ∧ NvI w w_1 g b3 m bks p cc pr cr xs np s now ∧ Keep (fun _ => False) w w_1) ∧ ((ol : Int) - IntKind.wrap .i64 ((i' : Int) + 1)).toNat = m_1 := by
        intro hk
        refine LdA_all hN4.lw rfl ?_
        refine LdA_all hb4 rfl ?_
        refine w_hit hN4.st.set hN4.st.disks hN4.rg (by omega) hN4.st.ss hk fun pr' cr' xs' s' w5 hS5 hR5 hok5 hpw hkey hinv k5 => T2_mk.2 (OpA_agg.2 ⟨rfl, OpB_bool.2 ?_⟩)
        have hlw5 := k5.has hN4.lw (hN4.st.set.typ hN4.lw (by decide) (by decide) (by decide))
        have hr5 := hN4.row.keep k5 hN4.rowOff
        have hd5 := hN4.st.disks' k5
        have k05 : Keep (fun _ => False) w w5 := k04.trans' k5 fun i hi e => by have := hfoot i e; omega
        refine StA_all hlw5 rfl rfl (one_lwV _ _ _ _ _ _) ?_
        have ku := Keep.one w5 b3 (.cells (lwV g p cc pr' cr' m) 37 (0, 0))
        have hT5 : StI w5 w.heap.size g m bks p cc s' now := ⟨hS5, hd5, hok5, by rw [hpw]; exact hN4.st.lit, fun i => by rw [hkey]; exact hN4.st.key i, hinv now hN4.st.inv, hN4.st.nok⟩
        refine next _ pr' cr' xs' s' now ⟨hT5.keep ku (fun b hb e => by rw [e] at hb; exact hS5.typ hlw5 (by decide) (by decide) (by decide) hb) (fun b hb e => OwnL.neH hd5 hlw5 (by decide) (by rw [hb, e])), hR5.keep ku (fun b cs t hb ht e => ?_), hlw5.upd_same _, hr5.keep ku fun k hk e => OwnL.neH hr5 hlw5 (by decide) (by rw [hk, e])⟩ (k05.trans' ku fun i hi e => by omega)
        refine hb.ne hlw5 ?_ e
        rcases ht with rfl | rfl | rfl <;> (simp only [ne_eq, Obj.cells.injEq]; intro e; exact absurd e.2.1 (by decide))
      refine Cb_of (fun e4 => ?_) (fun e4 => ?_)
      · have h4 : o.kind = 4 := by simpa using e4
        exact Cb_of (fun _ => hitted (Or.inl h4)) (fun _ => next w4 pr cr xs s now hN4 k04)
      · refine Cb_of (fun e6 => ?_) (fun _ => next w4 pr cr xs s now hN4 k04)
        have h6 : o.kind = 6 := by simpa using e6
        exact hitted (Or.inr h6)
  · clear hcc
    refine LoopC_of (σ := Int × Unit) (fun st w' => ∃ i : Nat, st.1 = (i : Int) ∧ (i : Int) ≤ capG g ∧ NvI w w' g b3 m bks p cc pr cr xs np s now ∧ Keep (fun _ => False) w w') (fun st _ => (capG g - st.1).toNat) ⟨0, rfl, by omega, hN3, k3⟩ ?_
    rintro _ ⟨j, u⟩ w4 ⟨j', hj, hjl, hN4, k4⟩
    simp only at hj ⊢
    subst hj
    refine Cb_of (fun hcc => ?_) (fun hcc => ?_)
    · have hc : (j' : Int) < capG g := by simpa using hcc
      have ek : IntKind.wrap .i64 ((j' : Int) + 1) = ((j' + 1 : Nat) : Int) := by rw [wrapI (by omega) (by omega)]; omega
      have hl1 : (j' : Int) < (g.d - 2) * g.c * g.s := hc
      obtain ⟨pst, pco, pof⟩ := spotP_ok hg (show 0 ≤ (j' : Int) by omega) hl1
      refine LdA_has (cs := setV g p g.d.toNat cc) hN4.lw (by show 0 + 4 ≤ 12; decide) (lw_set9 _ _ _ _ _ _) ?_
      refine hN4.st.read (show 0 ≤ (j' : Int) by omega) hl1 fun w5 k5 => ?_
      have hcase : readS g s (j' : Int) = (now (j' : Int), 0) ∨ readS g s (j' : Int) = (sec [], 8) := by
        rcases hN4.st.inv.read hg hN4.st.nok hN4.st.lit.1 (show 0 ≤ (j' : Int) by omega) hl1 with e | ⟨e, _⟩
        · exact Or.inl e
        · exact Or.inr e
      rcases hcase with e | e
      · rw [e]
        refine T2_mk.2 (OpA_agg.2 ⟨rfl, OpI_int.2 ?_⟩)
        refine copy_of (by rw [zc_sec]; rfl) rfl (one_secV _) fun w6 hb6 k6 z6 => ?_
        refine ⟨by trivial, by trivial, (Cb_false (p := _)).2 ((Cb_true (q := _)).2 ?_)⟩
        refine LdA_all hb6 rfl ?_
        have k56 := k5.trans k6
        refine (hN4.row.keep k56 (by simp)).sl.ldA (i := (j' : Int)) (n := 16) (x := now (j' : Int)) rfl (by omega) (by rw [Int.toNat_natCast]; exact nowL_at (by omega) now) ?_
        have e16 : (secLay.row (now (j' : Int))).toArray = secV (now (j' : Int)) := by show ((secV (now (j' : Int))).toList).toArray = _; simp
        rw [e16]
        refine EqB_sec_ne (hN4.st.nok _) (hN4.st.nok _) fun r hr => ?_
        have hr0 : r = false := by
          cases r with
          | false => rfl
          | true => exact absurd rfl (hr.1 rfl)
        rw [hr0]
        intro d
        refine (Cb_false (p := _)).2 ?_
        have k5d := k56.dr d
        exact ⟨_, by show (capG g - IntKind.wrap .i64 ((j' : Int) + 1)).toNat < (capG g - (j' : Int)).toNat; rw [ek]; omega, ⟨j' + 1, ek, by omega, hN4.keep0 k5d, k4.trans k5d⟩, rfl⟩
      · rw [e]
        refine T2_mk.2 (OpA_agg.2 ⟨rfl, OpI_int.2 ?_⟩)
        refine copy_of (by rw [zc_sec]; rfl) rfl (one_secV _) fun w6 hb6 k6 z6 => ?_
        refine ⟨by trivial, by trivial, (Cb_false (p := _)).2 ((Cb_false (p := _)).2 ?_)⟩
        intro d
        have k5d := (k5.trans k6).dr d
        exact ⟨_, by show (capG g - IntKind.wrap .i64 ((j' : Int) + 1)).toNat < (capG g - (j' : Int)).toNat; rw [ek]; omega, ⟨j' + 1, ek, by omega, hN4.keep0 k5d, k4.trans k5d⟩, rfl⟩
    · exact Ret_nil.2 (hK _ k4)
theorem never_walk {a b c : Int} {op : Option Addr} {ol oc : Nat} {os : List Op9} {w : World} (ha : 0 ≤ a ∧ a ≤ 255) (hb : 0 ≤ b ∧ b ≤ 255) (hc : 0 ≤ c ∧ c ≤ 255) (hos : SlL opLay w op ol os) (hok : ∀ o ∈ os, OpOk9 o) (hol : ol ≤ 100000000) :
    CallV Try.prog 8 #[.int .u8 a, .int .u8 b, .int .u8 c, .slice op ol oc] w fun v w' => v = .bool true ∧ Below w.heap.size w w' :=
  never_walkR ha hb hc hos hok hol fun w' k => ⟨rfl, k.below⟩
end Go.Proofs
