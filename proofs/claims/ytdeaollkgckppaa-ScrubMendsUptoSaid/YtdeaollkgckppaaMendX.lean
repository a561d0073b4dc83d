/-
  ScrubMends, the walk.
-/
import Derived.Test.YtdeaollkgckppaaTurnM
import Derived.Test.YtdeaollkgckppaaStillX
import Derived.Test.YtdeaollkgckppaaTwoM
import Derived.Test.YtdeaollkgckppaaFMends
import Derived.Test.YtdeaollkgckppaaArgs9
namespace Go.Proofs
open Go Go.Ev Go.RowKit
set_option linter.unusedSimpArgs false
set_option linter.unusedVariables false
set_option maxRecDepth 100000

def hwLay : Lay Int := ⟨1, fun y => [.int .u16 y], fun _ => rfl, fun y v hv => by rw [List.mem_singleton.1 hv]; rfl, by decide⟩

def Hw (xs : List Int) : Prop := ∀ x ∈ xs, 0 ≤ x ∧ x ≤ 65535
theorem hw_of {cs : List Value} (h : Fits [.int .u16] cs) : ∃ y : Int, cs = hwLay.row y ∧ (0 ≤ y ∧ y ≤ 65535) := by
  obtain ⟨_, _, rfl, ⟨a, rfl, a1, a2⟩, h1⟩ := fits_cons h
  cases fits_nil h1
  exact ⟨a, rfl, a1, a2⟩
theorem hws_list {W : World} {xp : Option Addr} {l : Nat} {g : Nat → List Value} (h : Sl W 1 xp l g) (hf : ∀ i, i < l → Fits [.int .u16] (g i)) : ∃ ys : List Int, SlL hwLay W xp l ys ∧ Hw ys := slL_ex h rfl hf fun cs hc => hw_of hc
theorem run_mkn (w : World) {n : Nat} (hn : n ≤ 20000) : ∃ w', (Instr.makeSlice 68 (.int .i64 (n : Int)) (.int .i64 (n : Int))).run Try.prog w = .ok (.slice (some ⟨w.heap.size, 0, none⟩) n n) w' ∧ OwnL nLay w' w.heap.size 3 (some ⟨w.heap.size, 0, none⟩) n n (List.replicate n 0) ∧ Keep (fun _ => False) w w' ∧ w'.heap.size = w.heap.size + 1 :=
  run_makeL (P := Try.prog) (L := nLay) (x0 := 0) (t := 68) (e := 3) (i := (Try.prog.info? 3).get (by kernel_rfl)) (z := ((Try.prog.info? 3).get (by kernel_rfl)).zero.get (by kernel_rfl)) w (by kernel_rfl) (by kernel_rfl) (by kernel_rfl) (by kernel_rfl) (by kernel_rfl) n
    (by show n * 1 ≤ _; omega) (by have : ((Try.prog.info? 3).get (by kernel_rfl)).bytes = 8 := by kernel_rfl
                                   rw [this]; omega) (by simp only [maxLen]; omega)
theorem bld_secx (x : Int) (w : World) : (Instr.build 23 #[(0, .int .u8 x)]).run Try.prog w = .ok (.agg (secV (sec [x]))) w := run_build _ _ _ _ (by kernel_rfl)
/-- how often each place is hit -/
def badL (n : Nat) (H : Int → List Int) : List Int := (List.range n).map fun (k : Nat) => ((H (k : Int)).length : Int)
theorem len_badL (n : Nat) (H : Int → List Int) : (badL n H).length = n := by simp [badL]
theorem badL_at {n k : Nat} (h : k < n) (H : Int → List Int) : (badL n H)[k]? = some ((H (k : Int)).length : Int) := by
  unfold badL
  rw [List.getElem?_map, List.getElem?_range h]; rfl
theorem badL_zero (n : Nat) : List.replicate n (0 : Int) = badL n fun _ => [] := by
  apply List.ext_getElem?
  intro i
  by_cases hi : i < n
  · rw [badL_at hi, List.getElem?_replicate, if_pos hi]; rfl
  · rw [List.getElem?_eq_none (by simp; omega), List.getElem?_eq_none (by rw [len_badL]; omega)]
theorem badL_set {n k : Nat} (H : Int → List Int) (i : Int) : (badL n H).set k (((H (k : Int)).length : Int) + 1) = badL n fun x => if x = (k : Int) then i :: H (k : Int) else H x := by
  apply List.ext_getElem?
  intro j
  by_cases hj : j < n
  · rw [badL_at hj]
    by_cases e : k = j
    · subst e
      rw [List.getElem?_set_self (by rw [len_badL]; exact hj), if_pos rfl]
      simp
    · rw [List.getElem?_set_ne e, badL_at hj, if_neg (fun h => e (by omega))]
  · rw [List.getElem?_eq_none (by rw [List.length_set, len_badL]; omega), List.getElem?_eq_none (by rw [len_badL]; omega)]
theorem sl_ldC {α : Type} {L : Lay α} {w : World} {p : Option Addr} {l : Nat} {xs : List α} (h : SlL L w p l xs) {C : World → Prop} (hC : ∀ w', C w' → SlL L w' p l xs) {i : Int} {x : α} {n : Nat} {v : Value} (hn : L.size = n) (h0 : 0 ≤ i) (hi : xs[i.toNat]? = some x) (hv : (L.row x)[0]? = some v) {K : Value → Prop} (hK : K v) :
    IdxS p l i n fun b o => LdV b o C K := by
  subst hn
  obtain ⟨b, o, rfl, hc⟩ := h.2 _ x hi
  have hlt := (List.getElem?_eq_some_iff.1 hi).1
  refine ⟨b, o, rfl, h0, by have := h.1; omega, v, fun w' hw => ?_, hK⟩
  obtain ⟨b', o', e, hc'⟩ := (hC w' hw).2 _ x hi
  cases e
  have := hc' 0 L.pos
  rw [hv] at this
  exact this
/-- the reads at the end, as they are printed -/
def ReadsM (b3 : Nat) (p : Option Addr) (l : Nat) (n : Int) (w : World) (R : Value → World → Prop) : Prop :=
  LoopC (σ := Int × Unit) (fun _ s7 w K7 => Cb (decide (s7.1 < n)) (LdA 4 b3 0 (At w) fun cs12 => CallV Try.prog 25 #[.agg cs12,
  .int .i64 s7.1] w fun v54 w => T2 v54 fun v55 v56 => OpA 16 v55 fun cs13 => OpI .i64 v56 fun n21 => Alc 23 (zc Try.prog 23) w fun b20 w => StA 16 b20 0 cs13 w fun w => Cb
  (n21 != 0) (Drw w fun w => Ret [] (R (.bool false) w)) (LdA 16 b20 0 (At w) fun cs14 => IdxS p l s7.1 16 fun b21 o15 => LdA 16 b21 o15 (At w) fun cs15 => EqB Try.prog
  .neq 23 (.tmp 232) (.tmp 236) (.agg cs14 : Value) (.agg cs15 : Value) (At w) fun g1 => Drw w fun w => Cb g1 (Ret [] (R (.bool false) w)) (K7 (IntKind.wrap .i64 (s7.1 + 1),
  ()) w))) (Ret [] (R (.bool true) w))) (0, ()) w
theorem readsM {w0 w : World} {base : Nat} {g : Geo} {b2 b3 m : Nat} {bks : List (Nat × Nat)} {p : Option Addr} {c : Nat} {s : SS} {now : Int → Sec} {N : Int} {np : Option Addr} {nb nc : Nat} {R : Value → World → Prop} (h : GdI w base g m bks p c s now N) (hO : O16 w0 w g b2 b3 m bks p c) (hrow : OwnL secLay w nb 23 np (capG g).toNat nc (nowL (capG g).toNat now)) (hW : Whole g s)
    (hK : ∀ w', Keep (fun _ => False) w w' → R (.bool true) w') : ReadsM b3 np (capG g).toNat (capG g) w R := by
  unfold ReadsM
  have hg := h.good.ss.geo
  have hcap := hg.cap
  have hcapE : capG g = (g.d - 2) * g.c * g.s := rfl
  rw [← hcapE] at hcap
  refine LoopC_of (σ := Int × Unit) (fun st w' => ∃ i : Nat, st.1 = (i : Int) ∧ (i : Int) ≤ capG g ∧ Keep (fun _ => False) w w') (fun st _ => (capG g - st.1).toNat) ⟨0, rfl, by omega, Keep.refl _ _⟩ ?_
  rintro _ ⟨i, u⟩ w1 ⟨i', hi, hil, k1⟩
  simp only at hi ⊢
  subst hi
  refine Cb_of (fun hc => ?_) (fun hc => ?_)
  · have hc : (i' : Int) < capG g := by simpa using hc
    have ek : IntKind.wrap .i64 ((i' : Int) + 1) = ((i' + 1 : Nat) : Int) := by rw [wrapI (by omega) (by omega)]; omega
    have h1 := h.keep0 k1
    have hl1 : (i' : Int) < (g.d - 2) * g.c * g.s := hc
    obtain ⟨pst, pco, pof⟩ := spotP_ok hg (show 0 ≤ (i' : Int) by omega) hl1
    have hrd : readS g s (i' : Int) = (now (i' : Int), 0) := by
      rcases h.good.inv.read hg h.good.nok h.good.lit.1 (show 0 ≤ (i' : Int) by omega) hl1 with e | ⟨_, e, _⟩
      · exact e
      · exact absurd (by rw [hW.lost hg pst pof]; omega) e
    refine LdA_all (hO.keep0 k1).st rfl ?_
    refine h1.st.read (show 0 ≤ (i' : Int) by omega) hl1 fun w2 k2 => ?_
    rw [hrd]
    refine T2_mk.2 (OpA_agg.2 ⟨rfl, OpI_int.2 ?_⟩)
    refine copy_of (by rw [zc_sec]; rfl) rfl (one_secV _) fun w3 hb3 k3 z3 => ?_
    refine (Cb_false (p := _)).2 ?_
    refine LdA_all hb3 rfl ?_
    have k13 := (k1.trans k2).trans k3
    refine (hrow.keep k13 (by simp)).sl.ldA (i := (i' : Int)) (n := 16) (x := now (i' : Int)) rfl (by omega) (by rw [Int.toNat_natCast]; exact nowL_at (by omega) now) ?_
    have e16 : (secLay.row (now (i' : Int))).toArray = secV (now (i' : Int)) := by show ((secV (now (i' : Int))).toList).toArray = _; simp
    rw [e16]
    refine EqB_sec_ne (h.good.nok _) (h.good.nok _) fun r hr => ?_
    have hr0 : r = false := by
      cases r with
      | false => rfl
      | true => exact absurd rfl (hr.1 rfl)
    rw [hr0]
    intro d
    refine (Cb_false (p := _)).2 ?_
    exact ⟨_, by show (capG g - IntKind.wrap .i64 ((i' : Int) + 1)).toNat < (capG g - (i' : Int)).toNat; rw [ek]; omega, ⟨i' + 1, ek, by omega, k13.dr d⟩, rfl⟩
  · exact Ret_nil.2 (hK w1 k1)
/-- what a law holds on to while cells are hit -/
structure HtI (w : World) (base : Nat) (g : Geo) (m : Nat) (bks : List (Nat × Nat)) (p : Option Addr) (c : Nat) (s0 s : SS) (now : Int → Sec) (N : Int) (H : Int → List Int) : Prop where
  gd : GdI w base g m bks p c s now N
  g0 : Good g s0 now N
  whole : Whole g s0
  alive : ∀ i, deadS s0 i = false
  hit : HitS g s0 s H
  two : ∀ a, 0 ≤ a ∧ a < g.c * g.s → (H a).length ≤ 2
/-- a row of one's own and the set: apart -/
theorem row_offM {w : World} {g : Geo} {m : Nat} {bks : List (Nat × Nat)} {s : SS} (hS : SetAt w ⟨m, g, bks⟩ s) {nb : Nat} {np : Option Addr} {n nc : Nat} {rs : List Sec} (h : OwnL secLay w nb 23 np n nc rs) : ∀ k, np = some ⟨k, 0, none⟩ → ¬ SFoot ⟨m, g, bks⟩ k := fun k hk hi => by
  rcases Own.cases h with ⟨h0, _⟩ | ⟨b', cur, h0, _, hg', _⟩
  · rw [h0] at hk; cases hk
  · rw [h0] at hk; cases hk
    exact hS.typ hg' (by decide) (by decide) (by decide) hi
theorem row_offN {w : World} {g : Geo} {m : Nat} {bks : List (Nat × Nat)} {s : SS} (hS : SetAt w ⟨m, g, bks⟩ s) {nb : Nat} {np : Option Addr} {n nc : Nat} {rs : List Int} (h : OwnL nLay w nb 3 np n nc rs) : ∀ k, np = some ⟨k, 0, none⟩ → ¬ SFoot ⟨m, g, bks⟩ k := fun k hk hi => by
  rcases Own.cases h with ⟨h0, _⟩ | ⟨b', cur, h0, _, hg', _⟩
  · rw [h0] at hk; cases hk
  · rw [h0] at hk; cases hk
    exact hS.typ hg' (by decide) (by decide) (by decide) hi
section hit
variable {w w' : World} {base : Nat} {g : Geo} {m : Nat} {bks : List (Nat × Nat)} {p : Option Addr} {c : Nat} {s0 s : SS} {now : Int → Sec} {N : Int} {H : Int → List Int} {R : Value → World → Prop}
theorem HtI.keep0 (h : HtI w base g m bks p c s0 s now N H) (k : Keep (fun _ => False) w w') : HtI w' base g m bks p c s0 s now N H := ⟨h.gd.keep0 k, h.g0, h.whole, h.alive, h.hit, h.two⟩
theorem HtI.keep {S : Nat → Prop} (h : HtI w base g m bks p c s0 s now N H) (k : Keep S w w') (hS : ∀ b, SFoot ⟨m, g, bks⟩ b → ¬ S b) (hD : ∀ b, p = some ⟨b, 0, none⟩ → ¬ S b) : HtI w' base g m bks p c s0 s now N H := ⟨h.gd.keep k hS hD, h.g0, h.whole, h.alive, h.hit, h.two⟩
/-- a disk is another one: its cell at a is hit -/
theorem HtI.upd (h : HtI w base g m bks p c s0 s now N H) {i a : Int} (hi : 0 ≤ i ∧ i < g.d) (ha : 0 ≤ a ∧ a < g.c * g.s) (hlt : (H a).length ≤ 1) {b r : Nat} {D D' : Dsk} (hbk : bks[i.toNat]? = some (b, r)) (hD : s.ds.getD i.toNat dsk0 = D) (hd : DiskAt w' m b r D') (hnm : ¬ m = r) (k : Keep (fun k => k = r) w w')
    (h1 : D'.dead = D.dead) (h2 : D'.key = D.key) (h3 : D'.secs.length = D.secs.length) (h4 : ∀ b : Int, 0 ≤ b → b ≠ a → D'.secs.getD b.toNat sct0 = D.secs.getD b.toNat sct0)
    (h5 : ∃ (l : List Nat) (gd : Bool), D'.secs.getD a.toNat sct0 = ⟨⟨flips (D.secs.getD a.toNat sct0).cel.data l, (D.secs.getD a.toNat sct0).cel.sum⟩, gd⟩ ∧ (∀ b ∈ l, b < 128) ∧ l.length ≤ 1) :
    HtI w' base g m bks p c s0 ⟨s.ds.set i.toNat D', s.pw⟩ now N (fun x => if x = a then i :: H a else H x) ∧ Keep (SFoot ⟨m, g, bks⟩) w w' := by
  subst hD
  have kf : Keep (SFoot ⟨m, g, bks⟩) w w' := k.mono fun k hk => Or.inr (Or.inr (by rw [hk]; exact List.mem_map.2 ⟨(b, r), List.mem_of_getElem? hbk, rfl⟩))
  have hnum : (s.ds.length : Int) = g.d := h.gd.set.num
  have hlen : ((s.ds.getD i.toNat dsk0).secs.length : Int) = g.c * g.s := h.gd.good.ss.len _ (h.gd.good.ss.get hi.1 hi.2)
  have hm2 : MaAt w' m s.pw := k.has h.gd.set.main hnm
  have hS2 : SetAt w' ⟨m, g, bks⟩ ⟨s.ds.set i.toNat D', s.pw⟩ := h.gd.set.upd hbk (k.mono fun k hk => Or.inr (Or.inr hk)) hd (by rw [h3]; exact hlen) hm2
  have hh := h.hit.hit (i := i) (a := a) ⟨hi.1, by omega⟩ ha.1 h1 h2 h3 h4 h5
  have ht : ∀ x, 0 ≤ x ∧ x < g.c * g.s → (if x = a then i :: H a else H x).length ≤ 2 := fun x hx => by
    split
    · show (H a).length + 1 ≤ 2; omega
    · exact h.two x hx
  exact ⟨⟨⟨hS2, h.gd.st.disks' kf, (hh.good h.g0 h.whole h.alive ht).1⟩, h.g0, h.whole, h.alive, hh, ht⟩, kf⟩
theorem HtI.disk (h : HtI w base g m bks p c s0 s now N H) {i : Int} (hi : 0 ≤ i ∧ i < g.d) : ∃ b r D, bks[i.toNat]? = some (b, r) ∧ s.ds.getD i.toNat dsk0 = D ∧ DiskAt w m b r D ∧ (D.secs.length : Int) = g.c * g.s ∧ DskOk D ∧ D.dead = false ∧ ¬ m = r := by
  have hnum : (s.ds.length : Int) = g.d := h.gd.set.num
  obtain ⟨b, r, D, hbk, hD, hda, hdl⟩ := h.gd.set.get (i := i.toNat) (by omega)
  have hDg : s.ds.getD i.toNat dsk0 = D := by rw [List.getD_eq_getElem?_getD, hD]; rfl
  have hok := h.gd.good.ss.ok _ (h.gd.good.ss.get hi.1 hi.2)
  have hdd := (h.hit.good h.g0 h.whole h.alive h.two).2.1 i
  unfold deadS at hdd
  rw [hDg] at hok hdd
  exact ⟨b, r, D, hbk, hDg, hda, hdl, hok, hdd, fun e => (hda.nem h.gd.set.main).2 e.symm⟩
theorem HtI.hurtC (h : HtI w base g m bks p c s0 s now N H) {i a : Int} (hi : 0 ≤ i ∧ i < g.d) (ha : 0 ≤ a ∧ a < g.c * g.s) (hlt : (H a).length ≤ 1) (hK : ∀ w' s', HtI w' base g m bks p c s0 s' now N (fun x => if x = a then i :: H a else H x) → Keep (SFoot ⟨m, g, bks⟩) w w' → R (.int .i64 0) w') :
    IdxS p g.d.toNat i 1 fun b o => LdV b o (At w) fun v => OpN v fun b2 o2 => CallV Try.prog 26 #[.pointer (some ⟨b2, o2, none⟩), .int .i64 a] w R := by
  obtain ⟨b, r, D, hbk, hDg, hda, hdl, hok, hdd, hnm⟩ := h.disk hi
  refine h.gd.disks.sl.ld0 (i := i) (n := 1) (x := b) (v := .pointer (some ⟨b, 0, none⟩)) rfl hi.1 (by rw [List.getElem?_map, hbk]; rfl) rfl (OpN_some.2 ?_)
  refine d_HurtE hda (by rw [hdl]; exact ha) hdd fun w2 hd2 k2 => ?_
  have he : hurtD D a = { D with secs := D.secs.set a.toNat { D.secs.getD a.toNat sct0 with good := false } } := by
    unfold hurtD
    rw [if_pos (by omega), if_neg (by rw [hdd]; decide)]
  have hu := h.upd hi ha hlt hbk hDg hd2 hnm k2 (hurtD_dead _ _) (hurtD_key _ _) (hurtD_len _ _) (fun b h0 hne => by
      rw [he]
      show (D.secs.set a.toNat _).getD b.toNat sct0 = _
      rw [getD_setS (by omega), if_neg (by omega)]) ⟨[], false, by
      rw [he]
      show (D.secs.set a.toNat _).getD a.toNat sct0 = _
      rw [getD_setS (by omega), if_pos rfl]
      rfl, by simp, by simp⟩
  exact hK w2 _ hu.1 hu.2
theorem HtI.turnC (h : HtI w base g m bks p c s0 s now N H) {i a : Int} (hi : 0 ≤ i ∧ i < g.d) (ha : 0 ≤ a ∧ a < g.c * g.s) (hlt : (H a).length ≤ 1) {bit : Nat} (hbit : bit < 128) :
    ∃ b, (∀ (R : Value → World → Prop), (∀ w' s' e, HtI w' base g m bks p c s0 s' now N (fun x => if x = a then i :: H a else H x) → Keep (SFoot ⟨m, g, bks⟩) w w' → R (.int .i64 e) w') → CallV Try.prog 37 #[.pointer (some ⟨b, 0, none⟩), .int .i64 a, .int .i64 (bit : Int)] w R) ∧ (bks.map Prod.fst)[i.toNat]? = some b := by
  obtain ⟨b, r, D, hbk, hDg, hda, hdl, hok, hdd, hnm⟩ := h.disk hi
  refine ⟨b, fun R hK => ?_, by rw [List.getElem?_map, hbk]; rfl⟩
  refine d_Turn hda hok (by rw [hdl]; exact ha) hdd hbit fun e w2 hd2 k2 => ?_
  have hother : ∀ b : Int, 0 ≤ b → b ≠ a → (turnD D a bit).secs.getD b.toNat sct0 = D.secs.getD b.toNat sct0 := fun b h0 hne => by
    unfold turnD
    split
    · rfl
    · show (D.secs.set a.toNat _).getD b.toNat sct0 = _
      rw [getD_setS (by omega), if_neg (by omega)]
  have hu := h.upd hi ha hlt hbk hDg hd2 hnm k2 (turnD_dead _ _ _) (turnD_key _ _ _) (turnD_len _ _ _) hother (by
    unfold turnD
    split
    · exact ⟨[], (D.secs.getD a.toNat sct0).good, rfl, by simp, by simp⟩
    · refine ⟨[bit], true, ?_, by simpa using hbit, by simp⟩
      show (D.secs.set a.toNat _).getD a.toNat sct0 = _
      rw [getD_setS (by omega), if_pos rfl]
      rfl)
  exact hK w2 _ e hu.1 hu.2
end hit
theorem ScrubS_step {k c a : Int} (h : a < (k + 1) * c) : a < k * c ∨ (k * c ≤ a ∧ a < k * c + c) := by
  have : (k + 1) * c = k * c + c := by rw [Int.add_mul, Int.one_mul]
  omega
theorem mend_walkR {a b c : Int} {lp hp : Option Addr} {ll lc hl hc' : Nat} {ls hs : List Int} {w : World} {R : Value → World → Prop} (ha : 0 ≤ a ∧ a ≤ 255) (hb : 0 ≤ b ∧ b ≤ 255) (hc : 0 ≤ c ∧ c ≤ 255) (hls : SlL byLay w lp ll ls) (hby : By ls) (hhs : SlL hwLay w hp hl hs) (hhw : Hw hs) (hhl : hl ≤ 100000000) (hK : ∀ w', Keep (fun _ => False) w w' → R (.bool true) w') :
    CallV Try.prog 9 #[.int .u8 a, .int .u8 b, .int .u8 c, .slice lp ll lc, .slice hp hl hc'] w R := by
  apply C_ravelinlaw16_ScrubMends
  unfold F_ravelinlaw16_ScrubMends
  refine w_small16 ha hb hc fun w1 k1 => OpA_agg.2 ⟨rfl, ?_⟩
  have hg := smallG16_ok (a := a) (b := b) (c := c)
  generalize smallG16 a b c = g at *
  refine copy_of (by kernel_rfl) rfl (one_geoV _) fun w2 hb2 k2 z2 => ?_
  refine mk16 hg hb2 fun m b4 bks p cc w3 hG3 hO3 k3 => ?_
  refine ⟨by trivial, by trivial, (Cb_false (p := _)).2 ?_⟩
  have hdd := hg.d
  have hcc := hg.c
  have hss := hg.s
  have hsz := hg.size
  have hcap := hg.cap
  have hcapE : capG g = (g.d - 2) * g.c * g.s := rfl
  rw [← hcapE] at hcap
  have hn : capG g = (((capG g).toNat : Nat) : Int) := by omega
  have hnz : g.c * g.s = (((g.c * g.s).toNat : Nat) : Int) := by omega
  have k02 := k1.trans k2
  have z02 := k02.size
  refine LdV_has (v := .slice p g.d.toNat cc) hO3.st rfl (OpS_slice.2 ?_)
  refine LdV_has (v := .int .i64 g.d) hO3.geo rfl (OpI_int.2 ?_)
  rw [show ((((g.d.toNat : Nat) : Int)) != g.d) = false by rw [show ((g.d.toNat : Nat) : Int) = g.d by omega]; simp]
  refine (Cb_false (p := _)).2 ?_
  refine LdA_all hO3.geo rfl ?_
  refine r3_Cap hg fun w5 k5 => T2_mk.2 (OpI_int.2 (OpI_int.2 ?_))
  have hG5 := hG3.keep0 k5
  have hO5 := hO3.keep0 k5
  refine LdV_has (v := .int .i64 g.c) hO5.geo rfl (OpI_int.2 ?_)
  refine LdV_has (v := .int .i64 g.s) hO5.geo rfl (OpI_int.2 ?_)
  obtain ⟨w6, hr6, o6, k6, z6⟩ := run_mks w5 (n := (capG g).toNat) (by omega)
  rw [← hn] at hr6
  refine ⟨_, _, hr6, OpS_slice.2 ?_⟩
  have k25 := k3.trans k5
  have z25 := k25.size
  have hG6 := hG5.keep0 k6
  have hO6 := hO5.keep0 k6
  have k06 := (k02.trans k25).trans k6
  rw [nowL_zero] at o6
  have hr6 : OwnL secLay w6 w2.heap.size 23 (some ⟨w5.heap.size, 0, none⟩) (capG g).toNat (capG g).toNat (nowL (capG g).toNat now0) := o6.rebase z25
  have hnpb : ∀ k, (some (⟨w5.heap.size, 0, none⟩ : Addr)) = some ⟨k, 0, none⟩ → w.heap.size ≤ k := fun k hk => by cases hk; omega
  generalize (some (⟨w5.heap.size, 0, none⟩ : Addr)) = np at *
  rw [wrapI (x := g.c * g.s) (by omega) (by omega)]
  -- the sectors are written
  refine LoopC_of (σ := Int × Unit) (fun st w' => ∃ (i : Nat) (s : SS) (now : Int → Sec), st.1 = (i : Int) ∧ i ≤ 30 ∧ GdI w' w2.heap.size g m bks p cc s now (3 * (i : Int)) ∧ Whole g s ∧ (∀ j, deadS s j = false) ∧ O16 w2 w' g w1.heap.size b4 m bks p cc ∧ OwnL secLay w' w2.heap.size 23 np (capG g).toNat (capG g).toNat (nowL (capG g).toNat now) ∧ Keep (fun _ => False) w w') (fun st _ => (30 - st.1).toNat)
    ⟨0, _, _, rfl, by omega, hG6, newS_whole hg pw0, newS_dead g pw0, hO6, hr6, k06⟩ ?_
  rintro _ ⟨i, u⟩ w7 ⟨i', s, now, hi, hil, hG7, hW7, hal7, hO7, hr7, k7⟩
  simp only at hi ⊢
  subst hi
  refine ⟨by trivial, by trivial, ?_⟩
  refine Cb_of (fun hcc => ?_) (fun hcc => ?_)
  · have hcc : i' < ll ∧ i' < 30 := by
      have hcc : cond (decide ((i' : Int) < (ll : Int))) (decide ((i' : Int) < 30)) false = true := hcc
      by_cases h : (i' : Int) < (ll : Int)
      · rw [decide_eq_true h] at hcc
        have : (i' : Int) < 30 := by simpa using hcc
        omega
      · rw [decide_eq_false h] at hcc
        cases hcc
    have ek : IntKind.wrap .i64 ((i' : Int) + 1) = ((i' + 1 : Nat) : Int) := by rw [wrapI (by omega) (by omega)]; omega
    have hlen := hls.1
    obtain ⟨y, hy⟩ : ∃ y, ls[i']? = some y := ⟨_, List.getElem?_eq_getElem (by omega)⟩
    have hyr := hby y (List.mem_of_getElem? hy)
    refine (hls.keepB k7 (by simp)).ld0 (i := (i' : Int)) (n := 1) (x := y) (v := .int .u8 y) rfl (by omega) (by rw [Int.toNat_natCast]; exact hy) rfl (OpI_int.2 ⟨by show capG g ≠ 0; omega, ?_⟩)
    refine LdA_all hO7.st rfl ?_
    have hm0 := Int.emod_nonneg y (show capG g ≠ 0 by omega)
    have hm1 := Int.emod_lt_of_pos y (show 0 < capG g by omega)
    rw [wrapI (x := (i' : Int) + 1) (by omega) (by omega), wrapU8 (by omega) (by omega), wrapI (x := y) (by omega) (by omega), Int.tmod_eq_emod_of_nonneg hyr.1]
    show DoQ _ (Instr.build 23 #[(0, .int .u8 ((i' : Int) + 1))]) _ _
    refine DoQ_of (fun _ => bld_secx _ _) (OpA_agg.2 ⟨rfl, ?_⟩)
    have hdat : SecOk (sec [(i' : Int) + 1]) := sec_ok (by intro z hz; simp only [List.mem_cons, List.not_mem_nil, or_false] at hz; rcases hz with rfl | rfl <;> omega)
    show CallV _ _ #[_, .int .i64 (y % capG g), _] _ _
    generalize hlb : y % capG g = lb at *
    have hl1 : lb < (g.d - 2) * g.c * g.s := hm1
    generalize hf : sec [(i' : Int) + 1] = f at *
    refine hG7.plan hW7 hm0 hl1 hdat fun pp' pn pc' w8 hp3 op k8 => T2_mk.2 (OpS_slice.2 (OpI_int.2 ?_))
    have hG8 := hG7.keep0 k8
    have hO8 := hO7.keep0 k8
    have hr8 := hr7.keep k8 (by simp)
    refine ⟨fun st' w' => st'.1 = false ∧ ∃ s9, GdI w' w2.heap.size g m bks p cc s9 (upd now lb f) (3 * (i' : Int) + 3) ∧ Whole g s9 ∧ (∀ j, deadS s9 j = false) ∧ O16 w2 w' g w1.heap.size b4 m bks p cc ∧ OwnL secLay w' w2.heap.size 23 np (capG g).toNat (capG g).toNat (nowL (capG g).toNat now) ∧ Keep (fun _ => False) w w', ?_, ?_⟩
    · refine (Cb_false (p := _)).2 ?_
      refine LdA_all hO8.st rfl ?_
      refine hG8.apply (by omega) hW7 hal7 hm0 hl1 hdat hp3 op fun w9 s9 hG9 hW9 hal9 hs9 k9 => OpI_int.2 ⟨rfl, s9, hG9, hW9, hal9, hO8.keep hG8.set k9, hr8.keep k9 (row_offM hG8.set hr8), (k7.trans k8).trans' k9 fun i hi e => by have := hO8.low i e; omega⟩
    · rintro _ ⟨b5, u⟩ w9 ⟨hb5, s9, hG9, hW9, hal9, hO9, hr9, k09⟩
      simp only at hb5 ⊢
      subst hb5
      refine (Cb_false (p := _)).2 ?_
      refine DoQ_of (fun _ => bld_secx _ _) (OpA_agg.2 ⟨rfl, ?_⟩)
      rw [hf]
      show IdxS _ _ (y % (capG g)) 16 _
      rw [hlb]
      refine hr9.stA (i := lb) (n := 16) rfl hm0 (by omega) f (by show secV f = ((secV f).toList).toArray; simp) fun w10 o10 k10 z10 => ?_
      rw [nowL_set, show ((lb.toNat : Nat) : Int) = lb by omega] at o10
      refine ⟨_, by show (30 - ((i' : Int) + 1)).toNat < (30 - (i' : Int)).toNat; omega, ⟨i' + 1, s9, _, by show (i' : Int) + 1 = ((i' + 1 : Nat) : Int); omega, by omega, ⟨hG9.set.keep k10 fun b hb e => row_offM hG9.set hr9 b e hb, hG9.disks.keep k10 fun b hb he => OwnL.ne hG9.disks hr9 (by decide) hb he, hG9.good.mono (by omega)⟩, hW9, hal9, ⟨k10.has hO9.geo (OwnL.neH hr9 hO9.geo (by decide)), k10.has hO9.st (OwnL.neH hr9 hO9.st (by decide)), hO9.low⟩, o10, k09.trans' k10 fun k hk hh => by have := hnpb k hh; omega⟩, rfl⟩
  · clear hcc
    obtain ⟨w8, hr8, o8, k8, z8⟩ := run_mkn w7 (n := (g.c * g.s).toNat) (by omega)
    rw [← hnz] at hr8
    refine ⟨_, _, hr8, OpS_slice.2 ?_⟩
    have z27 := k7.size
    have hlow7 : w2.heap.size ≤ w7.heap.size := by
      have := hO7.low m (Or.inl rfl)
      have hlt : m < w7.heap.size := hG7.set.main.lt
      omega
    rw [badL_zero] at o8
    have hbad8 : OwnL nLay w8 w2.heap.size 3 (some ⟨w7.heap.size, 0, none⟩) (g.c * g.s).toNat (g.c * g.s).toNat (badL (g.c * g.s).toNat fun _ => []) := o8.rebase hlow7
    have hbpb : ∀ k, (some (⟨w7.heap.size, 0, none⟩ : Addr)) = some ⟨k, 0, none⟩ → w.heap.size ≤ k := fun k hk => by cases hk; omega
    generalize (some (⟨w7.heap.size, 0, none⟩ : Addr)) = bp at *
    have hG8 := hG7.keep0 k8
    have hO8 := hO7.keep0 k8
    have hr8' := hr7.keep k8 (by simp)
    have k08 := k7.trans k8
    have hH8 : HtI w8 w2.heap.size g m bks p cc s s now 90 fun _ => [] := ⟨⟨hG8.set, hG8.disks, hG8.good.mono (by omega)⟩, hG8.good.mono (by omega), hW7, hal7, HitS.refl g s, fun _ _ => by simp⟩
    clear hG8 hG7 hr7 hO7 hG6 hO6 hr6 hG5 hO5 hG3 hO3 hr8
    -- cells are hit
    refine LoopC_of (σ := Int × Unit) (fun st w' => ∃ (i : Nat) (s2 : SS) (H : Int → List Int), st.1 = (i : Int) ∧ i ≤ hl ∧ HtI w' w2.heap.size g m bks p cc s s2 now 90 H ∧ O16 w2 w' g w1.heap.size b4 m bks p cc ∧ OwnL secLay w' w2.heap.size 23 np (capG g).toNat (capG g).toNat (nowL (capG g).toNat now) ∧ OwnL nLay w' w2.heap.size 3 bp (g.c * g.s).toNat (g.c * g.s).toNat (badL (g.c * g.s).toNat H) ∧ Keep (fun _ => False) w w') (fun st _ => ((hl : Int) - st.1).toNat)
      ⟨0, s, _, rfl, by omega, hH8, hO8, hr8', hbad8, k08⟩ ?_
    rintro _ ⟨j, u⟩ w9 ⟨j', s2, H, hj, hjl, hH9, hO9, hr9, hB9, k9⟩
    simp only at hj ⊢
    subst hj
    refine Cb_of (fun hcc => ?_) (fun hcc => ?_)
    · have hcc : j' < hl := by
        have : (j' : Int) < (hl : Int) := by simpa using hcc
        omega
      have ek : IntKind.wrap .i64 ((j' : Int) + 1) = ((j' + 1 : Nat) : Int) := by rw [wrapI (by omega) (by omega)]; omega
      have hlen := hhs.1
      obtain ⟨v, hv⟩ : ∃ v, hs[j']? = some v := ⟨_, List.getElem?_eq_getElem (by omega)⟩
      have hvr := hhw v (List.mem_of_getElem? hv)
      have hv' : hs[((j' : Int)).toNat]? = some v := by rw [Int.toNat_natCast]; exact hv
      refine (hhs.keepB k9 (by simp)).ld0 (i := (j' : Int)) (n := 1) (x := v) (v := .int .u16 v) rfl (by omega) hv' rfl (OpI_int.2 ⟨by omega, ?_⟩)
      refine (hhs.keepB k9 (by simp)).ld0 (i := (j' : Int)) (n := 1) (x := v) (v := .int .u16 v) rfl (by omega) hv' rfl (OpI_int.2 ⟨by decide, ?_⟩)
      refine LdV_has (v := .int .i64 g.d) hO9.geo rfl (OpI_int.2 ⟨by omega, ?_⟩)
      have e64 : IntKind.wrap .i64 (IntKind.wrap .u16 (Int.tdiv v 64)) = v / 64 := by
        rw [Int.tdiv_eq_ediv_of_nonneg hvr.1, wrapN (k := .u16) (show 0 ≤ v / 64 by omega) (by show v / 64 ≤ 65535; omega), wrapI (by omega) (by omega)]
      rw [e64, wrapI (x := v) (by omega) (by omega), Int.tmod_eq_emod_of_nonneg hvr.1, Int.tmod_eq_emod_of_nonneg (show 0 ≤ v / 64 by omega)]
      have hat := And.intro (Int.emod_nonneg v (show g.c * g.s ≠ 0 by omega)) (Int.emod_lt_of_pos v (show 0 < g.c * g.s by omega))
      have hdk := And.intro (Int.emod_nonneg (v / 64) (show g.d ≠ 0 by omega)) (Int.emod_lt_of_pos (v / 64) (show 0 < g.d by omega))
      generalize v % (g.c * g.s) = at_ at *
      generalize v / 64 % g.d = dk at *
      intro d1
      have k9d := k9.dr d1
      have hH10 := hH9.keep0 (Keep.drew _ w9 d1)
      have hO10 := hO9.keep0 (Keep.drew _ w9 d1)
      have hr10 := hr9.keep (Keep.drew (fun _ => False) w9 d1) (by simp)
      have hB10 := hB9.keep (Keep.drew (fun _ => False) w9 d1) (by simp)
      generalize w9.dr d1 = w10 at *
      have hbl : (badL (g.c * g.s).toNat H)[at_.toNat]? = some ((H at_).length : Int) := by
        rw [badL_at (by omega), show ((at_.toNat : Nat) : Int) = at_ by omega]
      have h2 := hH10.two at_ hat
      refine hB10.sl.ld0 (i := at_) (n := 1) (x := ((H at_).length : Int)) (v := .int .i64 ((H at_).length : Int)) rfl hat.1 hbl rfl (OpI_int.2 ?_)
      refine Cb_of (fun e2 => ?_) (fun e2 => ?_)
      · exact ⟨_, by show ((hl : Int) - IntKind.wrap .i64 ((j' : Int) + 1)).toNat < ((hl : Int) - (j' : Int)).toNat; rw [ek]; omega, ⟨j' + 1, s2, H, ek, by omega, hH10, hO10, hr10, hB10, k9d⟩, rfl⟩
      · have e2 : ¬ ((H at_).length : Int) = 2 := by simpa using e2
        have hlt : (H at_).length ≤ 1 := by omega
        refine hB10.sl.ld0 (i := at_) (n := 1) (x := ((H at_).length : Int)) (v := .int .i64 ((H at_).length : Int)) rfl hat.1 hbl rfl (OpI_int.2 ?_)
        rw [wrapI (x := ((H at_).length : Int) + 1) (by omega) (by omega)]
        refine hB10.stF (i := at_) (n := 1) (t := 0) (x := ((H at_).length : Int)) (y := ((H at_).length : Int) + 1) (v := .int .i64 (((H at_).length : Int) + 1)) rfl hat.1 hbl (by decide) rfl rfl fun w11 o11 k11 z11 => ?_
        have hbs := badL_set (n := (g.c * g.s).toNat) (k := at_.toNat) H dk
        rw [show ((at_.toNat : Nat) : Int) = at_ by omega] at hbs
        rw [hbs] at o11
        have hboff : ∀ k, bp = some ⟨k, 0, none⟩ → ¬ SFoot ⟨m, g, bks⟩ k := row_offN hH10.gd.set hB10
        have hH11 := hH10.keep k11 (fun b hb e => hboff b e hb) (fun b hb he => OwnL.ne hH10.gd.disks hB10 (by decide) hb he)
        have hO11 : O16 w2 w11 g w1.heap.size b4 m bks p cc := ⟨k11.has hO10.geo (OwnL.neH hB10 hO10.geo (by decide)), k11.has hO10.st (OwnL.neH hB10 hO10.st (by decide)), hO10.low⟩
        have hr11 := hr10.keep k11 fun b hb he => OwnL.ne hr10 hB10 (by decide) hb he
        have k011 : Keep (fun _ => False) w w11 := k9d.trans' k11 fun k hk hh => by have := hbpb k hh; omega
        have next : ∀ (w12 : World) (s12 : SS), HtI w12 w2.heap.size g m bks p cc s s12 now 90 (fun x => if x = at_ then dk :: H at_ else H x) → Keep (SFoot ⟨m, g, bks⟩) w11 w12 → ∃ (i : Nat) (s2 : SS) (H : Int → List Int), IntKind.wrap .i64 ((j' : Int) + 1) = (i : Int) ∧ i ≤ hl ∧ HtI w12 w2.heap.size g m bks p cc s s2 now 90 H ∧ O16 w2 w12 g w1.heap.size b4 m bks p cc ∧ OwnL secLay w12 w2.heap.size 23 np (capG g).toNat (capG g).toNat (nowL (capG g).toNat now) ∧ OwnL nLay w12 w2.heap.size 3 bp (g.c * g.s).toNat (g.c * g.s).toNat (badL (g.c * g.s).toNat H) ∧ Keep (fun _ => False) w w12 := fun w12 s12 h12 k12 =>
          ⟨j' + 1, s12, _, ek, by omega, h12, hO11.keep hH11.gd.set k12, hr11.keep k12 (row_offM hH11.gd.set hr11), o11.keep k12 (row_offN hH11.gd.set o11), k011.trans' k12 fun i hi e => by have := hO11.low i e; omega⟩
        have hless : ((hl : Int) - IntKind.wrap .i64 ((j' : Int) + 1)).toNat < ((hl : Int) - (j' : Int)).toNat := by rw [ek]; omega
        refine (hhs.keepB k011 (by simp)).ld0 (i := (j' : Int)) (n := 1) (x := v) (v := .int .u16 v) rfl (by omega) hv' rfl (OpI_int.2 ⟨by decide, ?_⟩)
        refine Cb_of (fun e3 => ?_) (fun e3 => ?_)
        · refine LdV_has (v := .slice p g.d.toNat cc) hO11.st rfl (OpS_slice.2 ?_)
          refine hH11.hurtC hdk hat hlt fun w12 s12 h12 k12 => OpI_int.2 ?_
          exact ⟨_, hless, next w12 s12 h12 k12, rfl⟩
        · intro d2
          have kd := Keep.drew (fun _ => False) w11 d2
          have hH12 := hH11.keep0 kd
          have hO12 := hO11.keep0 kd
          have k012 := k011.trans kd
          have hbit0 := Int.emod_nonneg v (show (128 : Int) ≠ 0 by decide)
          have hbit1 := Int.emod_lt_of_pos v (show (0 : Int) < 128 by decide)
          obtain ⟨bd, hcall, hbd⟩ := hH12.turnC hdk hat hlt (bit := (v % 128).toNat) (by omega)
          have kd' : ∀ {S : Nat → Prop} {w13 : World}, Keep S (w11.dr d2) w13 → Keep S w11 w13 := fun k => (kd.mono (fun _ h => h.elim)).trans k
          generalize w11.dr d2 = w12 at *
          refine ⟨fun w' => Has w' b4 (.cells (setV g p g.d.toNat cc) 29 (0, 0)) ∧ SlL hwLay w' hp hl hs, ⟨hO12.st, hhs.keepB k012 (by simp)⟩, ?_⟩
          refine LdV_of (v := .slice p g.d.toNat cc) (fun w' hw => ⟨_, _, _, hw.1, rfl⟩) (OpS_slice.2 ?_)
          refine hH12.gd.disks.sl.ld0 (i := dk) (n := 1) (x := bd) (v := .pointer (some ⟨bd, 0, none⟩)) rfl hdk.1 hbd rfl (OpN_some.2 ?_)
          refine sl_ldC (hhs.keepB k012 (by simp)) (C := fun w' => Has w' b4 (.cells (setV g p g.d.toNat cc) 29 (0, 0)) ∧ SlL hwLay w' hp hl hs) (fun w' hw => hw.2) (i := (j' : Int)) (n := 1) (x := v) (v := .int .u16 v) rfl (by omega) hv' rfl (OpI_int.2 ⟨by decide, ?_⟩)
          rw [wrapI (x := v) (by omega) (by omega), Int.tmod_eq_emod_of_nonneg hvr.1, show v % 128 = (((v % 128).toNat : Nat) : Int) by omega]
          refine hcall _ fun w13 s13 e13 h13 k13 => OpI_int.2 ?_
          have hnx := next w13 s13 h13 (kd' k13)
          refine ⟨⟨?_, ?_⟩, _, hless, hnx, rfl⟩
          · obtain ⟨_, _, _, _, _, _, q1, _⟩ := hnx
            exact q1.st
          · obtain ⟨_, _, _, _, _, _, _, _, _, q1⟩ := hnx
            exact hhs.keepB q1 (by simp)
    · clear hcc
      obtain ⟨hgd9, hal9, hl9⟩ := hH9.hit.good hH9.g0 hH9.whole hH9.alive hH9.two
      have hG9 := hH9.gd
      clear hH9 hH8 hB9
      -- stripe by stripe
      refine LoopC_of (σ := Int × Unit) (fun st w' => ∃ (i : Nat) (s3 : SS), st.1 = (i : Int) ∧ (i : Int) ≤ g.s ∧ GdI w' w2.heap.size g m bks p cc s3 now (90 + 256 * (i : Int)) ∧ (∀ j, deadS s3 j = false) ∧ (∀ st off : Int, 0 ≤ st ∧ st < g.s → 0 ≤ off ∧ off < g.c → lostN (colsS g s3 st off) ≤ 2) ∧ (∀ j a, (0 ≤ j ∧ j < g.d) → (0 ≤ a ∧ a < g.c * g.s) → a < (i : Int) * g.c → viewS s3 j a ≠ none) ∧ O16 w2 w' g w1.heap.size b4 m bks p cc ∧ OwnL secLay w' w2.heap.size 23 np (capG g).toNat (capG g).toNat (nowL (capG g).toNat now) ∧ Keep (fun _ => False) w w') (fun st _ => (g.s - st.1).toNat)
        ⟨0, s2, rfl, by omega, hG9, hal9, hl9, fun j a hj ha hlt => by have : a < ((0 : Nat) : Int) * g.c := hlt; omega, hO9, hr9, k9⟩ ?_
      rintro _ ⟨k, u⟩ w10 ⟨k', s3, hk, hkl, hG10, hal10, hl10, hv10, hO10, hr10, k10⟩
      simp only at hk ⊢
      subst hk
      refine LdV_has (v := .int .i64 g.s) hO10.geo rfl (OpI_int.2 ?_)
      refine Cb_of (fun hcc => ?_) (fun hcc => ?_)
      · have hcc : (k' : Int) < g.s := by simpa using hcc
        have ek : IntKind.wrap .i64 ((k' : Int) + 1) = ((k' + 1 : Nat) : Int) := by rw [wrapI (by omega) (by omega)]; omega
        refine LdA_all hO10.st rfl ?_
        refine hG10.scrub (by omega) (fun o hs ho => hl10 _ o hs ho) (fun hbad => absurd (show 0 ≤ (k' : Int) ∧ (k' : Int) < g.s by omega) hbad) fun hs w11 s4 n hG11 hst11 hal11 hv11 _ k11 => ?_
        refine T2_mk.2 (OpA_agg.2 ⟨rfl, OpI_int.2 ?_⟩)
        refine copy_of (by rw [repV_zero]; rfl) rfl (one_repV _) fun w12 hb12 k12 z12 => ?_
        have hO11 := hO10.keep hG10.set k11
        have hO12 := hO11.keep0 k12
        have hr12 := (hr10.keep k11 (row_offM hG10.set hr10)).keep k12 (by simp)
        have k012 : Keep (fun _ => False) w w12 := (k10.trans' k11 fun i hi e => by have := hO10.low i e; omega).trans k12
        refine ⟨fun st' w' => st'.1 = false ∧ w12 = w', ?_, ?_⟩
        · refine (Cb_false (p := _)).2 ?_
          refine LdV_has (v := .int .i64 0) hb12 rfl (OpI_int.2 ((Cb_false (p := _)).2 ?_))
          refine LdV_has (v := .int .i64 g.c) hb12 rfl (OpI_int.2 ?_)
          refine LdV_has (v := .int .i64 g.c) hO12.geo rfl (OpI_int.2 ?_)
          rw [show (g.c != g.c) = false by simp]
          refine (Cb_false (p := _)).2 ?_
          refine LdV_has (v := .int .i64 n) hb12 rfl (OpI_int.2 ?_)
          refine LdV_has (v := .int .i64 n) hb12 rfl (OpI_int.2 ⟨?_, rfl⟩)
          show ((n : Int) != (n : Int)) = false
          simp
        · rintro _ ⟨b5, u⟩ w13 ⟨hb5, rfl⟩
          simp only at hb5 ⊢
          subst hb5
          refine (Cb_false (p := _)).2 ?_
          have hG12 := hG11.keep0 k12
          refine ⟨_, by show (g.s - IntKind.wrap .i64 ((k' : Int) + 1)).toNat < (g.s - (k' : Int)).toNat; rw [ek]; omega, ⟨k' + 1, s4, ek, by omega, ⟨hG12.set, hG12.disks, hG12.good.mono (by omega)⟩, fun j => by rw [hal11, hal10], fun st off hst hof => ?_, fun j a hj ha hlt hv => ?_, hO12, hr12, k012⟩, rfl⟩
          · refine Nat.le_trans (lostN_mono fun k hk hv => ?_) (hl10 st off hst hof)
            obtain ⟨pk1, pk2⟩ := plcP_ok hg hst hof (k : Int)
            exact ((hv11 _ _ pk1 pk2).1 hv).1
          · obtain ⟨e1, e2⟩ := (hv11 j a hj ha).1 hv
            rw [hal10] at e2
            rcases e2 with e2 | e2
            · cases e2
            · rcases ScrubS_step (k := (k' : Int)) (c := g.c) (a := a) (by rw [show ((k' : Int) + 1) = ((k' + 1 : Nat) : Int) by omega]; exact hlt) with h | h
              · exact hv10 j a hj ha h e1
              · exact e2 h
      · have hcc : ¬ (k' : Int) < g.s := by simpa using hcc
        have hks : (k' : Int) = g.s := by omega
        have hW10 : Whole g s3 := fun j a hj ha => hv10 j a hj ha (by rw [hks, Int.mul_comm]; exact ha.2)
        refine LdA_all hO10.st rfl ?_
        refine hG10.sound fun g1 w11 hg1 k11 => T2_mk.2 (OpB_bool.2 (OpI_int.2 ?_))
        have hg1 : g1 = true := hg1.2 (whole_sound hG10.good hW10)
        subst hg1
        refine ⟨fun st' w' => st'.1 = false ∧ w11 = w', ⟨by trivial, by trivial, by trivial, rfl⟩, ?_⟩
        rintro _ ⟨b5, u⟩ w13 ⟨hb5, rfl⟩
        simp only at hb5 ⊢
        subst hb5
        refine (Cb_false (p := _)).2 ?_
        exact readsM (hG10.keep0 k11) (hO10.keep0 k11) (hr10.keep k11 (by simp)) hW10 fun w15 k15 => hK _ ((k10.trans k11).trans k15)
theorem mend_walk {a b c : Int} {lp hp : Option Addr} {ll lc hl hc' : Nat} {ls hs : List Int} {w : World} (ha : 0 ≤ a ∧ a ≤ 255) (hb : 0 ≤ b ∧ b ≤ 255) (hc : 0 ≤ c ∧ c ≤ 255) (hls : SlL byLay w lp ll ls) (hby : By ls) (hhs : SlL hwLay w hp hl hs) (hhw : Hw hs) (hhl : hl ≤ 100000000) :
    CallV Try.prog 9 #[.int .u8 a, .int .u8 b, .int .u8 c, .slice lp ll lc, .slice hp hl hc'] w fun v w' => v = .bool true ∧ Below w.heap.size w w' :=
  mend_walkR ha hb hc hls hby hhs hhw hhl fun w' k => ⟨rfl, k.below⟩
end Go.Proofs
