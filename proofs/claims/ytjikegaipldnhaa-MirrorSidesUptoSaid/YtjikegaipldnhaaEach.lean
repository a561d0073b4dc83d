/-
  THE PAIR: its parts, its memories that are up, a record to each of them.
-/
import Derived.Test.YtjikegaipldnhaaLoad
import Derived.Test.YtjikegaipldnhaaCache
import Derived.Test.YtjikegaipldnhaaFPair
namespace Go.Proofs
open Go Go.Ev
set_option linter.unusedSimpArgs false
set_option linter.unusedVariables false
set_option maxRecDepth 100000

/-- where a pair's parts lie -/
structure PB where
  p : Nat
  c : Nat
  mp : Nat
  m : Nat
  a : Nat
  b : Nat
  base : Nat
  room : Int
  sz : Int
/-- what a pair is -/
structure PS where
  es : List (Int × Ent)
  last : Int
  epoch : Int
  ua : Bool
  ub : Bool
  pw : Pow
  xa : List Int
  xb : List Int
def pairC (q : PB) (s : PS) : Array Value := #[.pointer (some ⟨q.c, 0, none⟩), .pointer (some ⟨q.a, 0, none⟩), .pointer (some ⟨q.b, 0, none⟩), .bool s.ua, .bool s.ub, .int .u32 s.epoch, .int .u64 s.last]
structure PairAt (w : World) (q : PB) (s : PS) : Prop where
  cells : Has w q.p (.cells (pairC q s) 118 (0, 0))
  cache : CacheAt w q.c q.mp q.room s.es
  main : MaAt w q.m s.pw
  rams : ∃ pa la ca pb lb cb, RaAt w q.base q.m q.a q.sz pa la ca s.xa ∧ RaAt w q.base q.m q.b q.sz pb lb cb s.xb ∧ ∀ k, pa = some ⟨k, 0, none⟩ → ¬ pb = some ⟨k, 0, none⟩
  ne : q.a ≠ q.b
  fit : (s.xa.length : Int) ≤ q.sz ∧ (s.xb.length : Int) ≤ q.sz
  form : 37 ≤ q.sz ∧ q.sz ≤ 65536
  low : q.base ≤ q.p
/-- what a call may change -/
def PFoot (q : PB) (w : World) (k : Nat) : Prop := k = q.p ∨ k = q.mp ∨ k = q.m ∨ k = q.a ∨ k = q.b ∨ (q.base ≤ k ∧ ∃ cs, Has w k (.cells cs 5 (0, 0)))
theorem PFoot.trans {q : PB} {w w1 w2 : World} (h : Keep (PFoot q w) w w1) (k : Keep (PFoot q w1) w1 w2) : Keep (PFoot q w) w w2 :=
  h.trans' k fun i hi hf => Classical.byContradiction fun hn => by
    rcases hf with e | e | e | e | e | ⟨hb, cs, hc⟩
    · exact hn (Or.inl e)
    · exact hn (Or.inr (Or.inl e))
    · exact hn (Or.inr (Or.inr (Or.inl e)))
    · exact hn (Or.inr (Or.inr (Or.inr (Or.inl e))))
    · exact hn (Or.inr (Or.inr (Or.inr (Or.inr (Or.inl e)))))
    · exact hn (Or.inr (Or.inr (Or.inr (Or.inr (Or.inr ⟨hb, cs, (h.block i hi hn).symm.trans hc⟩)))))
theorem PFoot.none {q : PB} {w w' : World} (h : Keep (fun _ => False) w w') : Keep (PFoot q w) w w' := h.mono fun _ h => h.elim
theorem PFoot.not {q : PB} {s : PS} {w : World} {k : Nat} {cs : Array Value} {t : TypeId} {f : Nat × Nat} (hk : Has w k (.cells cs t f)) (ht : t ≠ 5) (hp : PairAt w q s) (h1 : t ≠ 118) (h2 : t ≠ 108) (h3 : t ≠ 110) : ¬ PFoot q w k := by
  have no : ∀ {cs' : Array Value} {t' : TypeId} {f' : Nat × Nat} {b : Nat}, Has w b (.cells cs' t' f') → t ≠ t' → k ≠ b := by
    intro cs' t' f' b hb ht' e
    subst e
    have := hk.inj hb
    simp only [Obj.cells.injEq] at this
    exact ht' this.2.1
  rintro (e | e | e | e | e | ⟨_, cs', hc⟩)
  · exact no hp.cells h1 e
  · obtain ⟨_, arr, clk, hm, _⟩ := hp.cache
    subst e
    have := hk.inj hm
    cases this
  · exact no (show Has w _ _ from hp.main) h2 e
  · obtain ⟨_, _, _, _, _, _, ha, _, _⟩ := hp.rams
    exact no ha.cells h3 e
  · obtain ⟨_, _, _, _, _, _, _, hb, _⟩ := hp.rams
    exact no hb.cells h3 e
  · exact no hc ht rfl
/-- what is no byte and none of the pair's parts stays -/
theorem PFoot.has {q : PB} {s : PS} {w w' : World} (h : Keep (PFoot q w) w w') {k : Nat} {cs : Array Value} {t : TypeId} {f : Nat × Nat} (hk : Has w k (.cells cs t f)) (ht : t ≠ 5) (hp : PairAt w q s) (h1 : t ≠ 118) (h2 : t ≠ 108) (h3 : t ≠ 110) : Has w' k (.cells cs t f) :=
  h.has hk (PFoot.not hk ht hp h1 h2 h3)
theorem PFoot.own {α : Type} {L : Lay α} {q : PB} {s : PS} {w w' : World} (h : Keep (PFoot q w) w w') {b : Nat} {t : TypeId} {p : Option Addr} {l c : Nat} {xs : List α} (ho : OwnL L w b t p l c xs) (ht : t ≠ 5) (hp : PairAt w q s) (h1 : t ≠ 118) (h2 : t ≠ 108) (h3 : t ≠ 110) : OwnL L w' b t p l c xs := by
  refine ho.keep h fun k hk => ?_
  rcases Own.cases ho with ⟨h0, _⟩ | ⟨b', cur, h0, _, hg, _⟩
  · rw [h0] at hk; cases hk
  · rw [h0] at hk; cases hk
    exact PFoot.not hg ht hp h1 h2 h3
theorem RaAt.keep {w w' : World} {base m r : Nat} {size : Int} {p : Option Addr} {l c : Nat} {bs : List Int} {S : Nat → Prop} (h : RaAt w base m r size p l c bs) (k : Keep S w w') (h1 : ¬ S r) (h2 : ∀ k, p = some ⟨k, 0, none⟩ → ¬ S k) : RaAt w' base m r size p l c bs :=
  ⟨k.has h.cells h1, h.row.keep k h2⟩
theorem PairAt.keep {w w' : World} {q : PB} {s : PS} (h : PairAt w q s) (k : Keep (fun _ => False) w w') : PairAt w' q s := by
  obtain ⟨pa, la, ca, pb, lb, cb, ha, hb, hne⟩ := h.rams
  exact ⟨k.has h.cells (by simp), h.cache.keep k (by simp) (by simp), k.has h.main (by simp), ⟨pa, la, ca, pb, lb, cb, ha.keep k (by simp) (by simp), hb.keep k (by simp) (by simp), hne⟩, h.ne, h.fit, h.form, h.low⟩
theorem PairAt.hb {w : World} {q : PB} {s : PS} (h : PairAt w q s) : q.base ≤ w.heap.size := by have := h.cells.lt; have := h.low; omega

/-- a record to one side: the answer, and the pair behind it -/
def app1 (sz : Int) (x : Rec) (f : Bool) (s : PS) : Int × PS :=
  match f with
  | false => let r := appP s.pw sz s.xa x; (r.1, { s with pw := r.2.1, xa := r.2.2 })
  | true => let r := appP s.pw sz s.xb x; (r.1, { s with pw := r.2.1, xb := r.2.2 })
/-- the sides that are up, this one first -/
def upS (s : PS) (f : Bool) : List Bool := [f, !f].filter fun g => cond g s.ub s.ua
def eachS (sz : Int) (x : Rec) : List Bool → PS → Int × PS
  | [], s => (0, s)
  | f :: fs, s => if (app1 sz x f s).1 ≠ 0 then app1 sz x f s else eachS sz x fs (app1 sz x f s).2
def eachP (sz : Int) (x : Rec) (f : Bool) (s : PS) : Int × PS := eachS sz x (upS s f) s
def sideN (f : Bool) : Int := cond f 1 0
def ramB (q : PB) (f : Bool) : Nat := cond f q.b q.a
theorem appP_len {pw : Pow} {sz : Int} {bs : List Int} {x : Rec} (h : (bs.length : Int) ≤ sz) : ((appP pw sz bs x).2.2.length : Int) ≤ sz := by
  unfold appP
  split
  · exact h
  · split
    · exact h
    · rename_i h1 h2
      have h2 : ¬ (sz - (bs.length : Int)) / 37 < 1 := h2
      have : 37 ≤ sz - (bs.length : Int) := by omega
      split <;> simp <;> omega
section calls
variable {w : World} {q : PB} {s : PS} {R : Value → World → Prop}
theorem pr_app (h : PairAt w q s) {x : Rec} {f : Bool} (hx : recGood x = true) (hK : ∀ w', PairAt w' q (app1 q.sz x f s).2 → Keep (PFoot q w) w w' → R (.int .i64 (app1 q.sz x f s).1) w') :
    CallV Try.prog 75 #[.pointer (some ⟨ramB q f, 0, none⟩), .agg (recV x)] w R := by
  obtain ⟨pa, la, ca, pb, lb, cb, ha, hb, hne⟩ := h.rams
  have inj : ∀ {k : Nat} {cs cs' : Array Value} {t t' : TypeId} {f f' : Nat × Nat}, Has w k (.cells cs t f) → Has w k (.cells cs' t' f') → t = t' := by
    intro k cs cs' t t' f f' h1 h2
    have := h1.inj h2
    simp only [Obj.cells.injEq] at this
    exact this.2.1
  have nmap : ∀ {k : Nat} {cs : Array Value} {t : TypeId} {f : Nat × Nat}, Has w k (.cells cs t f) → k ≠ q.mp := by
    intro k cs t f h1 e
    obtain ⟨_, arr, clk, hm, _⟩ := h.cache
    subst e
    cases h1.inj hm
  have rowF : ∀ {p : Option Addr} {l c : Nat} {bs : List Int}, OwnL byLay w q.base 5 p l c bs → ∀ k, p = some ⟨k, 0, none⟩ → q.base ≤ k ∧ ∃ cs, Has w k (.cells cs 5 (0, 0)) := by
    intro p l c bs ho k hk
    rcases Own.cases ho with ⟨h0, _⟩ | ⟨b', cur, h0, hb', hg, _⟩
    · rw [h0] at hk; cases hk
    · rw [h0] at hk; cases hk; exact ⟨hb', cur, hg⟩
  have c1 : ∀ {r : Nat} {p : Option Addr} {l c : Nat} {bs : List Int}, RaAt w q.base q.m r q.sz p l c bs → ∀ {w' : World}, Keep (fun k => k = q.m ∨ k = r ∨ p = some ⟨k, 0, none⟩) w w' → (r = q.a ∨ r = q.b) →
      Keep (PFoot q w) w w' ∧ Has w' q.p (.cells (pairC q s) 118 (0, 0)) ∧ CacheAt w' q.c q.mp q.room s.es := by
    intro r p l c bs hr w' k hrr
    have hS : ∀ {k' : Nat} {cs : Array Value} {t : TypeId} {f : Nat × Nat}, Has w k' (.cells cs t f) → t ≠ 108 → t ≠ 110 → t ≠ 5 → ¬ (k' = q.m ∨ k' = r ∨ p = some ⟨k', 0, none⟩) := by
      intro k' cs t f hk h1 h2 h3 hor
      rcases hor with e | e | e
      · subst e; exact h1 (inj hk (show Has w _ _ from h.main))
      · subst e; exact h2 (inj hk hr.cells)
      · exact bytes_ne hr.row hk h3 e
    have hMap : ¬ (q.mp = q.m ∨ q.mp = r ∨ p = some ⟨q.mp, 0, none⟩) := by
      rintro (e | e | e)
      · exact nmap (show Has w _ _ from h.main) e.symm
      · exact nmap hr.cells e.symm
      · obtain ⟨_, cs, hc⟩ := rowF hr.row _ e
        exact nmap hc rfl
    refine ⟨k.mono ?_, k.has h.cells (hS h.cells (by decide) (by decide) (by decide)), h.cache.keep k (hS h.cache.1 (by decide) (by decide) (by decide)) hMap⟩
    rintro k' (e | e | e)
    · exact Or.inr (Or.inr (Or.inl e))
    · rcases hrr with h1 | h1
      · exact Or.inr (Or.inr (Or.inr (Or.inl (e.trans h1))))
      · exact Or.inr (Or.inr (Or.inr (Or.inr (Or.inl (e.trans h1)))))
    · exact Or.inr (Or.inr (Or.inr (Or.inr (Or.inr (rowF hr.row _ e)))))
  have other : ∀ {r r' : Nat} {p p' : Option Addr} {l l' c c' : Nat} {bs bs' : List Int}, RaAt w q.base q.m r q.sz p l c bs → RaAt w q.base q.m r' q.sz p' l' c' bs' → r ≠ r' → (∀ k, p = some ⟨k, 0, none⟩ → ¬ p' = some ⟨k, 0, none⟩) →
      ∀ {w' : World}, Keep (fun k => k = q.m ∨ k = r ∨ p = some ⟨k, 0, none⟩) w w' → RaAt w' q.base q.m r' q.sz p' l' c' bs' := by
    intro r r' p p' l l' c c' bs bs' hr hr' hn hpp w' k
    refine hr'.keep k ?_ ?_
    · rintro (e | e | e)
      · subst e; exact absurd (inj hr'.cells (show Has w _ _ from h.main)) (by decide)
      · exact hn e.symm
      · exact bytes_ne hr.row hr'.cells (by decide) e
    · rintro k' hk (e | e | e)
      · subst e; exact bytes_ne hr'.row (show Has w _ _ from h.main) (by decide) hk
      · subst e; exact bytes_ne hr'.row hr.cells (by decide) hk
      · exact hpp _ e hk
  cases f
  · show CallV Try.prog 75 #[.pointer (some ⟨q.a, 0, none⟩), .agg (recV x)] w R
    refine ra_Append ha h.main hx h.form.1 h.form.2 (by rw [ha.row.length]; exact h.fit.1) h.hb fun p' l' c' w' hr hm hp k => ?_
    obtain ⟨kf, hc, hca⟩ := c1 ha k (Or.inl rfl)
    refine hK w' ⟨hc, hca, hm, ⟨p', l', c', pb, lb, cb, hr, other ha hb h.ne hne k, ?_⟩, h.ne, ⟨appP_len h.fit.1, h.fit.2⟩, h.form, h.low⟩ kf
    intro k' hk' hpb
    rcases hp with e | ⟨k2, h2, e⟩
    · exact hne k' (e ▸ hk') hpb
    · rw [e] at hk'
      cases hk'
      have := (hb.row.lt hpb).2
      omega
  · show CallV Try.prog 75 #[.pointer (some ⟨q.b, 0, none⟩), .agg (recV x)] w R
    refine ra_Append hb h.main hx h.form.1 h.form.2 (by rw [hb.row.length]; exact h.fit.2) h.hb fun p' l' c' w' hr hm hp k => ?_
    obtain ⟨kf, hc, hca⟩ := c1 hb k (Or.inr rfl)
    refine hK w' ⟨hc, hca, hm, ⟨pa, la, ca, p', l', c', other hb ha h.ne.symm (fun k h1 h2 => hne k h2 h1) k, hr, ?_⟩, h.ne, ⟨h.fit.1, appP_len h.fit.2⟩, h.form, h.low⟩ kf
    intro k' hpa hk'
    rcases hp with e | ⟨k2, h2, e⟩
    · exact hne k' hpa (e ▸ hk')
    · rw [e] at hk'
      cases hk'
      have := (ha.row.lt hpa).2
      omega

/-! ### the memories that are up -/
def pLay : Lay Nat := ⟨1, fun b => [.pointer (some ⟨b, 0, none⟩)], fun _ => rfl, fun y v hv => by rw [List.mem_singleton.1 hv]; rfl, by decide⟩
def iLay : Lay Int := ⟨1, fun y => [.int .i64 y], fun _ => rfl, fun y v hv => by rw [List.mem_singleton.1 hv]; rfl, by decide⟩
theorem pLayT : LayT Try.prog pLay 50 27 8 := ⟨by kernel_rfl, ⟨(Try.prog.info? 27).get (by kernel_rfl), ((Try.prog.info? 27).get (by kernel_rfl)).zero.get (by kernel_rfl), by kernel_rfl, by kernel_rfl, by kernel_rfl, by kernel_rfl, by kernel_rfl⟩⟩
theorem bsl_p1 (b : Nat) (w : World) : (Instr.buildSlice 50 1 #[(0, .pointer (some ⟨b, 0, none⟩))]).run Try.prog w = .ok (.slice (some ⟨w.heap.size, 0, none⟩) 1 1) (w.alloc (.cells #[.pointer (some ⟨b, 0, none⟩)] 27)) :=
  run_buildSlice w 50 27 1 _ #[.pointer (some ⟨b, 0, none⟩)] ((Try.prog.info? 27).get (by kernel_rfl)) (((Try.prog.info? 27).get (by kernel_rfl)).zero.get (by kernel_rfl)) (by kernel_rfl) (by kernel_rfl) (by kernel_rfl) (by decide +kernel) (by decide +kernel) (by kernel_rfl)
theorem bsl_i2 (x y : Int) (w : World) : (Instr.buildSlice 35 2 #[(0, .int .i64 x), (1, .int .i64 y)]).run Try.prog w = .ok (.slice (some ⟨w.heap.size, 0, none⟩) 2 2) (w.alloc (.cells #[.int .i64 x, .int .i64 y] 3)) :=
  run_buildSlice w 35 3 2 _ #[.int .i64 x, .int .i64 y] ((Try.prog.info? 3).get (by kernel_rfl)) (((Try.prog.info? 3).get (by kernel_rfl)).zero.get (by kernel_rfl)) (by kernel_rfl) (by kernel_rfl) (by kernel_rfl) (by decide +kernel) (by decide +kernel) (by kernel_rfl)
theorem pr_side (n : Int) (hK : R (.bool (decide (n = 0) || decide (n = 1))) w) : CallV Try.prog 45 #[.int .i64 n] w R := by
  apply C_mirror_side
  unfold F_mirror_side
  refine ⟨rfl, rfl, ?_⟩
  refine Ret_nil.2 ?_
  have e : (cond (n == 0) true (n == 1)) = (decide (n = 0) || decide (n = 1)) := by
    have hd : ∀ k : Int, (n == k) = decide (n = k) := fun k => by rw [Bool.eq_iff_iff]; simp
    rw [hd, hd]
    cases decide (n = 0) <;> rfl
  rw [e]; exact hK
theorem pr_Up (h : PairAt w q s) (f : Bool) (hK : ∀ p l c w', OwnL pLay w' w.heap.size 27 p l c ((upS s f).map (ramB q)) → Keep (fun _ => False) w w' → R (.slice p l c) w') : CallV Try.prog 41 #[.pointer (some ⟨q.p, 0, none⟩), .int .i64 (sideN f)] w R := by
  apply C_mirror_Pair_Up
  unfold F_mirror_Pair_Up
  refine pr_side _ ?_
  refine OpB_bool.2 ?_
  have e : (!(decide (sideN f = 0) || decide (sideN f = 1))) = false := by cases f <;> rfl
  rw [e]
  refine (Cb_false (p := _)).2 ?_
  have e1 : IntKind.wrap .i64 (1 - sideN f) = sideN (!f) := by cases f <;> decide +kernel
  rw [e1]
  refine ⟨_, _, bsl_i2 _ _ w, OpS_slice.2 ?_⟩
  have k0 : Keep (fun _ => False) w (w.alloc (.cells #[.int .i64 (sideN f), .int .i64 (sideN !f)] 3)) := Keep.new _ _ _
  have hrow : Has (w.alloc (.cells #[.int .i64 (sideN f), .int .i64 (sideN !f)] 3)) w.heap.size (.cells #[.int .i64 (sideN f), .int .i64 (sideN !f)] 3 (0, 0)) := Has.new _ _
  have o0 : OwnL iLay _ w.heap.size 3 (some ⟨w.heap.size, 0, none⟩) 2 2 [sideN f, sideN !f] := OwnL.mk (xs := [sideN f, sideN !f]) (Nat.le_refl _) hrow (by simp [maxLen]) rfl
  generalize w.alloc (.cells #[.int .i64 (sideN f), .int .i64 (sideN !f)] 3) = w0 at *
  have hp := h.cells
  generalize hn : w.heap.size = n at *
  refine LoopC_of (σ := (Option Addr × Nat × Nat) × Int × Unit) (fun st w' => ∃ k : Nat, st.2.1 = (k : Int) ∧ k ≤ 2 ∧ OwnL pLay w' (n + 1) 27 st.1.1 st.1.2.1 st.1.2.2 ((([f, !f].take k).filter fun g => cond g s.ub s.ua).map (ramB q)) ∧ Keep (fun k => n + 1 ≤ k) w0 w')
    (fun st _ => (2 - st.2.1).toNat) ⟨0, rfl, by omega, OwnL.nil, Keep.refl _ _⟩ ?_
  rintro _ ⟨⟨p1, l1, c1⟩, i1, u⟩ w1 ⟨k, hi, hk, o1, k1⟩
  simp only at hi o1 ⊢
  subst hi
  have hsz0 : n + 1 ≤ w0.heap.size := hrow.lt
  have hsz1 : n + 1 ≤ w1.heap.size := Nat.le_trans hsz0 k1.size
  have hp1 := k1.has (k0.has hp (by simp)) (by have := hp.lt; omega)
  have ow1 := o0.keep k1 fun k hk => by cases hk; omega
  have kw : Keep (fun _ => False) w w1 := k0.trans' k1 fun i hi hh => by rw [hn] at hi; omega
  refine Cb_of (fun hc => ?_) (fun hc => ?_)
  · have hc : k < 2 := by simp only [decide_eq_true_eq] at hc; omega
    obtain ⟨g, hg⟩ : ∃ g, [f, !f][k]? = some g := ⟨_, List.getElem?_eq_getElem (by simpa using hc)⟩
    have hgi : [sideN f, sideN !f][k]? = some (sideN g) := by
      match k, hc, hg with
      | 0, _, hg => cases hg; rfl
      | 1, _, hg => cases hg; rfl
    have hl1 := o1.length
    have hlen : ((([f, !f].take k).filter fun g => cond g s.ub s.ua).map (ramB q)).length ≤ 2 := by
      rw [List.length_map]
      exact Nat.le_trans (List.length_filter_le _ _) (by rw [List.length_take]; simp; omega)
    have ek : IntKind.wrap .i64 ((k : Int) + 1) = ((k + 1 : Nat) : Int) := by rw [wrapI (by omega) (by omega)]; omega
    refine ow1.ld0 (i := (k : Int)) (n := 1) (x := sideN g) (v := .int .i64 (sideN g)) rfl (by omega) (by simpa using hgi) rfl ?_
    refine OpI_int.2 ?_
    have hb2 : 0 ≤ sideN g ∧ sideN g < 2 := by cases g <;> decide
    refine ⟨hb2, ?_⟩
    refine LdV_has (v := .bool (cond g s.ub s.ua)) hp1 (by cases g <;> rfl) ?_
    refine OpB_bool.2 ?_
    have etk : ([f, !f].take (k + 1)) = [f, !f].take k ++ [g] := by rw [List.take_add_one, hg]; rfl
    have hmu : ((2 : Int) - IntKind.wrap .i64 ((k : Int) + 1)).toNat < ((2 : Int) - (k : Int)).toNat := by rw [ek]; omega
    cases hu : cond g s.ub s.ua
    · refine (Cb_false (p := _)).2 ?_
      refine ⟨_, hmu, ⟨k + 1, ek, by omega, ?_, k1⟩, rfl⟩
      rw [etk, List.filter_append, List.filter_cons_of_neg (by simp [hu]), List.filter_nil, List.append_nil]
      exact o1
    · refine (Cb_true (q := _)).2 ?_
      refine ⟨hb2, ?_⟩
      refine LdV_has (v := .pointer (some ⟨ramB q g, 0, none⟩)) hp1 (by cases g <;> rfl) ?_
      refine OpN_some.2 ?_
      refine ⟨_, _, bsl_p1 _ w1, OpS_slice.2 ?_⟩
      have k2 : Keep (fun _ => False) w1 (w1.alloc (.cells #[.pointer (some ⟨ramB q g, 0, none⟩)] 27)) := Keep.new _ _ _
      have h2 : Has (w1.alloc (.cells #[.pointer (some ⟨ramB q g, 0, none⟩)] 27)) w1.heap.size (.cells #[.pointer (some ⟨ramB q g, 0, none⟩)] 27 (0, 0)) := Has.new _ _
      generalize w1.alloc (.cells #[.pointer (some ⟨ramB q g, 0, none⟩)] 27) = w2 at *
      obtain ⟨p5, c5, w5, hr, o5, k5, _⟩ := run_appendF1 pLayT (o1.keep k2 (by simp)) (y := ramB q g) h2 rfl (ty := 50) (by omega) (by simp only [maxLen]; omega) (by have := k2.size; omega) (c2 := 1)
      refine ⟨_, _, hr, OpS_slice.2 ?_⟩
      refine ⟨_, hmu, ⟨k + 1, ek, by omega, ?_, (k1.trans (k2.mono (by simp))).trans (k5.mono fun k hk => (o1.lt hk).1)⟩, rfl⟩
      rw [etk, List.filter_append, List.filter_cons_of_pos (by simp [hu]), List.filter_nil, List.map_append]
      exact o5
  · have hc : k = 2 := by
      simp only [decide_eq_false_iff_not] at hc
      omega
    subst hc
    refine Ret_nil.2 (hK p1 l1 c1 w1 (o1.rebase (by omega)) kw)

/-! ### a record to each -/
theorem eachS_len {sz : Int} {x : Rec} : ∀ {fs : List Bool} {s : PS}, True := trivial
theorem pr_each (h : PairAt w q s) (f : Bool) {x : Rec} (hx : recGood x = true) (hK : ∀ w', PairAt w' q (eachP q.sz x f s).2 → Keep (PFoot q w) w w' → R (.int .i64 (eachP q.sz x f s).1) w') : CallV Try.prog 46 #[.pointer (some ⟨q.p, 0, none⟩), .int .i64 (sideN f), .agg (recV x)] w R := by
  apply C_mirror_Pair_each
  unfold F_mirror_Pair_each
  refine alc_fresh fun w1 hb1 k1 z1 => ?_
  have h1 := h.keep k1
  refine pr_Up h1 f fun p l c w2 o2 k2 => ?_
  refine OpS_slice.2 ?_
  have h2 := h1.keep k2
  have k02 := k1.trans k2
  have hb2 := k2.has hb1 (by simp)
  have hl := o2.length
  rw [List.length_map] at hl
  unfold eachP at hK
  generalize upS s f = fs at *
  refine LoopC_of (σ := Int × Unit) (fun st w' => ∃ (k : Nat) (s' : PS), st.1 = (k : Int) ∧ k ≤ l ∧ PairAt w' q s' ∧ eachS q.sz x (fs.drop k) s' = eachS q.sz x fs s ∧ Keep (PFoot q w) w w' ∧ OwnL pLay w' w1.heap.size 27 p l c (fs.map (ramB q)) ∧ Has w' w.heap.size (.cells (recV x) 46 (0, 0)))
    (fun st _ => (l - st.1).toNat) ⟨0, s, rfl, by omega, h2, rfl, PFoot.none k02, o2, hb2⟩ ?_
  rintro _ ⟨i, u⟩ w3 ⟨k, s', hi, hk, h3, he, k3, o3, hb3⟩
  simp only at hi ⊢
  subst hi
  refine Cb_of (fun hc => ?_) (fun hc => ?_)
  · have hc : k < l := by simpa using hc
    obtain ⟨g, hg⟩ : ∃ g, fs[k]? = some g := ⟨_, List.getElem?_eq_getElem (by omega)⟩
    refine o3.ld0 (i := (k : Int)) (n := 1) (x := ramB q g) (v := .pointer (some ⟨ramB q g, 0, none⟩)) rfl (by omega) (by simp [hg]) rfl ?_
    refine OpN_some.2 ?_
    refine LdA_all hb3 rfl ?_
    refine pr_app h3 (f := g) hx fun w4 h4 k4 => ?_
    refine OpI_int.2 ?_
    have ed : fs.drop k = g :: fs.drop (k + 1) := by
      rw [List.drop_eq_getElem_cons (by omega)]
      congr 1
      have := List.getElem?_eq_getElem (l := fs) (i := k) (by omega)
      rw [hg] at this
      exact (Option.some.inj this).symm
    rw [ed] at he
    have hst : eachS q.sz x (g :: fs.drop (k + 1)) s' = if (app1 q.sz x g s').1 ≠ 0 then app1 q.sz x g s' else eachS q.sz x (fs.drop (k + 1)) (app1 q.sz x g s').2 := rfl
    rw [hst] at he
    have k34 := PFoot.trans k3 k4
    refine Cb_of (fun hz => ?_) (fun hz => ?_)
    · have hz : (app1 q.sz x g s').1 ≠ 0 := by simpa using hz
      rw [if_pos hz] at he
      rw [← he] at hK
      exact Ret_nil.2 (hK w4 h4 k34)
    · have hz : (app1 q.sz x g s').1 = 0 := by simpa using hz
      rw [if_neg (by simp [hz])] at he
      have ek : IntKind.wrap .i64 ((k : Int) + 1) = ((k + 1 : Nat) : Int) := by
        have : l ≤ maxLen := Nat.le_trans o3.cap.1 o3.cap.2
        simp only [maxLen] at this
        rw [wrapI (by omega) (by omega)]; omega
      refine ⟨_, by show ((l : Int) - IntKind.wrap .i64 ((k : Int) + 1)).toNat < ((l : Int) - (k : Int)).toNat; rw [ek]; omega, ⟨k + 1, _, ek, by omega, h4, he, k34, ?_, PFoot.has k4 hb3 (by decide) h3 (by decide) (by decide) (by decide)⟩, rfl⟩
      refine o3.keep k4 fun k' hk' => ?_
      rcases Own.cases o3 with ⟨h0, _⟩ | ⟨b', cur, h0, _, hg', _⟩
      · rw [h0] at hk'; cases hk'
      · rw [h0] at hk'; cases hk'
        intro hf
        have := PFoot.has (w' := w3.upd k' (.cells #[] 0 (0, 0))) (Keep.mono (Keep.one w3 k' (.cells #[] 0 (0, 0))) fun _ e => e ▸ hf) hg' (by decide) h3 (by decide) (by decide) (by decide)
        have h5 : Has (w3.upd k' (.cells #[] 0 (0, 0))) k' (.cells #[] 0 (0, 0)) := hg'.upd_same _
        have h6 := this.inj h5
        simp only [Obj.cells.injEq] at h6
        exact absurd h6.2.1 (by decide)
  · have hc : k = l := by
      have : ¬ ((k : Int) < (l : Int)) := by simpa using hc
      omega
    subst hc
    have : fs.drop k = [] := List.drop_of_length_le (by omega)
    rw [this] at he
    have he : (0, s') = eachS q.sz x fs s := he
    rw [← he] at hK
    exact Ret_nil.2 (hK w3 h3 k3)
end calls
end Go.Proofs
