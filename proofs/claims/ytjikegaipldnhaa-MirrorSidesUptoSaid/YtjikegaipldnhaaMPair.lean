/-
  THE PAIR: New, Take, Get, Full, Put.
-/
import Derived.Test.YtjikegaipldnhaaEach
import Derived.Test.YtjikegaipldnhaaPair
namespace Go.Proofs
open Go Go.Ev
set_option linter.unusedSimpArgs false
set_option linter.unusedVariables false
set_option maxRecDepth 100000

/-- what Put answers (the version, the error), and the pair behind it -/
def putP (room sz : Int) (s : PS) (f : Bool) (lba : Int) (d : Sec) : (Int × Int) × PS :=
  if lba < 0 ∨ 2147483647 < lba then ((0, 2), s)
  else if (cond f s.ub s.ua) = false then ((0, 13), s)
  else if mlook s.es lba = none ∧ room ≤ (s.es.length : Int) then ((0, 9), s)
  else
    let v := IntKind.wrap .u64 (s.last + 1)
    let r := eachP sz ⟨1, v, lba, d⟩ f { s with last := v }
    if r.1 ≠ 0 then ((0, r.1), r.2) else ((v, 0), { r.2 with es := if putE room s.es lba v = 0 then ins s.es lba (d, v) else s.es })
theorem app1_same {sz : Int} {x : Rec} {f : Bool} {s : PS} : (app1 sz x f s).2.es = s.es ∧ (app1 sz x f s).2.last = s.last ∧ (app1 sz x f s).2.epoch = s.epoch ∧ (app1 sz x f s).2.ua = s.ua ∧ (app1 sz x f s).2.ub = s.ub := by
  cases f <;> exact ⟨rfl, rfl, rfl, rfl, rfl⟩
theorem eachS_same {sz : Int} {x : Rec} : ∀ (fs : List Bool) (s : PS), (eachS sz x fs s).2.es = s.es ∧ (eachS sz x fs s).2.last = s.last ∧ (eachS sz x fs s).2.epoch = s.epoch ∧ (eachS sz x fs s).2.ua = s.ua ∧ (eachS sz x fs s).2.ub = s.ub
  | [], _ => ⟨rfl, rfl, rfl, rfl, rfl⟩
  | f :: fs, s => by
    have e : eachS sz x (f :: fs) s = if (app1 sz x f s).1 ≠ 0 then app1 sz x f s else eachS sz x fs (app1 sz x f s).2 := rfl
    obtain ⟨a1, a2, a3, a4, a5⟩ := app1_same (sz := sz) (x := x) (f := f) (s := s)
    rw [e]
    split
    · exact ⟨a1, a2, a3, a4, a5⟩
    · obtain ⟨b1, b2, b3, b4, b5⟩ := eachS_same fs (app1 sz x f s).2 (sz := sz) (x := x)
      exact ⟨b1.trans a1, b2.trans a2, b3.trans a3, b4.trans a4, b5.trans a5⟩
theorem eachP_same {sz : Int} {x : Rec} {f : Bool} (s : PS) : (eachP sz x f s).2.es = s.es ∧ (eachP sz x f s).2.last = s.last ∧ (eachP sz x f s).2.epoch = s.epoch ∧ (eachP sz x f s).2.ua = s.ua ∧ (eachP sz x f s).2.ub = s.ub := eachS_same _ _
section calls
variable {w : World} {q : PB} {s : PS} {R : Value → World → Prop}
theorem PairAt.setC (h : PairAt w q s) {e' : List (Int × Ent)} {la ep : Int} {ua ub : Bool} (he : e' = s.es) : PairAt (w.upd q.p (.cells (pairC q ⟨e', la, ep, ua, ub, s.pw, s.xa, s.xb⟩) 118 (0, 0))) q ⟨e', la, ep, ua, ub, s.pw, s.xa, s.xb⟩ := by
  subst he
  obtain ⟨pa, lx, ca, pb, lb, cb, ha, hb, hne⟩ := h.rams
  have k := Keep.one w q.p (.cells (pairC q ⟨s.es, la, ep, ua, ub, s.pw, s.xa, s.xb⟩) 118 (0, 0))
  have inj : ∀ {k : Nat} {cs : Array Value} {t : TypeId} {f : Nat × Nat}, Has w k (.cells cs t f) → t ≠ 118 → ¬ k = q.p := by
    intro k cs t f h1 ht e
    subst e
    have := h1.inj h.cells
    simp only [Obj.cells.injEq] at this
    exact ht this.2.1
  have hmap : ¬ q.mp = q.p := by
    obtain ⟨_, arr, clk, hm, _⟩ := h.cache
    intro e
    rw [e] at hm
    cases hm.inj h.cells
  exact ⟨h.cells.upd_same _, h.cache.keep k (inj h.cache.1 (by decide)) hmap, k.has h.main (inj (show Has w _ _ from h.main) (by decide)),
    ⟨pa, lx, ca, pb, lb, cb, ha.keep k (inj ha.cells (by decide)) (fun k' hk e => by subst e; exact bytes_ne ha.row h.cells (by decide) hk), hb.keep k (inj hb.cells (by decide)) (fun k' hk e => by subst e; exact bytes_ne hb.row h.cells (by decide) hk), hne⟩, h.ne, h.fit, h.form, h.low⟩
theorem pr_Take (h : PairAt w q s) (hK : ∀ w', PairAt w' q { s with last := IntKind.wrap .u64 (s.last + 1) } → Keep (PFoot q w) w w' → R (.int .u64 (IntKind.wrap .u64 (s.last + 1))) w') : CallV Try.prog 39 #[.pointer (some ⟨q.p, 0, none⟩)] w R := by
  apply C_mirror_Pair_Take
  unfold F_mirror_Pair_Take
  refine LdV_has (v := .int .u64 s.last) h.cells rfl ?_
  refine OpI_int.2 ?_
  refine StV_of h.cells (by show 6 < 7; decide) rfl ?_
  have h2 := h.setC (e' := s.es) (la := IntKind.wrap .u64 (s.last + 1)) (ep := s.epoch) (ua := s.ua) (ub := s.ub) rfl
  have k2 : Keep (PFoot q w) w (w.upd q.p (.cells (pairC q ⟨s.es, IntKind.wrap .u64 (s.last + 1), s.epoch, s.ua, s.ub, s.pw, s.xa, s.xb⟩) 118 (0, 0))) := (Keep.one w q.p _).mono fun _ e => Or.inl e
  refine LdV_has (v := .int .u64 (IntKind.wrap .u64 (s.last + 1))) h2.cells rfl ?_
  exact OpI_int.2 (Ret_nil.2 (hK _ h2 k2))
theorem pr_Full (h : PairAt w q s) (hK : ∀ d, R (.bool (decide (q.room ≤ (s.es.length : Int)))) (w.dr d)) : CallV Try.prog 40 #[.pointer (some ⟨q.p, 0, none⟩)] w R := by
  apply C_mirror_Pair_Full
  unfold F_mirror_Pair_Full
  refine LdV_has (v := .pointer (some ⟨q.c, 0, none⟩)) h.cells rfl ?_
  refine OpN_some.2 ?_
  exact cache_Full h.cache fun d => OpB_bool.2 (Ret_nil.2 (hK d))
def getV (es : List (Int × Ent)) (lba : Int) : Sec × Int × Int := match mlook es lba with
  | some e => (e.1, e.2, 0)
  | none => (sec [], 0, 10)
theorem cache_Get' {c m : Nat} {room : Int} {es : List (Int × Ent)} {lba : Int} {w : World} {R : Value → World → Prop} (h : CacheAt w c m room es)
    (hK : ∀ w', Keep (fun _ => False) w w' → R (.tuple #[.agg (secV (getV es lba).1), .int .u64 (getV es lba).2.1, .int .i64 (getV es lba).2.2]) w') :
    CallV Try.prog 68 #[.pointer (some ⟨c, 0, none⟩), .int .i64 lba] w R := by
  refine cache_Get h fun w2 k2 => ?_
  have := hK w2 k2
  unfold getV at this
  cases hl : mlook es lba <;> simp only [hl] at this ⊢ <;> exact this
theorem pr_Get (h : PairAt w q s) {lba : Int} (hK : ∀ w', Keep (fun _ => False) w w' → R (.tuple #[.agg (secV (getV s.es lba).1), .int .u64 (getV s.es lba).2.1, .int .i64 (getV s.es lba).2.2]) w') : CallV Try.prog 36 #[.pointer (some ⟨q.p, 0, none⟩), .int .i64 lba] w R := by
  apply C_mirror_Pair_Get
  unfold F_mirror_Pair_Get
  refine alc_fresh fun w1 hb1 k1 z1 => ?_
  have h1 := h.keep k1
  refine LdV_has (v := .pointer (some ⟨q.c, 0, none⟩)) h1.cells rfl ?_
  refine OpN_some.2 ?_
  refine cache_Get' h1.cache fun w2 k2 => ?_
  refine T3_mk.2 (OpA_agg.2 ⟨rfl, OpI_int.2 (OpI_int.2 ?_)⟩)
  have hb2 := k2.has hb1 (by simp)
  refine StA_all hb2 rfl (by rw [zc_sec]; rfl) (one_secV _) ?_
  refine LdA_all (hb2.upd_same _) rfl ?_
  refine Ret_nil.2 (hK _ ((k1.trans k2).upd (by omega) _))
theorem pr_New {base m a b : Nat} {room sz : Int} {pw : Pow} {xa xb : List Int} (hm : MaAt w m pw) (hr : ∃ pa la ca pb lb cb, RaAt w base m a sz pa la ca xa ∧ RaAt w base m b sz pb lb cb xb ∧ ∀ k, pa = some ⟨k, 0, none⟩ → ¬ pb = some ⟨k, 0, none⟩)
    (hne : a ≠ b) (hfit : (xa.length : Int) ≤ sz ∧ (xb.length : Int) ≤ sz) (hform : 37 ≤ sz ∧ sz ≤ 65536) (h1 : 1 ≤ room) (h2 : room ≤ 64) (hbase : base ≤ w.heap.size)
    (hK : ∀ p c mp w', PairAt w' ⟨p, c, mp, m, a, b, base, room, sz⟩ ⟨[], 0, 0, true, true, pw, xa, xb⟩ → Keep (fun _ => False) w w' → w.heap.size ≤ p → w.heap.size ≤ mp → R (.tuple #[.pointer (some ⟨p, 0, none⟩), .int .i64 0]) w') :
    CallV Try.prog 12 #[.pointer (some ⟨a, 0, none⟩), .pointer (some ⟨b, 0, none⟩), .int .i64 room] w R := by
  apply C_mirror_New
  unfold F_mirror_New
  apply C_mirror_Resume
  unfold F_mirror_Resume
  refine cache_New h1 h2 fun c mp w1 hc k1 hcb hmb => ?_
  refine T2_mk.2 ?_
  refine Or.inr ⟨c, 0, rfl, ?_⟩
  refine OpI_int.2 ⟨rfl, rfl, ?_⟩
  obtain ⟨pa, la, ca, pb, lb, cb, ha, hb, hpp⟩ := hr
  refine EqB_ptr hne (k1.has ha.cells (by simp)) (k1.has hb.cells (by simp)) ?_
  refine ⟨rfl, rfl, ?_⟩
  refine (Cb_false (p := _)).2 ?_
  refine ⟨_, _, run_makeMap, ?_⟩
  refine OpM_map.2 ?_
  have k2 : Keep (fun _ => False) w1 (w1.alloc (.map #[] 0)) := Keep.new _ _ _
  generalize w1.alloc (.map #[] 0) = w2 at *
  refine LoopC_of (σ := Int × Unit) (fun st w' => st.1 = 0 ∧ w' = w2) (fun _ _ => 0) ⟨rfl, rfl⟩ ?_
  rintro _ ⟨i, u⟩ w3 ⟨hi, hw⟩
  simp only at hi ⊢
  subst hi
  rw [hw]
  clear hw
  refine (Cb_false (p := _)).2 ?_
  have e0 : decide (((0 : Nat) : Int) > room) = false := decide_eq_false (by omega)
  rw [e0]
  refine (Cb_false (p := _)).2 ?_
  refine LoopC_of (σ := Int × Unit) (fun st w' => st.1 = 0 ∧ w' = w2) (fun _ _ => 0) ⟨rfl, rfl⟩ ?_
  rintro _ ⟨i, u⟩ w3 ⟨hi, hw⟩
  simp only at hi ⊢
  subst hi
  rw [hw]
  clear hw
  refine (Cb_false (p := _)).2 ?_
  refine DoQ_of (v := .agg #[.pointer (some ⟨a, 0, none⟩), .pointer (some ⟨b, 0, none⟩)]) (fun d => run_build _ _ _ _ (by kernel_rfl)) ?_
  refine OpA_agg.2 ⟨rfl, ?_⟩
  refine DoQ_of (v := .agg #[.bool true, .bool true]) (fun d => run_build _ _ _ _ (by kernel_rfl)) ?_
  refine OpA_agg.2 ⟨rfl, ?_⟩
  refine DoQ_of (v := .agg (pairC ⟨0, c, mp, m, a, b, base, room, sz⟩ ⟨[], 0, 0, true, true, pw, xa, xb⟩)) (fun d => run_build _ _ _ _ (by kernel_rfl)) ?_
  refine OpA_agg.2 ⟨rfl, ?_⟩
  refine alc_fresh fun w3 hb3 k3 z3 => ?_
  refine Ret_nil.2 ?_
  refine T2_mk.2 ?_
  refine Or.inr ⟨_, 0, rfl, ?_⟩
  refine OpI_int.2 (Ret_nil.2 ?_)
  have k02 := k1.trans k2
  have k03 := k02.trans k3
  refine hK _ c mp w3 ⟨hb3, (hc.keep k2 (by simp) (by simp)).keep k3 (by simp) (by simp), k03.has hm (by simp), ⟨pa, la, ca, pb, lb, cb, ha.keep k03 (by simp) (by simp), hb.keep k03 (by simp) (by simp), hpp⟩, hne, hfit, hform, ?_⟩ k03 ?_ hmb
  · show base ≤ w2.heap.size
    have := k02.size
    omega
  · exact k02.size

/-! ### Put -/
def putT (p b : Nat) (from_ lba : Int) (w : World) (R : Value → World → Prop) : Prop :=
  CallV Try.prog 39 #[.pointer (some ⟨p, 0, none⟩)] w fun v7 w => OpI .u64 v7 fun n2 => LdA 16 b 0 (At w) fun cs1 => DoQ Try.prog (Instr.build 46 #[(0, .int .i64 1), (1, .int .u64 n2), (2, .int .i64 lba), (3, .agg cs1)]) (At w) fun v8 =>
  OpA 19 v8 fun cs2 => CallV Try.prog 46 #[.pointer (some ⟨p, 0, none⟩), .int .i64 from_, .agg cs2] w fun v9 w => OpI .i64 v9 fun n3 => Cb (n3 != 0) (Ret [] (R (.tuple
  #[.int .u64 0, .int .i64 n3]) w)) (HeldR w fun S w => LdV p 0 (At w) fun v10 => OpN v10 fun b2 o => LdA 16 b 0 (At w) fun cs3 => CallV Try.prog 47 #[.pointer (some ⟨b2, o,
  none⟩), .int .i64 lba, .agg cs3, .int .u64 n2] w fun v11 w => OpI .i64 v11 fun n4 => Hld (S w) (Ret [] (R (.tuple #[.int .u64 n2, .int .i64 0]) w)))
theorem bld_rcd (k v l : Int) (f : Sec) (w : World) : (Instr.build 46 #[(0, .int .i64 k), (1, .int .u64 v), (2, .int .i64 l), (3, .agg (secV f))]).run Try.prog w = .ok (.agg (recV ⟨k, v, l, f⟩)) w := run_build _ _ _ _ (by kernel_rfl)
theorem PFoot.sec {w' : World} (k : Keep (PFoot q w) w w') (h : PairAt w q s) {b : Nat} {cs : Array Value} (hb : Has w b (.cells cs 40 (0, 0))) : Has w' b (.cells cs 40 (0, 0)) :=
  PFoot.has k hb (by decide) h (by decide) (by decide) (by decide)
theorem pr_putT (h : PairAt w q s) {f : Bool} {lba : Int} {d : Sec} {b : Nat} (hb : Has w b (.cells (secV d) 40 (0, 0))) (h1 : ¬ (lba < 0 ∨ 2147483647 < lba)) (h2 : (cond f s.ub s.ua) = true) (h3 : ¬ (mlook s.es lba = none ∧ q.room ≤ (s.es.length : Int)))
    (hK : ∀ w', PairAt w' q (putP q.room q.sz s f lba d).2 → Keep (PFoot q w) w w' → R (.tuple #[.int .u64 (putP q.room q.sz s f lba d).1.1, .int .i64 (putP q.room q.sz s f lba d).1.2]) w') : putT q.p b (sideN f) lba w R := by
  unfold putT
  unfold putP at hK
  rw [if_neg h1, if_neg (by rw [h2]; simp), if_neg h3] at hK
  refine pr_Take h fun w1 p1 k1 => ?_
  refine OpI_int.2 ?_
  generalize hv : IntKind.wrap .u64 (s.last + 1) = v at *
  have hb1 := PFoot.sec k1 h hb
  refine LdA_all hb1 rfl ?_
  refine DoQ_of (fun dd => bld_rcd _ _ _ _ _) ?_
  refine OpA_agg.2 ⟨rfl, ?_⟩
  have hg : recGood ⟨1, v, lba, d⟩ = true := by
    unfold recGood
    simp only [Bool.and_eq_true, decide_eq_true_eq]
    omega
  refine pr_each p1 f hg fun w2 p2 k2 => ?_
  refine OpI_int.2 ?_
  have k02 := PFoot.trans k1 k2
  simp only at hK
  obtain ⟨e1, e2, e3, e4, e5⟩ := eachP_same (sz := q.sz) (x := ⟨1, v, lba, d⟩) (f := f) { s with last := v }
  generalize hr : eachP q.sz ⟨1, v, lba, d⟩ f { s with last := v } = r at *
  refine Cb_of (fun hc => ?_) (fun hc => ?_)
  · have hc : r.1 ≠ 0 := by simpa using hc
    rw [if_pos hc] at hK
    exact Ret_nil.2 (hK w2 p2 k02)
  · have hc : r.1 = 0 := by simpa using hc
    rw [if_neg (by simp [hc])] at hK
    intro dd
    refine ⟨fun _ => True, trivial, ?_⟩
    have kd := Keep.drew (fun _ => False) w2 dd
    have p3 := p2.keep kd
    refine LdV_has (v := .pointer (some ⟨q.c, 0, none⟩)) p3.cells rfl ?_
    refine OpN_some.2 ?_
    refine LdA_all ((PFoot.sec k2 p1 hb1).dr dd) rfl ?_
    have hca : CacheAt (w2.dr dd) q.c q.mp q.room s.es := by
      have := p3.cache
      rw [e1] at this
      exact this
    refine cache_Put hca fun w4 k4 hc4 => ?_
    refine OpI_int.2 ⟨trivial, Ret_nil.2 ?_⟩
    refine hK w4 ?_ (PFoot.trans k02 ((PFoot.none kd).trans' k4 fun i hi e => Or.inr (Or.inl e)))
    obtain ⟨pa, la, ca, pb, lb, cb, ha, hb', hne⟩ := p3.rams
    have nm : ∀ {k : Nat} {cs : Array Value} {t : TypeId} {f : Nat × Nat}, Has (w2.dr dd) k (.cells cs t f) → ¬ k = q.mp := by
      intro k cs t f h1 e
      obtain ⟨_, arr, clk, hm, _⟩ := hca
      subst e
      cases h1.inj hm
    have rw_ : ∀ {p : Option Addr} {l c : Nat} {bs : List Int}, OwnL byLay (w2.dr dd) q.base 5 p l c bs → ∀ k, p = some ⟨k, 0, none⟩ → ¬ k = q.mp := by
      intro p l c bs ho k hk
      rcases Own.cases ho with ⟨h0, _⟩ | ⟨b', cur, h0, hb', hg, _⟩
      · rw [h0] at hk; cases hk
      · rw [h0] at hk; cases hk; exact nm hg
    exact ⟨k4.has p3.cells (nm p3.cells), hc4, k4.has p3.main (nm (show Has (w2.dr dd) _ _ from p3.main)), ⟨pa, la, ca, pb, lb, cb, ha.keep k4 (nm ha.cells) (rw_ ha.row), hb'.keep k4 (nm hb'.cells) (rw_ hb'.row), hne⟩, p3.ne, p3.fit, p3.form, p3.low⟩
theorem pr_Put (h : PairAt w q s) (f : Bool) {lba : Int} {d : Sec}
    (hK : ∀ w', PairAt w' q (putP q.room q.sz s f lba d).2 → Keep (PFoot q w) w w' → R (.tuple #[.int .u64 (putP q.room q.sz s f lba d).1.1, .int .i64 (putP q.room q.sz s f lba d).1.2]) w') :
    CallV Try.prog 14 #[.pointer (some ⟨q.p, 0, none⟩), .int .i64 (sideN f), .int .i64 lba, .agg (secV d)] w R := by
  apply C_mirror_Pair_Put
  unfold F_mirror_Pair_Put
  refine alc_fresh fun w1 hb1 k1 z1 => ?_
  have p1 := h.keep k1
  refine pr_side _ ?_
  refine OpB_bool.2 ⟨rfl, rfl, rfl, rfl, ?_⟩
  have e : (decide (sideN f = 0) || decide (sideN f = 1)) = true := by cases f <;> rfl
  rw [e]
  refine Cb_of (fun hc => ?_) (fun hc => ?_)
  · have hr : lba < 0 ∨ 2147483647 < lba := by
      by_cases h1 : lba < 0
      · exact Or.inl h1
      · simp [h1] at hc; exact Or.inr hc
    unfold putP at hK
    rw [if_pos hr] at hK
    exact Ret_nil.2 (hK w1 p1 (PFoot.none k1))
  have hr : ¬ (lba < 0 ∨ 2147483647 < lba) := by
    by_cases h1 : lba < 0
    · simp [h1] at hc
    · simp [h1] at hc; omega
  have hb2 : 0 ≤ sideN f ∧ sideN f < 2 := by cases f <;> decide
  refine ⟨hb2, ?_⟩
  refine LdV_has (v := .bool (cond f s.ub s.ua)) p1.cells (by cases f <;> rfl) ?_
  refine OpB_bool.2 ?_
  refine Cb_of (fun hu => ?_) (fun hu => ?_)
  · have hu : (cond f s.ub s.ua) = false := by simpa using hu
    unfold putP at hK
    rw [if_neg hr, if_pos hu] at hK
    exact Ret_nil.2 (hK w1 p1 (PFoot.none k1))
  have hu : (cond f s.ub s.ua) = true := by simpa using hu
  refine pr_Get p1 fun w2 k2 => ?_
  refine T3_mk.2 (OpA_agg.2 ⟨rfl, OpI_int.2 (OpI_int.2 ?_)⟩)
  refine copy_of (by rw [zc_sec]; rfl) rfl (one_secV _) fun w3 hb3 k3 z3 => ?_
  have k13 := k2.trans k3
  have k03 := k1.trans k13
  have p3 := p1.keep k13
  have hbb := k13.has hb1 (by simp)
  refine Cb_of (fun hg => ?_) (fun hg => ?_)
  · have hn : mlook s.es lba = none := by
      unfold getV at hg
      cases hl : mlook s.es lba with
      | none => rfl
      | some e => rw [hl] at hg; simp at hg
    refine pr_Full p3 fun dd => ?_
    have kd := Keep.drew (fun _ => False) w3 dd
    refine OpB_bool.2 ?_
    refine Cb_of (fun hf => ?_) (fun hf => ?_)
    · have hf : q.room ≤ (s.es.length : Int) := by simpa using hf
      unfold putP at hK
      rw [if_neg hr, if_neg (by rw [hu]; simp), if_pos ⟨hn, hf⟩] at hK
      exact Ret_nil.2 (hK _ (p3.keep kd) (PFoot.none (k03.trans kd)))
    · have hf : ¬ q.room ≤ (s.es.length : Int) := by simpa using hf
      refine pr_putT (p3.keep kd) (d := d) (f := f) (hbb.dr dd) hr hu (fun hh => hf hh.2) fun w5 p5 k5 => ?_
      exact hK w5 p5 (PFoot.trans (PFoot.none (k03.trans kd)) k5)
  · have hn : mlook s.es lba ≠ none := by
      unfold getV at hg
      intro hl
      rw [hl] at hg
      simp at hg
    refine pr_putT p3 (d := d) (f := f) hbb hr hu (fun hh => hn hh.1) fun w5 p5 k5 => ?_
    exact hK w5 p5 (PFoot.trans (PFoot.none k03) k5)
end calls
end Go.Proofs
