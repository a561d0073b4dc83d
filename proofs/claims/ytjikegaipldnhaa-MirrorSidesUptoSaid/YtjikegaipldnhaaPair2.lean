/-
  THE PAIR, on: Dirty, short, Load at a side, Stamp, Leave, Join, Compact; SameRecords.
-/
import Derived.Test.YtjikegaipldnhaaMPair
import Derived.Test.YtjikegaipldnhaaNext
import Derived.Test.YtjikegaipldnhaaFSame
namespace Go.Proofs
open Go Go.Ev
set_option linter.unusedSimpArgs false
set_option linter.unusedVariables false
set_option maxRecDepth 100000

/-! ### sorted lists -/
def IsD (es : List (Int × Ent)) (D : List Rec) : Prop := D.Perm (es.map recOf) ∧ ByVer D
theorem eq_of_lbas {rs : List Rec} (h : (rs.map (·.lba)).Nodup) {a b : Rec} (ha : a ∈ rs) (hb : b ∈ rs) (e : a.lba = b.lba) : a = b := by
  induction rs with
  | nil => simp at ha
  | cons r rs ih =>
    simp only [List.map_cons, List.nodup_cons] at h
    rcases List.mem_cons.1 ha with rfl | ha2
    · rcases List.mem_cons.1 hb with rfl | hb2
      · rfl
      · exact absurd (List.mem_map.2 ⟨b, hb2, e.symm⟩) h.1
    · rcases List.mem_cons.1 hb with rfl | hb2
      · exact absurd (List.mem_map.2 ⟨a, ha2, e⟩ : b.lba ∈ List.map (fun x => x.lba) rs) h.1
      · exact ih h.2 ha2 hb2
theorem isD_eq {es : List (Int × Ent)} (hn : (es.map (·.1)).Nodup) {C D : List Rec} (hc : IsD es C) (hd : IsD es D) : C = D := by
  have hl : (C.map (·.lba)).Nodup := by
    have h1 : (C.map (·.lba)).Perm ((es.map recOf).map (·.lba)) := hc.1.map _
    refine h1.nodup_iff.2 ?_
    rw [List.map_map]
    exact hn
  refine List.Perm.eq_of_pairwise (le := fun r s => ¬ cmpR s r < 0) ?_ hc.2 hd.2 (hc.1.trans hd.1.symm)
  intro r s hr hs h1 h2
  rw [cmpR_lt] at h1 h2
  have hm : s ∈ C := (hc.1.trans hd.1.symm).symm.subset hs
  have hlba : r.lba = s.lba := by omega
  exact eq_of_lbas hl hr hm hlba
section calls
variable {w : World} {q : PB} {s : PS} {R : Value → World → Prop}
theorem pr_Dirty (h : PairAt w q s) (hlen : s.es.length ≤ 1000000) (hK : ∀ D p l c w', IsD s.es D → OwnL rLay w' w.heap.size 46 p l c D → Keep (fun _ => False) w w' → R (.slice p l c) w') : CallV Try.prog 32 #[.pointer (some ⟨q.p, 0, none⟩)] w R := by
  apply C_mirror_Pair_Dirty
  unfold F_mirror_Pair_Dirty
  refine LdV_has (v := .pointer (some ⟨q.c, 0, none⟩)) h.cells rfl ?_
  refine OpN_some.2 ?_
  refine cache_List h.cache hlen fun p l c rs w' hp hb ho k => ?_
  exact OpS_slice.2 (Ret_nil.2 (hK rs p l c w' ⟨hp, hb⟩ ho k))
/-- the epoch's record -/
def epR (s : PS) : Rec := ⟨6, IntKind.wrap .u64 s.epoch, 0, sec []⟩
theorem pr_short (h : PairAt w q s) (hlen : s.es.length ≤ 1000000) (hK : ∀ D p l c w', IsD s.es D → OwnL rLay w' w.heap.size 46 p l c (epR s :: D) → Keep (fun _ => False) w w' → R (.slice p l c) w') : CallV Try.prog 57 #[.pointer (some ⟨q.p, 0, none⟩)] w R := by
  apply C_mirror_Pair_short
  unfold F_mirror_Pair_short
  intro d
  have kd := Keep.drew (fun _ => False) w d
  have h0 := h.keep kd
  refine ⟨fun w' => Has w' q.p (.cells (pairC q s) 118 (0, 0)), h0.cells, ?_⟩
  refine LdV_of (v := .int .u32 s.epoch) (fun w' hw => ⟨_, _, _, hw, rfl⟩) ?_
  refine OpI_int.2 ?_
  refine ⟨.agg (recV (epR s)), fun w' _ => run_build _ _ _ _ (by kernel_rfl), OpA_agg.2 ⟨rfl, ?_, ?_⟩⟩
  · refine ⟨_, _, bsl_r1 (epR s) (w.dr d), OpS_slice.2 ?_⟩
    have k1 := Keep.new (fun _ => False) (w.dr d) (.cells (recV (epR s)) 46)
    have h1 := Has.new (w.dr d) (.cells (recV (epR s)) 46)
    have z1 : ((w.dr d).alloc (.cells (recV (epR s)) 46)).heap.size = w.heap.size + 1 := by simp
    generalize (w.dr d).alloc (.cells (recV (epR s)) 46) = w1 at *
    have o1 : OwnL rLay w1 w.heap.size 46 (some ⟨w.heap.size, 0, none⟩) 1 1 [epR s] := OwnL.mk (xs := [epR s]) (Nat.le_refl _) h1 (by simp [maxLen]) (by rw [rLay.rows_one']; rfl)
    have p1 := h0.keep k1
    refine ⟨p1.cells, ?_⟩
    refine pr_Dirty p1 hlen fun D p l c w2 hD o2 k2 => ?_
    refine OpS_slice.2 ⟨k2.has p1.cells (by simp), ?_⟩
    have hl2 := o2.length
    have hD2 : D.length = s.es.length := by have := hD.1.length_eq; simpa using this
    have z2 := k2.size
    obtain ⟨p5, c5, w5, hr, o5, k5, hp5⟩ := run_appendF rLayT (o1.keep k2 (by simp)) o2.sl (ty := 41) (c2 := c) (by omega) (by simp only [maxLen]; omega) (by omega)
    refine ⟨_, _, hr, OpS_slice.2 ⟨k5.has (k2.has p1.cells (by simp)) (fun e => ?_), Ret_nil.2 ?_⟩⟩
    · injection e with e
      injection e with e
      have := h.cells.lt
      omega
    · refine hK D _ _ _ w5 hD o5 ?_
      exact ((kd.trans k1).trans k2).trans' k5 fun i hi e => by
        injection e with e
        injection e with e
        omega
  · refine pr_Dirty h0 hlen fun D p l c w2 hD o2 k2 => ?_
    refine OpS_slice.2 ⟨k2.has h0.cells (by simp), ?_⟩
    have hl2 := o2.length
    have hD2 : D.length = s.es.length := by have := hD.1.length_eq; simpa using this
    have z2 : w.heap.size ≤ w2.heap.size := k2.size
    refine ⟨_, _, bsl_r1 (epR s) w2, OpS_slice.2 ?_⟩
    have k1 := Keep.new (fun _ => False) w2 (.cells (recV (epR s)) 46)
    have h1 := Has.new w2 (.cells (recV (epR s)) 46)
    have z1 : (w2.alloc (.cells (recV (epR s)) 46)).heap.size = w2.heap.size + 1 := by simp
    generalize w2.alloc (.cells (recV (epR s)) 46) = w3 at *
    have o1 : OwnL rLay w3 w2.heap.size 46 (some ⟨w2.heap.size, 0, none⟩) 1 1 [epR s] := OwnL.mk (xs := [epR s]) (Nat.le_refl _) h1 (by simp [maxLen]) (by rw [rLay.rows_one']; rfl)
    have hc3 := (k2.trans k1).has h0.cells (by simp)
    refine ⟨hc3, ?_⟩
    obtain ⟨p5, c5, w5, hr, o5, k5, hp5⟩ := run_appendF rLayT (o1.rebase z2) (o2.keep k1 (by simp)).sl (ty := 41) (c2 := c) (by omega) (by simp only [maxLen]; omega) (by omega)
    refine ⟨_, _, hr, OpS_slice.2 ⟨k5.has hc3 (fun e => ?_), Ret_nil.2 ?_⟩⟩
    · injection e with e
      injection e with e
      have := h.cells.lt
      omega
    · refine hK D _ _ _ w5 hD o5 ?_
      exact ((kd.trans k2).trans k1).trans' k5 fun i hi e => by
        injection e with e
        injection e with e
        omega

/-! ### Load at a side -/
def load1 (sz : Int) (rs : List Rec) (f : Bool) (s : PS) : Int × PS :=
  match f with
  | false => let r := loadP s.pw sz s.xa rs; (r.1, { s with pw := r.2.1, xa := r.2.2 })
  | true => let r := loadP s.pw sz s.xb rs; (r.1, { s with pw := r.2.1, xb := r.2.2 })
theorem loadP_len {pw : Pow} {sz : Int} {bs : List Int} {rs : List Rec} (h : (bs.length : Int) ≤ sz) : ((loadP pw sz bs rs).2.2.length : Int) ≤ sz := by
  unfold loadP
  split
  · exact h
  · split
    · exact h
    · split
      · exact h
      · show ((rs.flatMap packB).length : Int) ≤ sz
        rw [len_flatPack]; omega
theorem pr_load1 (h : PairAt w q s) {rs : List Rec} {f : Bool} {lp : Option Addr} {ll lc : Nat} (hrs : SlL rLay w lp ll rs) (hx : ∀ x ∈ rs, recGood x = true) (hll : ll ≤ 1000000) (hK : ∀ w', PairAt w' q (load1 q.sz rs f s).2 → Keep (PFoot q w) w w' → R (.int .i64 (load1 q.sz rs f s).1) w') :
    CallV Try.prog 56 #[.pointer (some ⟨ramB q f, 0, none⟩), .slice lp ll lc] w R := by
  obtain ⟨pa, la, ca, pb, lb, cb, ha, hb, hne⟩ := h.rams
  have inj : ∀ {k : Nat} {cs cs' : Array Value} {t t' : TypeId} {f f' : Nat × Nat}, Has w k (.cells cs t f) → Has w k (.cells cs' t' f') → t = t' := by
    intro k cs cs' t t' f f' h1 h2
    have := h1.inj h2
    simp only [Obj.cells.injEq] at this
    exact this.2.1
  have nmap : ∀ {k : Nat} {cs : Array Value} {t : TypeId} {f : Nat × Nat}, Has w k (.cells cs t f) → k ≠ q.mp := by
    intro k cs t f h1 e
    obtain ⟨_, arr, clk, hm, _⟩ := h.cache
    subst e
    cases h1.inj hm
  have c1 : ∀ {r : Nat} {p : Option Addr} {l c : Nat} {bs : List Int}, RaAt w q.base q.m r q.sz p l c bs → ∀ {w' : World}, Keep (fun k => k = q.m ∨ k = r) w w' → (r = q.a ∨ r = q.b) →
      Keep (PFoot q w) w w' ∧ Has w' q.p (.cells (pairC q s) 118 (0, 0)) ∧ CacheAt w' q.c q.mp q.room s.es := by
    intro r p l c bs hr w' k hrr
    have hS : ∀ {k' : Nat} {cs : Array Value} {t : TypeId} {f : Nat × Nat}, Has w k' (.cells cs t f) → t ≠ 108 → t ≠ 110 → ¬ (k' = q.m ∨ k' = r) := by
      intro k' cs t f hk h1 h2 hor
      rcases hor with e | e
      · subst e; exact h1 (inj hk (show Has w _ _ from h.main))
      · subst e; exact h2 (inj hk hr.cells)
    have hMap : ¬ (q.mp = q.m ∨ q.mp = r) := by
      rintro (e | e)
      · exact nmap (show Has w _ _ from h.main) e.symm
      · exact nmap hr.cells e.symm
    refine ⟨k.mono ?_, k.has h.cells (hS h.cells (by decide) (by decide)), h.cache.keep k (hS h.cache.1 (by decide) (by decide)) hMap⟩
    rintro k' (e | e)
    · exact Or.inr (Or.inr (Or.inl e))
    · rcases hrr with h1 | h1
      · exact Or.inr (Or.inr (Or.inr (Or.inl (e.trans h1))))
      · exact Or.inr (Or.inr (Or.inr (Or.inr (Or.inl (e.trans h1)))))
  have other : ∀ {r r' : Nat} {p p' : Option Addr} {l l' c c' : Nat} {bs bs' : List Int}, RaAt w q.base q.m r q.sz p l c bs → RaAt w q.base q.m r' q.sz p' l' c' bs' → r ≠ r' →
      ∀ {w' : World}, Keep (fun k => k = q.m ∨ k = r) w w' → RaAt w' q.base q.m r' q.sz p' l' c' bs' := by
    intro r r' p p' l l' c c' bs bs' hr hr' hn w' k
    refine hr'.keep k ?_ ?_
    · rintro (e | e)
      · subst e; exact absurd (inj hr'.cells (show Has w _ _ from h.main)) (by decide)
      · exact hn e.symm
    · rintro k' hk (e | e)
      · subst e; exact bytes_ne hr'.row (show Has w _ _ from h.main) (by decide) hk
      · subst e; exact bytes_ne hr'.row hr.cells (by decide) hk
  cases f
  · show CallV Try.prog 56 #[.pointer (some ⟨q.a, 0, none⟩), .slice lp ll lc] w R
    refine ra_Load ha h.main hrs hx h.form.1 h.form.2 hll h.hb fun p' l' c' w' hr hm hp k => ?_
    obtain ⟨kf, hc, hca⟩ := c1 ha k (Or.inl rfl)
    refine hK w' ⟨hc, hca, hm, ⟨p', l', c', pb, lb, cb, hr, other ha hb h.ne k, ?_⟩, h.ne, ⟨loadP_len h.fit.1, h.fit.2⟩, h.form, h.low⟩ kf
    intro k' hk' hpb
    rcases hp with e | e
    · exact hne k' (e ▸ hk') hpb
    · have := e k' hk'
      have := (hb.row.lt hpb).2
      omega
  · show CallV Try.prog 56 #[.pointer (some ⟨q.b, 0, none⟩), .slice lp ll lc] w R
    refine ra_Load hb h.main hrs hx h.form.1 h.form.2 hll h.hb fun p' l' c' w' hr hm hp k => ?_
    obtain ⟨kf, hc, hca⟩ := c1 hb k (Or.inr rfl)
    refine hK w' ⟨hc, hca, hm, ⟨pa, la, ca, p', l', c', other hb ha h.ne.symm k, hr, ?_⟩, h.ne, ⟨h.fit.1, loadP_len h.fit.2⟩, h.form, h.low⟩ kf
    intro k' hpa hk'
    rcases hp with e | e
    · exact hne k' hpa (e ▸ hk')
    · have := e k' hk'
      have := (ha.row.lt hpa).2
      omega

/-! ### Stamp, Leave, Join, Compact -/
def stampP (sz : Int) (s : PS) (ep : Int) : Int × PS :=
  let r := eachP sz ⟨6, IntKind.wrap .u64 ep, 0, sec []⟩ false s
  if r.1 ≠ 0 then (r.1, r.2) else (0, { r.2 with epoch := ep })
theorem pr_Stamp (h : PairAt w q s) {ep : Int} (hK : ∀ w', PairAt w' q (stampP q.sz s ep).2 → Keep (PFoot q w) w w' → R (.int .i64 (stampP q.sz s ep).1) w') : CallV Try.prog 28 #[.pointer (some ⟨q.p, 0, none⟩), .int .u32 ep] w R := by
  apply C_mirror_Pair_Stamp
  unfold F_mirror_Pair_Stamp
  refine DoQ_of (v := .agg (recV ⟨6, IntKind.wrap .u64 ep, 0, sec []⟩)) (fun d => run_build _ _ _ _ (by kernel_rfl)) ?_
  refine OpA_agg.2 ⟨rfl, ?_⟩
  refine pr_each h false rfl fun w2 p2 k2 => ?_
  refine OpI_int.2 ?_
  unfold stampP at hK
  simp only at hK
  generalize eachP q.sz ⟨6, IntKind.wrap .u64 ep, 0, sec []⟩ false s = r at *
  refine Cb_of (fun hc => ?_) (fun hc => ?_)
  · have hc : r.1 ≠ 0 := by simpa using hc
    rw [if_pos hc] at hK
    exact Ret_nil.2 (hK w2 p2 k2)
  · have hc : r.1 = 0 := by simpa using hc
    rw [if_neg (by simp [hc])] at hK
    refine StV_of p2.cells (by show 5 < 7; decide) rfl ?_
    have h2 := p2.setC (e' := r.2.es) (la := r.2.last) (ep := ep) (ua := r.2.ua) (ub := r.2.ub) rfl
    refine Ret_nil.2 (hK _ h2 (PFoot.trans k2 ((Keep.one w2 q.p _).mono fun _ e => Or.inl e)))
def downS (s : PS) (f : Bool) (v : Bool) : PS := { s with ua := cond f s.ua v, ub := cond f v s.ub }
theorem pr_set (h : PairAt w q s) (f v : Bool) {K : World → Prop} (hK : ∀ w', PairAt w' q (downS s f v) → Keep (PFoot q w) w w' → K w') : StV q.p (3 + Int.toNat (sideN f) * 1) (.bool v) w K := by
  cases f
  · refine StV_of (o := 3) h.cells (by show 3 < 7; decide) rfl ?_
    exact hK _ (h.setC (e' := s.es) (la := s.last) (ep := s.epoch) (ua := v) (ub := s.ub) rfl) ((Keep.one w q.p _).mono fun _ e => Or.inl e)
  · refine StV_of (o := 4) h.cells (by show 4 < 7; decide) rfl ?_
    exact hK _ (h.setC (e' := s.es) (la := s.last) (ep := s.epoch) (ua := s.ua) (ub := v) rfl) ((Keep.one w q.p _).mono fun _ e => Or.inl e)
def leaveP (s : PS) (f : Bool) : Int × PS := if s.ua = false ∨ s.ub = false then (13, s) else (0, downS s f false)
theorem pr_Leave (h : PairAt w q s) (f : Bool) (hK : ∀ w', PairAt w' q (leaveP s f).2 → Keep (PFoot q w) w w' → R (.int .i64 (leaveP s f).1) w') : CallV Try.prog 29 #[.pointer (some ⟨q.p, 0, none⟩), .int .i64 (sideN f)] w R := by
  apply C_mirror_Pair_Leave
  unfold F_mirror_Pair_Leave
  refine pr_side _ ?_
  refine OpB_bool.2 ?_
  have e : (!(decide (sideN f = 0) || decide (sideN f = 1))) = false := by cases f <;> rfl
  rw [e]
  refine (Cb_false (p := _)).2 ⟨by decide, ?_⟩
  refine LdV_has (v := .bool s.ua) h.cells rfl (OpB_bool.2 ?_)
  unfold leaveP at hK
  refine Cb_of (fun hc => ?_) (fun hc => ?_)
  · have hc : s.ua = false := by simpa using hc
    rw [if_pos (Or.inl hc)] at hK
    exact Ret_nil.2 (hK w h (Keep.refl _ _))
  have hua : s.ua = true := by simpa using hc
  refine ⟨by decide, ?_⟩
  refine LdV_has (v := .bool s.ub) h.cells rfl (OpB_bool.2 ?_)
  refine Cb_of (fun hc => ?_) (fun hc => ?_)
  · have hc : s.ub = false := by simpa using hc
    rw [if_pos (Or.inr hc)] at hK
    exact Ret_nil.2 (hK w h (Keep.refl _ _))
  have hub : s.ub = true := by simpa using hc
  rw [if_neg (by simp [hua, hub])] at hK
  have hb2 : 0 ≤ sideN f ∧ sideN f < 2 := by cases f <;> decide
  refine ⟨hb2, ?_⟩
  exact pr_set h f false fun w' p' k' => Ret_nil.2 (hK w' p' k')
/-- what Join answers, once the dirty list is D -/
def joinP (sz : Int) (s : PS) (f : Bool) (D : List Rec) : Int × PS :=
  if (cond f s.ub s.ua) = true then (11, s)
  else if (load1 sz (epR s :: D) f s).1 ≠ 0 then load1 sz (epR s :: D) f s else (0, downS (load1 sz (epR s :: D) f s).2 f true)
theorem pr_Join (h : PairAt w q s) (f : Bool) (hlen : s.es.length ≤ 999999) (hg : ∀ e ∈ s.es, 0 ≤ e.1 ∧ e.1 ≤ 2147483647) (hK1 : (cond f s.ub s.ua) = true → R (.int .i64 11) w) (hK : (cond f s.ub s.ua) = false → ∀ D w', IsD s.es D → PairAt w' q (joinP q.sz s f D).2 → Keep (PFoot q w) w w' → R (.int .i64 (joinP q.sz s f D).1) w') : CallV Try.prog 30 #[.pointer (some ⟨q.p, 0, none⟩), .int .i64 (sideN f)] w R := by
  apply C_mirror_Pair_Join
  unfold F_mirror_Pair_Join
  refine pr_side _ ?_
  refine OpB_bool.2 ?_
  have e : (!(decide (sideN f = 0) || decide (sideN f = 1))) = false := by cases f <;> rfl
  rw [e]
  have hb2 : 0 ≤ sideN f ∧ sideN f < 2 := by cases f <;> decide
  refine (Cb_false (p := _)).2 ⟨hb2, ?_⟩
  refine LdV_has (v := .bool (cond f s.ub s.ua)) h.cells (by cases f <;> rfl) (OpB_bool.2 ?_)
  refine Cb_of (fun hu => ?_) (fun hu => ?_)
  · exact Ret_nil.2 (hK1 hu)
  intro d
  have kd := Keep.drew (fun _ => False) w d
  have h0 := h.keep kd
  refine ⟨fun w' => Has w' q.p (.cells (pairC q s) 118 (0, 0)), h0.cells, hb2, ?_⟩
  refine LdV_of (v := .pointer (some ⟨ramB q f, 0, none⟩)) (fun w' hw => ⟨_, _, _, hw, by cases f <;> rfl⟩) ?_
  refine OpN_some.2 ?_
  refine pr_short h0 (by omega) fun D p l c w1 hD o1 k1 => ?_
  have h1 := h0.keep k1
  refine OpS_slice.2 ⟨h1.cells, ?_⟩
  have hl1 := o1.length
  have hDl : D.length = s.es.length := by have := hD.1.length_eq; simpa using this
  have hgood : ∀ x ∈ epR s :: D, recGood x = true := by
    intro x hx
    rcases List.mem_cons.1 hx with rfl | hx
    · rfl
    · obtain ⟨e, he, rfl⟩ := List.mem_map.1 (hD.1.subset hx)
      have := hg e he
      unfold recGood recOf
      simp only [Bool.and_eq_true, decide_eq_true_eq]
      omega
  refine pr_load1 h1 o1.sl hgood (by rw [hl1, List.length_cons]; omega) fun w2 p2 k2 => ?_
  refine OpI_int.2 ?_
  have k02 := PFoot.trans (PFoot.none (kd.trans k1)) k2
  have hc2 : Has w2 q.p (.cells (pairC q s) 118 (0, 0)) := by
    have := p2.cells
    have e2 : pairC q (load1 q.sz (epR s :: D) f s).2 = pairC q s := by cases f <;> rfl
    rw [e2] at this
    exact this
  refine ⟨hc2, ?_⟩
  have hK := hK hu D
  unfold joinP at hK
  rw [if_neg (by rw [hu]; simp)] at hK
  generalize load1 q.sz (epR s :: D) f s = r at *
  refine Cb_of (fun hc => ?_) (fun hc => ?_)
  · have hc : r.1 ≠ 0 := by simpa using hc
    rw [if_pos hc] at hK
    exact Ret_nil.2 (hK w2 hD p2 k02)
  · have hc : r.1 = 0 := by simpa using hc
    rw [if_neg (by simp [hc])] at hK
    refine ⟨hb2, ?_⟩
    exact pr_set p2 f true fun w' p' k' => Ret_nil.2 (hK w' hD p' (PFoot.trans k02 k'))
def compS (sz : Int) (rs : List Rec) : List Bool → PS → Int × PS
  | [], s => (0, s)
  | f :: fs, s => if (load1 sz rs f s).1 ≠ 0 then load1 sz rs f s else compS sz rs fs (load1 sz rs f s).2
theorem load1_same {sz : Int} {rs : List Rec} {f : Bool} {s : PS} : (load1 sz rs f s).2.es = s.es ∧ (load1 sz rs f s).2.epoch = s.epoch := by cases f <;> exact ⟨rfl, rfl⟩
theorem pr_Compact (h : PairAt w q s) (hlen : s.es.length ≤ 999999) (hg : ∀ e ∈ s.es, 0 ≤ e.1 ∧ e.1 ≤ 2147483647) {D : List Rec} (hD : IsD s.es D) (hK : ∀ w', PairAt w' q (compS q.sz (epR s :: D) (upS s false) s).2 → Keep (PFoot q w) w w' → R (.int .i64 (compS q.sz (epR s :: D) (upS s false) s).1) w') : CallV Try.prog 31 #[.pointer (some ⟨q.p, 0, none⟩)] w R := by
  apply C_mirror_Pair_Compact
  unfold F_mirror_Pair_Compact
  refine pr_Up h false fun p l c w1 o1 k1 => ?_
  refine OpS_slice.2 ?_
  have h1 := h.keep k1
  have hl := o1.length
  rw [List.length_map] at hl
  generalize upS s false = fs at *
  have hDl : D.length = s.es.length := by have := hD.1.length_eq; simpa using this
  have hgood : ∀ x ∈ epR s :: D, recGood x = true := by
    intro x hx
    rcases List.mem_cons.1 hx with rfl | hx
    · rfl
    · obtain ⟨e, he, rfl⟩ := List.mem_map.1 (hD.1.subset hx)
      have := hg e he
      unfold recGood recOf
      simp only [Bool.and_eq_true, decide_eq_true_eq]
      omega
  have hnd : (s.es.map (·.1)).Nodup := h.cache.nodup
  refine LoopC_of (σ := Int × Unit) (fun st w' => ∃ (k : Nat) (s' : PS), st.1 = (k : Int) ∧ k ≤ l ∧ PairAt w' q s' ∧ s'.es = s.es ∧ s'.epoch = s.epoch ∧ compS q.sz (epR s :: D) (fs.drop k) s' = compS q.sz (epR s :: D) fs s ∧ Keep (PFoot q w) w w' ∧ OwnL pLay w' w.heap.size 27 p l c (fs.map (ramB q)))
    (fun st _ => (l - st.1).toNat) ⟨0, s, rfl, by omega, h1, rfl, rfl, rfl, PFoot.none k1, o1⟩ ?_
  rintro _ ⟨i, u⟩ w3 ⟨k, s', hi, hk, h3, hes, hep, he, k3, o3⟩
  simp only at hi ⊢
  subst hi
  refine Cb_of (fun hc => ?_) (fun hc => ?_)
  · have hc : k < l := by simpa using hc
    obtain ⟨g, hg'⟩ : ∃ g, fs[k]? = some g := ⟨_, List.getElem?_eq_getElem (by omega)⟩
    refine o3.ld0 (i := (k : Int)) (n := 1) (x := ramB q g) (v := .pointer (some ⟨ramB q g, 0, none⟩)) rfl (by omega) (by simp [hg']) rfl ?_
    refine OpN_some.2 ?_
    refine pr_short h3 (by rw [hes]; omega) fun D' p' l' c' w4 hD' o4 k4 => ?_
    refine OpS_slice.2 ?_
    have eD : D' = D := isD_eq hnd (by rw [← hes]; exact hD') hD
    have eE : epR s' = epR s := by unfold epR; rw [hep]
    rw [eD, eE] at o4
    have h4 := h3.keep k4
    have hl4 := o4.length
    refine pr_load1 h4 o4.sl hgood (by rw [hl4, List.length_cons]; omega) fun w5 p5 k5 => ?_
    refine OpI_int.2 ?_
    have ed : fs.drop k = g :: fs.drop (k + 1) := by
      rw [List.drop_eq_getElem_cons (by omega)]
      congr 1
      have := List.getElem?_eq_getElem (l := fs) (i := k) (by omega)
      rw [hg'] at this
      exact (Option.some.inj this).symm
    rw [ed] at he
    have hst : compS q.sz (epR s :: D) (g :: fs.drop (k + 1)) s' = if (load1 q.sz (epR s :: D) g s').1 ≠ 0 then load1 q.sz (epR s :: D) g s' else compS q.sz (epR s :: D) (fs.drop (k + 1)) (load1 q.sz (epR s :: D) g s').2 := rfl
    rw [hst] at he
    have k35 := PFoot.trans (PFoot.trans k3 (PFoot.none k4)) k5
    refine Cb_of (fun hz => ?_) (fun hz => ?_)
    · have hz : (load1 q.sz (epR s :: D) g s').1 ≠ 0 := by simpa using hz
      rw [if_pos hz] at he
      rw [← he] at hK
      exact Ret_nil.2 (hK w5 p5 k35)
    · have hz : (load1 q.sz (epR s :: D) g s').1 = 0 := by simpa using hz
      rw [if_neg (by simp [hz])] at he
      have ek : IntKind.wrap .i64 ((k : Int) + 1) = ((k + 1 : Nat) : Int) := by
        have : l ≤ maxLen := Nat.le_trans o3.cap.1 o3.cap.2
        simp only [maxLen] at this
        rw [wrapI (by omega) (by omega)]; omega
      refine ⟨_, by show ((l : Int) - IntKind.wrap .i64 ((k : Int) + 1)).toNat < ((l : Int) - (k : Int)).toNat; rw [ek]; omega, ⟨k + 1, _, ek, by omega, p5, load1_same.1.trans hes, load1_same.2.trans hep, he, k35, ?_⟩, rfl⟩
      refine (o3.keep k4 (by simp)).keep k5 fun k' hk' => ?_
      have o34 := o3.keep k4 (by simp)
      rcases Own.cases o34 with ⟨h0, _⟩ | ⟨b', cur, h0, _, hg', _⟩
      · rw [h0] at hk'; cases hk'
      · rw [h0] at hk'; cases hk'
        intro hf
        have := PFoot.has (w' := w4.upd k' (.cells #[] 0 (0, 0))) (Keep.mono (Keep.one w4 k' (.cells #[] 0 (0, 0))) fun _ e => e ▸ hf) hg' (by decide) h4 (by decide) (by decide) (by decide)
        have h5 : Has (w4.upd k' (.cells #[] 0 (0, 0))) k' (.cells #[] 0 (0, 0)) := hg'.upd_same _
        have h6 := this.inj h5
        simp only [Obj.cells.injEq] at h6
        exact absurd h6.2.1 (by decide)
  · have hc : k = l := by
      have : ¬ ((k : Int) < (l : Int)) := by simpa using hc
      omega
    subst hc
    have : fs.drop k = [] := List.drop_of_length_le (by omega)
    rw [this] at he
    have he : (0, s') = compS q.sz (epR s :: D) fs s := he
    rw [← he] at hK
    exact Ret_nil.2 (hK w3 h3 k3)
end calls

/-! ### the references' SameRecords -/
theorem EqB_rec_ne {x y : Operand} {r s : Rec} {C : World → Prop} {K : Bool → Prop} (hr : RecOk r) (hs : RecOk s) (hK : ∀ b : Bool, (b = true ↔ r ≠ s) → K b) :
    EqB Try.prog .neq 46 x y (.agg (recV r)) (.agg (recV s)) C K :=
  EqB_flat_ne (ks := recKs) (by kernel_rfl) (by kernel_rfl) (by kernel_rfl) (by kernel_rfl) (by kernel_rfl) (by simpa [recV] using fits_recL hr) (by simpa [recV] using fits_recL hs)
    fun b hb => hK b (hb.trans ⟨fun h e => h (by rw [e]), fun h e => h (recL_inj (by simpa [recV] using e))⟩)
theorem same_self {ap bp : Option Addr} {al ac bl bc : Nat} {rs : List Rec} {w : World} {R : Value → World → Prop} (ha : SlL rLay w ap al rs) (hb : SlL rLay w bp bl rs) (hl : al ≤ 1000000) (ok : ∀ r ∈ rs, RecOk r) (hK : ∀ w', Keep (fun _ => False) w w' → R (.bool true) w') :
    CallV Try.prog 25 #[.slice ap al ac, .slice bp bl bc] w R := by
  apply C_ravelinref04_SameRecords
  unfold F_ravelinref04_SameRecords
  have h1 := ha.1
  have h2 := hb.1
  have e : (((al : Nat) : Int) != ((bl : Nat) : Int)) = false := by rw [h1, h2]; simp
  rw [e]
  refine (Cb_false (p := _)).2 ?_
  refine LoopC_of (σ := Int × Unit) (fun s w' => ∃ j : Nat, s.1 = j ∧ j ≤ al ∧ Keep (fun _ => False) w w') (fun s _ => (al - s.1).toNat) ⟨0, rfl, by omega, Keep.refl _ _⟩ ?_
  rintro _ ⟨i, u⟩ w1 ⟨j, hi, hj, k1⟩
  simp only at hi ⊢
  subst hi
  refine Cb_of (fun hc => ?_) (fun hc => ?_)
  · have hc : j < al := by simpa using hc
    have hget : rs[j]? = some rs[j] := List.getElem?_eq_getElem (by omega)
    generalize rs[j] = r at hget
    have ew : IntKind.wrap .i64 ((j : Int) + 1) = ((j + 1 : Nat) : Int) := by rw [wrapI (by omega) (by omega)]; omega
    refine (ha.keepB k1 (by simp)).ldA (i := (j : Int)) (n := 19) (x := r) rfl (by omega) (by simpa using hget) ?_
    refine (hb.keepB k1 (by simp)).ldA (i := (j : Int)) (n := 19) (x := r) rfl (by omega) (by simpa using hget) ?_
    have hr := ok r (List.mem_of_getElem? hget)
    refine EqB_rec_ne hr hr fun b hb d => ?_
    have hbf : b = false := by
      cases b
      · rfl
      · exact absurd rfl (hb.1 rfl)
    rw [hbf]
    refine (Cb_false (p := _)).2 ⟨_, by show ((al : Int) - IntKind.wrap .i64 ((j : Int) + 1)).toNat < ((al : Int) - (j : Int)).toNat; rw [ew]; omega, ⟨j + 1, ew, by omega, k1.dr d⟩, rfl⟩
  · exact Ret_nil.2 (hK w1 k1)
end Go.Proofs
