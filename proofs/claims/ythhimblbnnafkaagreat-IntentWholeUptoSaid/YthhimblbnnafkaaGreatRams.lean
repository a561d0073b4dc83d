/-
  TWO MEMORIES ON ONE POWER: a record to one of them, a record to each of a list; groups of the journal in them. At any power and any room.
-/
import Derived.Test.YthhimblbnnafkaaGreatIntM
namespace Go.Proofs
open Go Go.Ev
set_option linter.unusedSimpArgs false
set_option linter.unusedVariables false
set_option maxRecDepth 100000

/-- where two memories lie: the power, the memories, from where on their rows lie; how many bytes each takes -/
structure MB where
  m : Nat
  a : Nat
  b : Nat
  base : Nat
  sz : Int
structure MS where
  pw : Pow
  xa : List Int
  xb : List Int
structure MemsAt (w : World) (q : MB) (s : MS) : Prop where
  main : MaAt w q.m s.pw
  rams : ∃ pa la ca pb lb cb, RaAt w q.base q.m q.a q.sz pa la ca s.xa ∧ RaAt w q.base q.m q.b q.sz pb lb cb s.xb ∧ ∀ k, pa = some ⟨k, 0, none⟩ → ¬ pb = some ⟨k, 0, none⟩
  ne : q.a ≠ q.b
  fit : (s.xa.length : Int) ≤ q.sz ∧ (s.xb.length : Int) ≤ q.sz
  form : 37 ≤ q.sz ∧ q.sz ≤ 65536
  low : q.base ≤ w.heap.size
def MFoot (q : MB) (w : World) (k : Nat) : Prop := k = q.m ∨ k = q.a ∨ k = q.b ∨ (q.base ≤ k ∧ ∃ cs, Has w k (.cells cs 5 (0, 0)))
theorem MFoot.trans {q : MB} {w w1 w2 : World} (h : Keep (MFoot q w) w w1) (k : Keep (MFoot q w1) w1 w2) : Keep (MFoot q w) w w2 :=
  h.trans' k fun i hi hf => Classical.byContradiction fun hn => by
    rcases hf with e | e | e | ⟨hb, cs, hc⟩
    · exact hn (Or.inl e)
    · exact hn (Or.inr (Or.inl e))
    · exact hn (Or.inr (Or.inr (Or.inl e)))
    · exact hn (Or.inr (Or.inr (Or.inr ⟨hb, cs, (h.block i hi hn).symm.trans hc⟩)))
theorem MFoot.none {q : MB} {w w' : World} (h : Keep (fun _ => False) w w') : Keep (MFoot q w) w w' := h.mono fun _ h => h.elim
/-- a block of another type is none of theirs -/
theorem MFoot.not {q : MB} {s : MS} {w : World} {k : Nat} {cs : Array Value} {t : TypeId} {f : Nat × Nat} (hk : Has w k (.cells cs t f)) (hp : MemsAt w q s) (ht : t ≠ 5) (h2 : t ≠ 209) (h3 : t ≠ 214) : ¬ MFoot q w k := by
  have no : ∀ {cs' : Array Value} {t' : TypeId} {f' : Nat × Nat} {b : Nat}, Has w b (.cells cs' t' f') → t ≠ t' → k ≠ b := by
    intro cs' t' f' b hb ht' e
    subst e
    have := hk.inj hb
    simp only [Obj.cells.injEq] at this
    exact ht' this.2.1
  obtain ⟨_, _, _, _, _, _, ha, hb, _⟩ := hp.rams
  rintro (e | e | e | ⟨_, cs', hc⟩)
  · exact no (show Has w _ _ from hp.main) h2 e
  · exact no ha.cells h3 e
  · exact no hb.cells h3 e
  · exact no hc ht rfl
theorem MFoot.map {q : MB} {s : MS} {w : World} {k : Nat} {x : Obj} (hk : Has w k x) (hp : MemsAt w q s) (hx : ∀ cs t f, x ≠ .cells cs t f) : ¬ MFoot q w k := by
  have no : ∀ {cs' : Array Value} {t' : TypeId} {f' : Nat × Nat} {b : Nat}, Has w b (.cells cs' t' f') → k ≠ b := by
    intro cs' t' f' b hb e
    subst e
    exact hx _ _ _ (hk.inj hb)
  obtain ⟨_, _, _, _, _, _, ha, hb, _⟩ := hp.rams
  rintro (e | e | e | ⟨_, cs', hc⟩)
  · exact no (show Has w _ _ from hp.main) e
  · exact no ha.cells e
  · exact no hb.cells e
  · exact no hc rfl
theorem MFoot.has {q : MB} {s : MS} {w w' : World} (h : Keep (MFoot q w) w w') {k : Nat} {cs : Array Value} {t : TypeId} {f : Nat × Nat} (hk : Has w k (.cells cs t f)) (hp : MemsAt w q s) (ht : t ≠ 5) (h2 : t ≠ 209) (h3 : t ≠ 214) : Has w' k (.cells cs t f) :=
  h.has hk (MFoot.not hk hp ht h2 h3)
theorem MFoot.slt {α : Type} {L : Lay α} {q : MB} {s : MS} {w w' : World} (h : Keep (MFoot q w) w w') {t : TypeId} {p : Option Addr} {l c : Nat} {xs : List α} (ho : SlT L w t p l c xs) (hp : MemsAt w q s) (ht : t ≠ 5) (h2 : t ≠ 209) (h3 : t ≠ 214) : SlT L w' t p l c xs :=
  ho.keepB h fun k cur hk => MFoot.not hk hp ht h2 h3
theorem MFoot.own {α : Type} {L : Lay α} {q : MB} {s : MS} {w w' : World} (h : Keep (MFoot q w) w w') {b : Nat} {t : TypeId} {p : Option Addr} {l c : Nat} {xs : List α} (ho : OwnL L w b t p l c xs) (hp : MemsAt w q s) (ht : t ≠ 5) (h2 : t ≠ 209) (h3 : t ≠ 214) : OwnL L w' b t p l c xs := by
  refine ho.keep h fun k hk => ?_
  rcases Own.cases ho with ⟨h0, _⟩ | ⟨b', cur, h0, _, hg, _⟩
  · rw [h0] at hk; cases hk
  · rw [h0] at hk; cases hk
    exact MFoot.not hg hp ht h2 h3
theorem MemsAt.keep {w w' : World} {q : MB} {s : MS} (h : MemsAt w q s) (k : Keep (fun _ => False) w w') : MemsAt w' q s := by
  obtain ⟨pa, la, ca, pb, lb, cb, ha, hb, hne⟩ := h.rams
  exact ⟨k.has h.main (by simp), ⟨pa, la, ca, pb, lb, cb, ⟨k.has ha.cells (by simp), ha.row.keep k (by simp)⟩, ⟨k.has hb.cells (by simp), hb.row.keep k (by simp)⟩, hne⟩, h.ne, h.fit, h.form, Nat.le_trans h.low k.size⟩
/-- what changes other blocks, and the power alone of theirs -/
theorem MemsAt.pow {w w' : World} {q : MB} {s : MS} {S : Nat → Prop} {pw : Pow} (h : MemsAt w q s) (k : Keep S w w') (hS : ∀ i, MFoot q w i → S i → i = q.m) (hm : MaAt w' q.m pw) : MemsAt w' q ⟨pw, s.xa, s.xb⟩ := by
  obtain ⟨pa, la, ca, pb, lb, cb, ha, hb, hne⟩ := h.rams
  have no : ∀ {cs' : Array Value} {f' : Nat × Nat} {t' : TypeId} {b : Nat}, Has w b (.cells cs' t' f') → t' ≠ 209 → b ≠ q.m := by
    intro cs' f' t' b hb ht' e
    subst e
    have := hb.inj (show Has w _ _ from h.main)
    simp only [Obj.cells.injEq] at this
    exact ht' this.2.1
  have rowF : ∀ {p : Option Addr} {l c : Nat} {bs : List Int}, OwnL byLay w q.base 5 p l c bs → ∀ k, p = some ⟨k, 0, none⟩ → ¬ S k := by
    intro p l c bs ho k hk hs
    rcases Own.cases ho with ⟨h0, _⟩ | ⟨b', cur, h0, hb', hg, _⟩
    · rw [h0] at hk; cases hk
    · rw [h0] at hk; cases hk
      exact no hg (by decide) (hS _ (Or.inr (Or.inr (Or.inr ⟨hb', cur, hg⟩))) hs)
  exact ⟨hm, ⟨pa, la, ca, pb, lb, cb, ⟨k.has ha.cells fun hs => no ha.cells (by decide) (hS _ (Or.inr (Or.inl rfl)) hs), ha.row.keep k (rowF ha.row)⟩, ⟨k.has hb.cells fun hs => no hb.cells (by decide) (hS _ (Or.inr (Or.inr (Or.inl rfl))) hs), hb.row.keep k (rowF hb.row)⟩, hne⟩, h.ne, h.fit, h.form, Nat.le_trans h.low k.size⟩

/-- a record to one of them: the answer, and what they are then -/
def appM (sz : Int) (x : Rec) (f : Bool) (s : MS) : Int × MS := match f with
  | false => ((appP s.pw sz s.xa x).1, ⟨(appP s.pw sz s.xa x).2.1, (appP s.pw sz s.xa x).2.2, s.xb⟩)
  | true => ((appP s.pw sz s.xb x).1, ⟨(appP s.pw sz s.xb x).2.1, s.xa, (appP s.pw sz s.xb x).2.2⟩)
def eachM (sz : Int) (x : Rec) : List Bool → MS → Int × MS
  | [], s => (0, s)
  | f :: fs, s => if (appM sz x f s).1 ≠ 0 then appM sz x f s else eachM sz x fs (appM sz x f s).2
def ramM (q : MB) (f : Bool) : Nat := cond f q.b q.a
/-- one record after another to all of them -/
def eachA (sz : Int) (fs : List Bool) : List Rec → MS → Int × MS
  | [], s => (0, s)
  | r :: rs, s => if (eachM sz r fs s).1 ≠ 0 then eachM sz r fs s else eachA sz fs rs (eachM sz r fs s).2
def badPut (x : PutS) : Bool := decide (x.plc.dk < 0) || decide (32 ≤ x.plc.dk) || decide (x.plc.at_ < 0) || decide (1024 ≤ x.plc.at_)
def beginM (sz : Int) (v : Int) (xs : List PutS) (fs : List Bool) (s : MS) : Int × MS :=
  if xs.any badPut = true then (2, s) else eachA sz fs (xs.map (recI v) ++ [recK 4 v]) s
theorem lenM {pw : Pow} {sz : Int} {bs : List Int} {x : Rec} (h : (bs.length : Int) ≤ sz) : ((appP pw sz bs x).2.2.length : Int) ≤ sz := by
  have hp : (packB x).length = 37 := rfl
  unfold appP
  split
  · exact h
  · split
    · exact h
    · rename_i h1 h2
      have h2 : ¬ (sz - (bs.length : Int)) / 37 < 1 := h2
      have : 37 ≤ sz - (bs.length : Int) := by omega
      split <;> simp <;> omega
section calls
variable {w : World} {q : MB} {s : MS} {R : Value → World → Prop}
theorem mem_app (h : MemsAt w q s) {x : Rec} {f : Bool} (hx : recGood x = true) (hK : ∀ w', MemsAt w' q (appM q.sz x f s).2 → Keep (MFoot q w) w w' → R (.int .i64 (appM q.sz x f s).1) w') :
    CallV Tryz.prog 165 #[.pointer (some ⟨ramM q f, 0, none⟩), .agg (recV x)] w R := by
  obtain ⟨pa, la, ca, pb, lb, cb, ha, hb, hne⟩ := h.rams
  have inj : ∀ {k : Nat} {cs cs' : Array Value} {t t' : TypeId} {f f' : Nat × Nat}, Has w k (.cells cs t f) → Has w k (.cells cs' t' f') → t = t' := by
    intro k cs cs' t t' f f' h1 h2
    have := h1.inj h2
    simp only [Obj.cells.injEq] at this
    exact this.2.1
  have bne : ∀ {p : Option Addr} {l c : Nat} {bs : List Int} {k : Nat} {cs : Array Value} {t : TypeId} {f : Nat × Nat}, OwnL byLay w q.base 5 p l c bs → Has w k (.cells cs t f) → t ≠ 5 → ¬ p = some ⟨k, 0, none⟩ := by
    intro p l c bs k cs t f ho hk ht hp
    rcases Own.cases ho with ⟨h0, _⟩ | ⟨b', cur, h0, _, hg, _⟩
    · rw [h0] at hp; cases hp
    · rw [h0] at hp; cases hp; exact ht (inj hk hg)
  have rowF : ∀ {p : Option Addr} {l c : Nat} {bs : List Int}, OwnL byLay w q.base 5 p l c bs → ∀ k, p = some ⟨k, 0, none⟩ → q.base ≤ k ∧ ∃ cs, Has w k (.cells cs 5 (0, 0)) := by
    intro p l c bs ho k hk
    rcases Own.cases ho with ⟨h0, _⟩ | ⟨b', cur, h0, hb', hg, _⟩
    · rw [h0] at hk; cases hk
    · rw [h0] at hk; cases hk; exact ⟨hb', cur, hg⟩
  have c1 : ∀ {r : Nat} {p : Option Addr} {l c : Nat} {bs : List Int}, RaAt w q.base q.m r q.sz p l c bs → ∀ {w' : World}, Keep (fun k => k = q.m ∨ k = r ∨ p = some ⟨k, 0, none⟩) w w' → (r = q.a ∨ r = q.b) → Keep (MFoot q w) w w' := by
    intro r p l c bs hr w' k hrr
    refine k.mono ?_
    rintro k' (e | e | e)
    · exact Or.inl e
    · rcases hrr with h1 | h1
      · exact Or.inr (Or.inl (e.trans h1))
      · exact Or.inr (Or.inr (Or.inl (e.trans h1)))
    · exact Or.inr (Or.inr (Or.inr (rowF hr.row _ e)))
  have other : ∀ {r r' : Nat} {p p' : Option Addr} {l l' c c' : Nat} {bs bs' : List Int}, RaAt w q.base q.m r q.sz p l c bs → RaAt w q.base q.m r' q.sz p' l' c' bs' → r ≠ r' → (∀ k, p = some ⟨k, 0, none⟩ → ¬ p' = some ⟨k, 0, none⟩) →
      ∀ {w' : World}, Keep (fun k => k = q.m ∨ k = r ∨ p = some ⟨k, 0, none⟩) w w' → RaAt w' q.base q.m r' q.sz p' l' c' bs' := by
    intro r r' p p' l l' c c' bs bs' hr hr' hn hpp w' k
    refine ⟨k.has hr'.cells ?_, hr'.row.keep k ?_⟩
    · rintro (e | e | e)
      · subst e; exact absurd (inj hr'.cells (show Has w _ _ from h.main)) (by decide)
      · exact hn e.symm
      · exact bne hr.row hr'.cells (by decide) e
    · rintro k' hk (e | e | e)
      · subst e; exact bne hr'.row (show Has w _ _ from h.main) (by decide) hk
      · subst e; exact bne hr'.row hr.cells (by decide) hk
      · exact hpp _ e hk
  cases f
  · show CallV Tryz.prog 165 #[.pointer (some ⟨q.a, 0, none⟩), .agg (recV x)] w R
    refine ra_Append ha h.main hx h.form.1 h.form.2 (by rw [ha.row.length]; exact h.fit.1) h.low fun p' l' c' w' hr hm hp k => ?_
    refine hK w' ⟨hm, ⟨p', l', c', pb, lb, cb, hr, other ha hb h.ne hne k, ?_⟩, h.ne, ⟨lenM h.fit.1, h.fit.2⟩, h.form, Nat.le_trans h.low k.size⟩ (c1 ha k (Or.inl rfl))
    intro k' hk' hpb
    rcases hp with e | ⟨k2, h2, e⟩
    · exact hne k' (e ▸ hk') hpb
    · rw [e] at hk'
      cases hk'
      have := (hb.row.lt hpb).2
      omega
  · show CallV Tryz.prog 165 #[.pointer (some ⟨q.b, 0, none⟩), .agg (recV x)] w R
    refine ra_Append hb h.main hx h.form.1 h.form.2 (by rw [hb.row.length]; exact h.fit.2) h.low fun p' l' c' w' hr hm hp k => ?_
    refine hK w' ⟨hm, ⟨pa, la, ca, p', l', c', other hb ha h.ne.symm (fun k h1 h2 => hne k h2 h1) k, hr, ?_⟩, h.ne, ⟨h.fit.1, lenM h.fit.2⟩, h.form, Nat.le_trans h.low k.size⟩ (c1 hb k (Or.inr rfl))
    intro k' hpa hk'
    rcases hp with e | ⟨k2, h2, e⟩
    · exact hne k' hpa (e ▸ hk')
    · rw [e] at hk'
      cases hk'
      have := (ha.row.lt hpa).2
      omega
theorem i_eachM {x : Rec} {fs : List Bool} {rp : Option Addr} {rl rc : Nat} (h : MemsAt w q s) (hx : recGood x = true) (hr : SlT dLay w 104 rp rl rc (fs.map (ramM q)))
    (hK : ∀ w', MemsAt w' q (eachM q.sz x fs s).2 → Keep (MFoot q w) w w' → R (.int .i64 (eachM q.sz x fs s).1) w') :
    CallV Tryz.prog 200 #[.slice rp rl rc, .agg (recV x)] w R := by
  apply C_intent_each
  unfold F_intent_each
  refine alc_fresh fun w1 hb1 k1 z1 => ?_
  have hlen : rl = fs.length := by have := hr.len; rw [List.length_map] at this; exact this
  have hcap := hr.cap
  have hml : rl ≤ maxLen := Nat.le_trans hcap.1 hcap.2
  have hml' : rl ≤ 9223372036854775807 := by simpa [maxLen] using hml
  refine LoopC_of (σ := Int × Unit) (fun st w' => ∃ (k : Nat) (s' : MS), st.1 = (k : Int) ∧ k ≤ rl ∧ MemsAt w' q s' ∧ eachM q.sz x (fs.drop k) s' = eachM q.sz x fs s ∧ Keep (MFoot q w) w w' ∧ SlT dLay w' 104 rp rl rc (fs.map (ramM q)) ∧ Has w' w.heap.size (.cells (recV x) 246 (0, 0)))
    (fun st _ => ((rl : Int) - st.1).toNat) ⟨0, s, rfl, by omega, h.keep k1, rfl, MFoot.none k1, hr.keep k1 (by simp), hb1⟩ ?_
  rintro _ ⟨i, u⟩ w3 ⟨k, s', hi, hk, h3, he, k3, o3, hb3⟩
  simp only at hi ⊢
  subst hi
  refine Cb_of (fun hc => ?_) (fun hc => ?_)
  · have hc : k < rl := by
      have : (k : Int) < (rl : Int) := by simpa using hc
      omega
    obtain ⟨g, hg⟩ : ∃ g, fs[k]? = some g := ⟨_, List.getElem?_eq_getElem (by omega)⟩
    refine o3.ld0 (i := (k : Int)) (n := 1) (x := ramM q g) (v := .pointer (some ⟨ramM q g, 0, none⟩)) rfl (by omega) (by simp [hg]) rfl ?_
    refine OpN_some.2 ?_
    refine LdA_all hb3 rfl ?_
    refine mem_app h3 (f := g) hx fun w4 h4 k4 => ?_
    refine OpI_int.2 ?_
    have ed : fs.drop k = g :: fs.drop (k + 1) := by
      rw [List.drop_eq_getElem_cons (by omega)]
      congr 1
      have := List.getElem?_eq_getElem (l := fs) (i := k) (by omega)
      rw [hg] at this
      exact (Option.some.inj this).symm
    rw [ed] at he
    have hst : eachM q.sz x (g :: fs.drop (k + 1)) s' = if (appM q.sz x g s').1 ≠ 0 then appM q.sz x g s' else eachM q.sz x (fs.drop (k + 1)) (appM q.sz x g s').2 := rfl
    rw [hst] at he
    have k34 := MFoot.trans k3 k4
    refine Cb_of (fun hz => ?_) (fun hz => ?_)
    · have hz : (appM q.sz x g s').1 ≠ 0 := by simpa using hz
      rw [if_pos hz] at he
      rw [← he] at hK
      exact Ret_nil.2 (hK w4 h4 k34)
    · have hz : (appM q.sz x g s').1 = 0 := by simpa using hz
      rw [if_neg (by simp [hz])] at he
      have ek : IntKind.wrap .i64 ((k : Int) + 1) = ((k + 1 : Nat) : Int) := by rw [wrapI (by omega) (by omega)]; omega
      exact ⟨_, by show ((rl : Int) - IntKind.wrap .i64 ((k : Int) + 1)).toNat < ((rl : Int) - (k : Int)).toNat; rw [ek]; omega, ⟨k + 1, _, ek, by omega, h4, he, k34, MFoot.slt k4 o3 h3 (by decide) (by decide) (by decide), MFoot.has k4 hb3 h3 (by decide) (by decide) (by decide)⟩, rfl⟩
  · have hc : k = rl := by
      have : ¬ ((k : Int) < (rl : Int)) := by simpa using hc
      omega
    subst hc
    have : fs.drop k = [] := List.drop_of_length_le (by omega)
    rw [this] at he
    have he : (0, s') = eachM q.sz x fs s := he
    rw [← he] at hK
    exact Ret_nil.2 (hK w3 h3 k3)
theorem eachA_step {sz : Int} {fs : List Bool} {r : Rec} {rs : List Rec} {s : MS} : eachA sz fs (r :: rs) s = if (eachM sz r fs s).1 ≠ 0 then eachM sz r fs s else eachA sz fs rs (eachM sz r fs s).2 := rfl
theorem recI_good {v : Int} {x : PutS} (h : badPut x = false) : recGood (recI v x) = true := by
  unfold badPut at h
  simp only [Bool.or_eq_false_iff, decide_eq_false_iff_not] at h
  show (decide (1 ≤ (3 : Int)) && decide ((3 : Int) ≤ 6) && decide (0 ≤ x.plc.dk * 1024 + x.plc.at_) && decide (x.plc.dk * 1024 + x.plc.at_ ≤ 2147483647)) = true
  rw [decide_eq_true (show 0 ≤ x.plc.dk * 1024 + x.plc.at_ by omega), decide_eq_true (show x.plc.dk * 1024 + x.plc.at_ ≤ 2147483647 by omega)]
  rfl
theorem i_BeginM {v : Int} {xs : List PutS} {fs : List Bool} {rp pp : Option Addr} {rl rc pl pc : Nat} (h : MemsAt w q s) (hr : SlT dLay w 104 rp rl rc (fs.map (ramM q))) (hrl : rl ≤ 1000000) (hps : SlT puLay w 88 pp pl pc xs)
    (hK : ∀ w', MemsAt w' q (beginM q.sz v xs fs s).2 → Keep (MFoot q w) w w' → R (.int .i64 (beginM q.sz v xs fs s).1) w') :
    CallV Tryz.prog 131 #[.slice rp rl rc, .int .u64 v, .slice pp pl pc] w R := by
  apply C_intent_Begin
  unfold F_intent_Begin
  have hlen := hps.len
  have hcap := hps.cap
  have hml : pl ≤ 9223372036854775807 := by have := Nat.le_trans hcap.1 hcap.2; simpa [maxLen] using this
  refine i_missing hr.sl hrl (OpB_bool.2 ((Cb_false (p := _)).2 ?_))
  -- all of them have a place
  refine LoopC_of (σ := Int × Unit) (fun st w' => ∃ i : Nat, st.1 = (i : Int) ∧ i ≤ pl ∧ Keep (fun _ => False) w w' ∧ (xs.take i).any badPut = false) (fun st _ => ((pl : Int) - st.1).toNat) ⟨0, rfl, by omega, Keep.refl _ _, rfl⟩ ?_
  rintro _ ⟨i, u⟩ w1 ⟨i', hi, hil, k1, hno⟩
  simp only at hi ⊢
  subst hi
  refine Cb_of (fun hc => ?_) (fun hc => ?_)
  · have hc : i' < pl := by
      have : (i' : Int) < (pl : Int) := by simpa using hc
      omega
    have ek : IntKind.wrap .i64 ((i' : Int) + 1) = ((i' + 1 : Nat) : Int) := by rw [wrapI (by omega) (by omega)]; omega
    obtain ⟨x, hx⟩ : ∃ x, xs[i']? = some x := ⟨_, List.getElem?_eq_getElem (by omega)⟩
    refine (hps.keep k1 (by simp)).ldA (i := (i' : Int)) (n := 19) (x := x) rfl (by omega) (by rw [Int.toNat_natCast]; exact hx) ?_
    rw [pu_row]
    refine copy_of zc_pu rfl (one_putSL x) fun w2 hb2 k2 z2 => ?_
    have bad : badPut x = true → ∀ w', Keep (fun _ => False) w w' → R (.int .i64 2) w' := fun hb w' k' => by
      have : xs.any badPut = true := List.any_eq_true.2 ⟨x, List.mem_of_getElem? hx, hb⟩
      unfold beginM at hK
      rw [if_pos this] at hK
      exact hK w' (h.keep k') (MFoot.none k')
    have k12 := k1.trans k2
    refine LdV_has (v := .int .i64 x.plc.dk) hb2 rfl (OpI_int.2 ?_)
    refine Cb_of (fun c1 => Ret_nil.2 (bad (by unfold badPut; rw [c1]; rfl) _ k12)) (fun c1 => ?_)
    refine LdV_has (v := .int .i64 x.plc.dk) hb2 rfl (OpI_int.2 ?_)
    refine Cb_of (fun c2 => Ret_nil.2 (bad (by have c2 : decide (32 ≤ x.plc.dk) = true := c2; unfold badPut; rw [c1, c2]; rfl) _ k12)) (fun c2 => ?_)
    refine LdV_has (v := .int .i64 x.plc.at_) hb2 rfl (OpI_int.2 ?_)
    refine Cb_of (fun c3 => Ret_nil.2 (bad (by have c2 : decide (32 ≤ x.plc.dk) = false := c2; unfold badPut; rw [c1, c2, c3]; rfl) _ k12)) (fun c3 => ?_)
    refine LdV_has (v := .int .i64 x.plc.at_) hb2 rfl (OpI_int.2 ?_)
    refine Cb_of (fun c4 => Ret_nil.2 (bad (by have c2 : decide (32 ≤ x.plc.dk) = false := c2; have c4 : decide (1024 ≤ x.plc.at_) = true := c4; unfold badPut; rw [c1, c2, c3, c4]; rfl) _ k12)) (fun c4 => ?_)
    have hgood : badPut x = false := by
      have c2 : decide (32 ≤ x.plc.dk) = false := c2
      have c4 : decide (1024 ≤ x.plc.at_) = false := c4
      unfold badPut; rw [c1, c2, c3, c4]; rfl
    exact ⟨_, by show ((pl : Int) - IntKind.wrap .i64 ((i' : Int) + 1)).toNat < ((pl : Int) - (i' : Int)).toNat; rw [ek]; omega, ⟨i' + 1, ek, by omega, k12, by rw [List.take_add_one, hx, List.any_append, hno]; simp [hgood]⟩, rfl⟩
  · have hc : i' = pl := by
      have : ¬ (i' : Int) < (pl : Int) := by simpa using hc
      omega
    subst hc
    rw [List.take_of_length_le (by omega)] at hno
    unfold beginM at hK
    rw [if_neg (by rw [hno]; decide)] at hK
    -- one by one
    refine LoopC_of (σ := Int × Unit) (fun st w' => ∃ (i : Nat) (s' : MS), st.1 = (i : Int) ∧ i ≤ i' ∧ MemsAt w' q s' ∧ eachA q.sz fs ((xs.drop i).map (recI v) ++ [recK 4 v]) s' = eachA q.sz fs (xs.map (recI v) ++ [recK 4 v]) s ∧ Keep (MFoot q w) w w')
      (fun st _ => ((i' : Int) - st.1).toNat) ⟨0, s, rfl, by omega, h.keep k1, by rw [List.drop_zero], MFoot.none k1⟩ ?_
    rintro _ ⟨j, u⟩ w2 ⟨j', s2, hj, hjl, h2, he, k2⟩
    simp only at hj ⊢
    subst hj
    have hps2 := MFoot.slt k2 hps h (by decide) (by decide) (by decide)
    have hr2 := MFoot.slt k2 hr h (by decide) (by decide) (by decide)
    refine Cb_of (fun hc => ?_) (fun hc => ?_)
    · have hc : j' < i' := by
        have : (j' : Int) < (i' : Int) := by simpa using hc
        omega
      have ek : IntKind.wrap .i64 ((j' : Int) + 1) = ((j' + 1 : Nat) : Int) := by rw [wrapI (by omega) (by omega)]; omega
      obtain ⟨x, hx⟩ : ∃ x, xs[j']? = some x := ⟨_, List.getElem?_eq_getElem (by omega)⟩
      have hgood : badPut x = false := by
        cases hb : badPut x
        · rfl
        · have := List.any_eq_true.2 ⟨x, List.mem_of_getElem? hx, hb⟩
          rw [hno] at this; cases this
      have hrange := hgood
      unfold badPut at hrange
      simp only [Bool.or_eq_false_iff, decide_eq_false_iff_not] at hrange
      refine hps2.ldA (i := (j' : Int)) (n := 19) (x := x) rfl (by omega) (by rw [Int.toNat_natCast]; exact hx) ?_
      rw [pu_row]
      refine copy_of zc_pu rfl (one_putSL x) fun w3 hb3 k3 z3 => ?_
      refine LdV_has (v := .int .i64 x.plc.dk) hb3 rfl (OpI_int.2 ?_)
      refine LdV_has (v := .int .i64 x.plc.at_) hb3 rfl (OpI_int.2 ?_)
      refine LdA_has (cs := secV x.cel.data) hb3 (by show 2 + 16 ≤ 19; decide) (pu_dat x) ?_
      rw [wrapI (x := x.plc.dk * 1024) (by omega) (by omega), wrapI (x := x.plc.dk * 1024 + x.plc.at_) (by omega) (by omega)]
      refine DoQ_of (v := .agg (recV (recI v x))) (fun _ => bld_rc 3 v _ _ _) (OpA_agg.2 ⟨rfl, ?_⟩)
      refine i_eachM (h2.keep k3) (recI_good hgood) (hr2.keep k3 (by simp)) fun w4 h4 k4 => OpI_int.2 ?_
      have ed : xs.drop j' = x :: xs.drop (j' + 1) := by
        rw [List.drop_eq_getElem_cons (by omega)]
        congr 1
        have := List.getElem?_eq_getElem (l := xs) (i := j') (by omega)
        rw [hx] at this
        exact (Option.some.inj this).symm
      rw [ed, List.map_cons, List.cons_append, eachA_step] at he
      have k24 := MFoot.trans (MFoot.trans k2 (MFoot.none k3)) k4
      refine Cb_of (fun hz => ?_) (fun hz => ?_)
      · have hz : (eachM q.sz (recI v x) fs s2).1 ≠ 0 := by simpa using hz
        rw [if_pos hz] at he
        rw [← he] at hK
        exact Ret_nil.2 (hK w4 h4 k24)
      · have hz : (eachM q.sz (recI v x) fs s2).1 = 0 := by simpa using hz
        rw [if_neg (by simp [hz])] at he
        exact ⟨_, by show ((i' : Int) - IntKind.wrap .i64 ((j' : Int) + 1)).toNat < ((i' : Int) - (j' : Int)).toNat; rw [ek]; omega, ⟨j' + 1, _, ek, by omega, h4, he, k24⟩, rfl⟩
    · have hc : j' = i' := by
        have : ¬ (j' : Int) < (i' : Int) := by simpa using hc
        omega
      subst hc
      rw [List.drop_of_length_le (by omega)] at he
      refine DoQ_of (v := .agg (recV (recK 4 v))) (fun _ => bld_rk 4 v _) (OpA_agg.2 ⟨rfl, ?_⟩)
      refine i_eachM h2 rfl hr2 fun w4 h4 k4 => OpI_int.2 ?_
      have e1 : eachA q.sz fs (([] : List PutS).map (recI v) ++ [recK 4 v]) s2 = eachM q.sz (recK 4 v) fs s2 := by
        show (if _ then _ else _) = _
        split
        · rfl
        · rename_i hz
          have hz : (eachM q.sz (recK 4 v) fs s2).1 = 0 := by simpa using hz
          show (0, (eachM q.sz (recK 4 v) fs s2).2) = _
          rw [← hz]
      rw [e1] at he
      rw [← he] at hK
      exact Ret_nil.2 (hK w4 h4 (MFoot.trans k2 k4))
theorem i_EndM {v : Int} {fs : List Bool} {rp : Option Addr} {rl rc : Nat} (h : MemsAt w q s) (hr : SlT dLay w 104 rp rl rc (fs.map (ramM q))) (hrl : rl ≤ 1000000)
    (hK : ∀ w', MemsAt w' q (eachM q.sz (recK 5 v) fs s).2 → Keep (MFoot q w) w w' → R (.int .i64 (eachM q.sz (recK 5 v) fs s).1) w') :
    CallV Tryz.prog 133 #[.slice rp rl rc, .int .u64 v] w R := by
  apply C_intent_End
  unfold F_intent_End
  refine i_missing hr.sl hrl (OpB_bool.2 ((Cb_false (p := _)).2 ?_))
  refine DoQ_of (v := .agg (recV (recK 5 v))) (fun _ => bld_rk 5 v _) (OpA_agg.2 ⟨rfl, ?_⟩)
  exact i_eachM h rfl hr fun w4 h4 k4 => OpI_int.2 (Ret_nil.2 (hK w4 h4 k4))
end calls
end Go.Proofs
