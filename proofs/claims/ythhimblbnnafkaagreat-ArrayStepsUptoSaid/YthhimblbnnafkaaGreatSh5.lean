/-
  SEVERAL TEXTS IN ONE, what is not leaned on left out: Next, Pair2, FAfter, After, ArrO, WholeP, FailM, WholeX, WholeW, RowsP, StI, ArrQ, ArrQ2, ArrQ3, ArrRW, ArrS, FLaw20, Lift2, Args9, ArrL, FSteps20, ArrSt, ArrStW, ArrayStepsL.
-/
import Derived.Test.YthhimblbnnafkaaGreatSh4
import Derived.Test.YthhimblbnnafkaaGreatChecked
namespace Go.Proofs
open Go Go.Ev
set_option linter.unusedSimpArgs false
set_option linter.unusedVariables false
set_option maxRecDepth 100000

def rec00 : Rec := ⟨0, 0, 0, sec []⟩
theorem zc_rec' : zc Tryz.prog 246 = recV rec00 := by kernel_rfl
theorem bld_rec00 (w : World) : (Instr.build 246 #[]).run Tryz.prog w = .ok (.agg (recV rec00)) w := run_build _ _ _ _ (by kernel_rfl)
theorem one_recV' (r : Rec) : ∀ v ∈ (recV r).toList, oneV v = true := by intro v hv; exact one_recL r v (by simpa [recV] using hv)
/-- a record of a row of one's own, loaded -/
theorem LdA_row {w : World} {base : Nat} {T : TypeId} {p : Option Addr} {l c : Nat} {rs : List Rec} (h : Own w base T 19 p l c (rs.flatMap recL)) {i : Int} {r : Rec} (h0 : 0 ≤ i) (hi : rs[i.toNat]? = some r) {K : Array Value → Prop} (hK : K (recV r)) :
    IdxS p l i 19 fun b o => LdA 19 b o (At w) K := by
  have hlr : l = rs.length := by
    have := h
    rw [flatMap_rows] at this
    simpa using this.count (rows_len rs) (by decide)
  have hlt := (List.getElem?_eq_some_iff.1 hi).1
  have h2 := h
  rw [flatMap_rows] at h2
  obtain ⟨b, rfl, hc⟩ := h2.at (rows_len rs) (by decide) (i := i.toNat) (r := recL r) (by simp [hi])
  refine ⟨b, 0, rfl, h0, by omega, recV r, rfl, ?_, hK⟩
  rintro w' ⟨d, rfl⟩ j hj
  rw [Nat.zero_add]
  have := hc j hj
  rw [show (w.dr d).cell? ⟨b, i.toNat * 19 + j, none⟩ = w.cell? ⟨b, i.toNat * 19 + j, none⟩ from rfl, this]
  simp [recV]

theorem cache_Next {c m : Nat} {room : Int} {es : List (Int × Ent)} {w : World} {R : Value → World → Prop} (h : CacheAt w c m room es) (hlen : es.length ≤ 1000000)
    (h0 : ∀ w', es = [] → Keep (fun _ => False) w w' → R (.tuple #[.agg (recV rec00), .int .i64 10]) w')
    (h1 : ∀ p w', p ∈ es → (∀ q ∈ es, ¬ cmpR (recOf q) (recOf p) < 0) → Keep (fun _ => False) w w' → R (.tuple #[.agg (recV (recOf p)), .int .i64 0]) w') :
    CallV Tryz.prog 227 #[.pointer (some ⟨c, 0, none⟩)] w R := by
  apply C_cache_Cache_Next
  unfold F_cache_Cache_Next
  rw [Alc_iff]
  have hb := Has.new w (.cells (zc Tryz.prog 246) 246)
  have k0 := Keep.new (fun _ => False) w (.cells (zc Tryz.prog 246) 246)
  have hC := h.keep k0 (by simp) (by simp)
  generalize w.alloc (.cells (zc Tryz.prog 246) 246) = w0 at *
  refine cache_List hC hlen fun p l cp rs w1 hrp hrs ho k1 => ?_
  simp only [OpS_slice]
  have hlr : l = rs.length := by
    have := ho
    rw [flatMap_rows] at this
    simpa using this.count (rows_len rs) (by decide)
  have hle : rs.length = es.length := by have := hrp.length_eq; simpa using this
  have hb1 := k1.has hb (by simp)
  have k01 := k0.trans k1
  cases rs with
  | nil =>
    have hes : es = [] := List.eq_nil_of_length_eq_zero (by rw [← hle]; rfl)
    subst hlr
    rw [show ((((([] : List Rec).length : Nat) : Int)) == 0) = true from rfl, Cb_true]
    refine DoQ_of (fun d => bld_rec00 _) ?_
    simp only [OpA_agg]
    refine ⟨rfl, StA_all hb1 rfl (by rw [zc_rec']; rfl) (one_recV' _) ?_⟩
    refine LdA_all (hb1.upd_same _) rfl ?_
    simp only [Ret_nil]
    exact h0 _ hes (k01.upd (by omega) _)
  | cons r rs =>
    have hz : (((l : Nat) : Int) == 0) = false := by simp [hlr]; omega
    rw [hz, Cb_false]
    refine LdA_row ho (by decide) (r := r) rfl ?_
    refine StA_all hb1 rfl (by rw [zc_rec']; rfl) (one_recV' _) ?_
    refine LdA_all (hb1.upd_same _) rfl ?_
    simp only [Ret_nil]
    have hr : r ∈ es.map recOf := hrp.subset (by simp)
    obtain ⟨q, hq, rfl⟩ := List.mem_map.1 hr
    refine h1 q _ hq (fun q' hq' => ?_) (k01.upd (by omega) _)
    have : recOf q' ∈ recOf q :: rs := hrp.symm.subset (List.mem_map.2 ⟨q', hq', rfl⟩)
    rcases List.mem_cons.1 this with e | hm
    · rw [e, cmpR_lt]; omega
    · exact (List.pairwise_cons.1 hrs).1 _ hm

/-- what Clean answers -/
def cleanE (es : List (Int × Ent)) (lba version : Int) : Int := match mlook es lba with
  | none => 10
  | some e => if e.2 > version then 12 else 0
theorem cache_Clean {c m : Nat} {room lba version : Int} {es : List (Int × Ent)} {w : World} {R : Value → World → Prop} (h : CacheAt w c m room es)
    (hK : ∀ w', Keep (fun k => k = m) w w' → CacheAt w' c m room (if cleanE es lba version = 0 then del es lba else es) → R (.int .i64 (cleanE es lba version)) w') :
    CallV Tryz.prog 228 #[.pointer (some ⟨c, 0, none⟩), .int .i64 lba, .int .u64 version] w R := by
  apply C_cache_Cache_Clean
  unfold F_cache_Cache_Clean
  refine cache_Get h fun w1 k1 => ?_
  have go : ∀ (f : Sec), ∃ w2, (w1.alloc (.cells (zc Tryz.prog 37) 37)).upd w1.heap.size (.cells (secV f) 37) = w2 ∧ Keep (fun _ => False) w w2 := by
    intro f
    exact ⟨_, rfl, (k1.alloc _).upd (by have := k1.size; omega) _⟩
  cases hl : mlook es lba with
  | none =>
    have e : cleanE es lba version = 10 := by simp [cleanE, hl]
    rw [e] at hK
    simp only [T3_mk, OpA_agg, OpI_int]
    refine ⟨rfl, ?_⟩
    rw [Alc_iff]
    refine StA_all (Has.new _ _) rfl (by rw [zc_sec]; rfl) (one_secV _) ?_
    obtain ⟨w2, hw, k2⟩ := go (sec [])
    rw [hw, show ((10 : Int) != 0) = true from rfl, Cb_true]
    simp only [Ret_nil]
    exact hK w2 (k2.mono fun _ h => h.elim) (by simpa using h.keep k2 (by simp) (by simp))
  | some e =>
    simp only [T3_mk, OpA_agg, OpI_int]
    refine ⟨rfl, ?_⟩
    rw [Alc_iff]
    refine StA_all (Has.new _ _) rfl (by rw [zc_sec]; rfl) (one_secV _) ?_
    obtain ⟨w2, hw, k2⟩ := go e.1
    rw [hw, show ((0 : Int) != 0) = false from rfl, Cb_false]
    have h2 := h.keep k2 (by simp) (by simp)
    refine Cb_of (fun hv => ?_) (fun hv => ?_)
    · have hv' : e.2 > version := by simpa using hv
      have ec : cleanE es lba version = 12 := by simp only [cleanE, hl]; rw [if_pos hv']
      rw [ec] at hK
      simp only [Ret_nil]
      exact hK w2 (k2.mono fun _ h => h.elim) (by simpa using h2)
    · have hv' : ¬ e.2 > version := by simpa using hv
      have ec : cleanE es lba version = 0 := by simp only [cleanE, hl]; rw [if_neg hv']
      rw [ec] at hK
      refine LdV_has (v := .map (some m)) h2.1 rfl ?_
      simp only [OpM_map]
      obtain ⟨arr, clk, hr, ho⟩ := run_delete (P := Tryz.prog) (ty := 0) under_map under_int h2.2 lba
      refine ⟨_, _, hr, ?_⟩
      rw [del_tag] at ho
      simp only [Ret_nil]
      obtain ⟨arr0, clk0, hm, _⟩ := h2.2
      have k3 : Keep (fun k => k = m) w w2 := k2.mono fun _ h => h.elim
      refine hK _ (k3.upd (k := m) (fun _ => rfl) _) ?_
      rw [if_pos rfl]
      exact ⟨h2.1.upd (h2.1.ne hm (by simp)), arr, clk, hm.upd_same _, ho⟩
end Go.Proofs

namespace Go.Proofs
open Go Go.Ev
set_option linter.unusedSimpArgs false
set_option linter.unusedVariables false
set_option maxRecDepth 100000

/-! ### sorted lists -/
section calls
variable {w : World} {q : PB} {s : PS} {R : Value → World → Prop}
/-! ### Load at a side -/
/-! ### Stamp, Leave, Join, Compact -/
def stampP (sz : Int) (s : PS) (ep : Int) : Int × PS :=
  let r := eachP sz ⟨6, IntKind.wrap .u64 ep, 0, sec []⟩ false s
  if r.1 ≠ 0 then (r.1, r.2) else (0, { r.2 with epoch := ep })
theorem pr_Stamp (h : PairAt w q s) {ep : Int} (hK : ∀ w', PairAt w' q (stampP q.sz s ep).2 → Keep (PFoot q w) w w' → R (.int .i64 (stampP q.sz s ep).1) w') : CallV Tryz.prog 146 #[.pointer (some ⟨q.p, 0, none⟩), .int .u32 ep] w R := by
  apply C_mirror_Pair_Stamp
  unfold F_mirror_Pair_Stamp
  refine DoQ_of (v := .agg (recV ⟨6, IntKind.wrap .u64 ep, 0, sec []⟩)) (fun d => run_build _ _ _ _ (by kernel_rfl)) ?_
  refine OpA_agg.2 ⟨rfl, ?_⟩
  refine pr_each h false rfl fun w2 p2 k2 => ?_
  refine OpI_int.2 ?_
  unfold stampP at hK
  simp only at hK
  generalize eachP q.sz ⟨6, IntKind.wrap .u64 ep, 0, sec []⟩ false s = r at *
  refine Cb_of (fun hc => ?_) (fun hc => ?_)
  · have hc : r.1 ≠ 0 := by simpa using hc
    rw [if_pos hc] at hK
    exact Ret_nil.2 (hK w2 p2 k2)
  · have hc : r.1 = 0 := by simpa using hc
    rw [if_neg (by simp [hc])] at hK
    refine StV_of p2.cells (by show 5 < 7; decide) rfl ?_
    have h2 := p2.setC (e' := r.2.es) (la := r.2.last) (ep := ep) (ua := r.2.ua) (ub := r.2.ub) rfl
    refine Ret_nil.2 (hK _ h2 (PFoot.trans k2 ((Keep.one w2 q.p _).mono fun _ e => Or.inl e)))
def downS (s : PS) (f : Bool) (v : Bool) : PS := { s with ua := cond f s.ua v, ub := cond f v s.ub }
theorem pr_set (h : PairAt w q s) (f v : Bool) {K : World → Prop} (hK : ∀ w', PairAt w' q (downS s f v) → Keep (PFoot q w) w w' → K w') : StV q.p (3 + Int.toNat (sideN f) * 1) (.bool v) w K := by
  cases f
  · refine StV_of (o := 3) h.cells (by show 3 < 7; decide) rfl ?_
    exact hK _ (h.setC (e' := s.es) (la := s.last) (ep := s.epoch) (ua := v) (ub := s.ub) rfl) ((Keep.one w q.p _).mono fun _ e => Or.inl e)
  · refine StV_of (o := 4) h.cells (by show 4 < 7; decide) rfl ?_
    exact hK _ (h.setC (e' := s.es) (la := s.last) (ep := s.epoch) (ua := s.ua) (ub := v) rfl) ((Keep.one w q.p _).mono fun _ e => Or.inl e)
def leaveP (s : PS) (f : Bool) : Int × PS := if s.ua = false ∨ s.ub = false then (13, s) else (0, downS s f false)
theorem pr_Leave (h : PairAt w q s) (f : Bool) (hK : ∀ w', PairAt w' q (leaveP s f).2 → Keep (PFoot q w) w w' → R (.int .i64 (leaveP s f).1) w') : CallV Tryz.prog 143 #[.pointer (some ⟨q.p, 0, none⟩), .int .i64 (sideN f)] w R := by
  apply C_mirror_Pair_Leave
  unfold F_mirror_Pair_Leave
  refine pr_side _ ?_
  refine OpB_bool.2 ?_
  have e : (!(decide (sideN f = 0) || decide (sideN f = 1))) = false := by cases f <;> rfl
  rw [e]
  refine (Cb_false (p := _)).2 ⟨by decide, ?_⟩
  refine LdV_has (v := .bool s.ua) h.cells rfl (OpB_bool.2 ?_)
  unfold leaveP at hK
  refine Cb_of (fun hc => ?_) (fun hc => ?_)
  · have hc : s.ua = false := by simpa using hc
    rw [if_pos (Or.inl hc)] at hK
    exact Ret_nil.2 (hK w h (Keep.refl _ _))
  have hua : s.ua = true := by simpa using hc
  refine ⟨by decide, ?_⟩
  refine LdV_has (v := .bool s.ub) h.cells rfl (OpB_bool.2 ?_)
  refine Cb_of (fun hc => ?_) (fun hc => ?_)
  · have hc : s.ub = false := by simpa using hc
    rw [if_pos (Or.inr hc)] at hK
    exact Ret_nil.2 (hK w h (Keep.refl _ _))
  have hub : s.ub = true := by simpa using hc
  rw [if_neg (by simp [hua, hub])] at hK
  have hb2 : 0 ≤ sideN f ∧ sideN f < 2 := by cases f <;> decide
  refine ⟨hb2, ?_⟩
  exact pr_set h f false fun w' p' k' => Ret_nil.2 (hK w' p' k')
end calls

/-! ### the references' SameRecords -/
end Go.Proofs

namespace Go.Proofs
open Go.Ev
set_option linter.unusedVariables false
set_option maxRecDepth 100000
def F_merge_After (epoch : Int) (side : Int) (w : World) (R : Value → World → Prop) : Prop :=
  Req ((side != 0) = (side != 0)) (Req ((side != 0) = (side != 0)) (Cb (cond (side != 0) (side != 1) false) (Ret [] (R (.tuple #[.int .u32 0, .int .i64 2]) w)) (Req ((2 :
  Int) ≠ 0) (Cb (Int.tmod (IntKind.wrap .u64 ((IntKind.wrap .u64 epoch) + 1)) 2 != (IntKind.wrap .u64 side)) (Cb (decide (IntKind.wrap .u64 ((IntKind.wrap .u64
  ((IntKind.wrap .u64 epoch) + 1)) + 1) > 4294967295)) (Ret [] (R (.tuple #[.int .u32 0, .int .i64 14]) w)) (Ret [] (R (.tuple #[.int .u32 (IntKind.wrap .u32 (IntKind.wrap
  .u64 ((IntKind.wrap .u64 ((IntKind.wrap .u64 epoch) + 1)) + 1))), .int .i64 0]) w))) (Cb (decide (IntKind.wrap .u64 ((IntKind.wrap .u64 epoch) + 1) > 4294967295)) (Ret []
  (R (.tuple #[.int .u32 0, .int .i64 14]) w)) (Ret [] (R (.tuple #[.int .u32 (IntKind.wrap .u32 (IntKind.wrap .u64 ((IntKind.wrap .u64 epoch) + 1))), .int .i64 0]) w)))))))
theorem C_merge_After {epoch : Int} {side : Int} {w : World} {R : Value → World → Prop} (h : F_merge_After epoch side w R) : CallV Tryz.prog 145 #[.int .u32 epoch, .int .i64 side] w R := by
  exact calls_of_F (args := [.int .u32 epoch, .int .i64 side]) (mkAnn [] [] [] [] []) Tryz_mixed Tryz.func145 rfl rfl (by kernel_rfl) h
end Go.Proofs

namespace Go.Proofs
open Go Go.Ev
set_option linter.unusedSimpArgs false
set_option linter.unusedVariables false
set_option maxRecDepth 100000
def sideOk (n : Int) : Prop := n = 0 ∨ n = 1
instance (n : Int) : Decidable (sideOk n) := inferInstanceAs (Decidable (_ ∨ _))
theorem side0 : sideOk 0 := Or.inl rfl
theorem side1 : sideOk 1 := Or.inr rfl
def afterS (e side : Int) : Int × Int :=
  if ¬ sideOk side then (0, 2) else
    let x := if (e + 1) % 2 = side then e + 1 else e + 2
    if 4294967295 < x then (0, 14) else (x, 0)
theorem merge_After {e side : Int} {w : World} {R : Value → World → Prop} (h0 : 0 ≤ e) (h1 : e ≤ 4294967295) (hs : -9223372036854775808 ≤ side ∧ side ≤ 9223372036854775807) (hK : R (.tuple #[.int .u32 (afterS e side).1, .int .i64 (afterS e side).2]) w) :
    CallV Tryz.prog 145 #[.int .u32 e, .int .i64 side] w R := by
  apply C_merge_After
  unfold F_merge_After
  simp only [Req_true, Req_rfl]
  unfold afterS at hK
  by_cases hn : sideOk side
  · rw [if_neg (by simpa using hn)] at hK
    have e0 : (cond (side != 0) (side != 1) false) = false := by rcases hn with rfl | rfl <;> rfl
    have w1 : IntKind.wrap .u64 e = e := wrapU64 (by omega) (by omega)
    have w2 : IntKind.wrap .u64 (e + 1) = e + 1 := wrapU64 (by omega) (by omega)
    have w3 : IntKind.wrap .u64 side = side := wrapU64 (by rcases hn with rfl | rfl <;> omega) (by rcases hn with rfl | rfl <;> omega)
    have w4 : IntKind.wrap .u64 (e + 1 + 1) = e + 2 := by rw [wrapU64 (by omega) (by omega)]; omega
    rw [e0, Cb_false]
    refine ⟨by decide, ?_⟩
    simp only [w1, w2, w3, w4, Int.tmod_eq_emod_of_nonneg (show 0 ≤ e + 1 by omega)]
    refine Cb_of (fun hc => ?_) (fun hc => ?_)
    · have hx : (if (e + 1) % 2 = side then e + 1 else e + 2) = e + 2 := if_neg (by simpa using hc)
      simp only [hx] at hK
      refine Cb_of (fun hg => ?_) (fun hg => ?_)
      · have hg' : 4294967295 < e + 2 := by simpa using hg
        rw [if_pos hg'] at hK; simpa using hK
      · have hg' : ¬ 4294967295 < e + 2 := by simpa using hg
        rw [if_neg hg'] at hK
        rw [wrapU32 (by omega) (by omega)]; simpa using hK
    · have hx : (if (e + 1) % 2 = side then e + 1 else e + 2) = e + 1 := if_pos (by simpa using hc)
      simp only [hx] at hK
      refine Cb_of (fun hg => ?_) (fun hg => ?_)
      · have hg' : 4294967295 < e + 1 := by simpa using hg
        rw [if_pos hg'] at hK; simpa using hK
      · have hg' : ¬ 4294967295 < e + 1 := by simpa using hg
        rw [if_neg hg'] at hK
        rw [wrapU32 (by omega) (by omega)]; simpa using hK
  · rw [if_pos hn] at hK
    have e0 : (cond (side != 0) (side != 1) false) = true := by
      unfold sideOk at hn
      have h1 : (side != 0) = true := by simp; omega
      have h2 : (side != 1) = true := by simp; omega
      rw [h1, h2]; rfl
    rw [e0, Cb_true]
    simpa using hK
end Go.Proofs

namespace Go.Proofs
open Go Go.Ev
set_option linter.unusedSimpArgs false
set_option linter.unusedVariables false
set_option maxRecDepth 100000

/-- what Flushed answers, and the pair behind it -/
def flushP (sz : Int) (s : PS) (lba v : Int) : Int × PS :=
  if (getV s.es lba).2.2 ≠ 0 then ((getV s.es lba).2.2, s) else if v < (getV s.es lba).2.1 then (12, s)
  else
    let r := eachP sz ⟨2, v, lba, sec []⟩ false s
    if r.1 ≠ 0 then r else (cleanE s.es lba v, { r.2 with es := if cleanE s.es lba v = 0 then del s.es lba else s.es })
section calls
variable {w : World} {q : PB} {s : PS} {R : Value → World → Prop}
theorem PairAt.ofCache {w' : World} {es : List (Int × Ent)} (h : PairAt w q s) (hc : CacheAt w' q.c q.mp q.room es) (k : Keep (fun k => k = q.mp) w w') : PairAt w' q { s with es := es } := by
  obtain ⟨pa, la, ca, pb, lb, cb, ha, hb, hne⟩ := h.rams
  have nm : ∀ {k : Nat} {cs : Array Value} {t : TypeId} {f : Nat × Nat}, Has w k (.cells cs t f) → ¬ k = q.mp := by
    intro k cs t f h1 e
    obtain ⟨_, arr, clk, hm, _⟩ := h.cache
    subst e
    cases h1.inj hm
  have rw_ : ∀ {p : Option Addr} {l c : Nat} {bs : List Int}, OwnL byLay w q.base 5 p l c bs → ∀ k, p = some ⟨k, 0, none⟩ → ¬ k = q.mp := by
    intro p l c bs ho k hk
    rcases Own.cases ho with ⟨h0, _⟩ | ⟨b', cur, h0, hb', hg, _⟩
    · rw [h0] at hk; cases hk
    · rw [h0] at hk; cases hk; exact nm hg
  exact ⟨k.has h.cells (nm h.cells), hc, k.has (show Has w _ _ from h.main) (nm h.main), ⟨pa, la, ca, pb, lb, cb, ha.keep k (nm ha.cells) (rw_ ha.row), hb.keep k (nm hb.cells) (rw_ hb.row), hne⟩, h.ne, h.fit, h.form, h.low⟩
theorem pr_Next (h : PairAt w q s) (hlen : s.es.length ≤ 1000000) (h0 : ∀ w', s.es = [] → Keep (fun _ => False) w w' → R (.tuple #[.agg (recV rec00), .int .i64 10]) w')
    (h1 : ∀ p w', p ∈ s.es → (∀ q ∈ s.es, ¬ cmpR (recOf q) (recOf p) < 0) → Keep (fun _ => False) w w' → R (.tuple #[.agg (recV (recOf p)), .int .i64 0]) w') :
    CallV Tryz.prog 157 #[.pointer (some ⟨q.p, 0, none⟩)] w R := by
  apply C_mirror_Pair_Next
  unfold F_mirror_Pair_Next
  refine alc_fresh fun w1 hb1 k1 z1 => ?_
  have p1 := h.keep k1
  refine LdV_has (v := .pointer (some ⟨q.c, 0, none⟩)) p1.cells rfl (OpN_some.2 ?_)
  have fin : ∀ {w2 : World} {r : Rec} {n : Int} {K : Value → World → Prop}, Keep (fun _ => False) w1 w2 → (∀ w', Keep (fun _ => False) w w' → K (.tuple #[.agg (recV r), .int .i64 n]) w') → StA 19 w.heap.size 0 (recV r) w2 fun w3 => LdA 19 w.heap.size 0 (At w3) fun cs1 => Ret [] (K (.tuple #[.agg cs1, .int .i64 n]) w3) := fun k2 hh => by
    have hb2 := k2.has hb1 (by simp)
    refine StA_all hb2 rfl (by rw [zc_rec']; rfl) (one_recV' _) (LdA_all (hb2.upd_same _) rfl (Ret_nil.2 (hh _ ((k1.trans k2).upd (fun hi => absurd hi (by omega)) _))))
  refine cache_Next p1.cache hlen (fun w2 he k2 => ?_) (fun p w2 hp hm k2 => ?_)
  · exact T2_mk.2 (OpA_agg.2 ⟨rfl, OpI_int.2 (fin k2 fun w' k' => h0 w' he k')⟩)
  · exact T2_mk.2 (OpA_agg.2 ⟨rfl, OpI_int.2 (fin k2 fun w' k' => h1 p w' hp hm k')⟩)
theorem pr_Flushed (h : PairAt w q s) {lba v : Int} (h0 : 0 ≤ lba) (h1 : lba ≤ 2147483647) (hK : ∀ w', PairAt w' q (flushP q.sz s lba v).2 → Keep (PFoot q w) w w' → R (.int .i64 (flushP q.sz s lba v).1) w') :
    CallV Tryz.prog 160 #[.pointer (some ⟨q.p, 0, none⟩), .int .i64 lba, .int .u64 v] w R := by
  apply C_mirror_Pair_Flushed
  unfold F_mirror_Pair_Flushed
  unfold flushP at hK
  refine pr_Get h fun w1 k1 => T3_mk.2 (OpA_agg.2 ⟨rfl, OpI_int.2 (OpI_int.2 ?_)⟩)
  refine copy_of (by rw [zc_sec]; rfl) rfl (one_secV _) fun w2 hb2 k2 z2 => ?_
  have k02 := k1.trans k2
  have p2 := h.keep k02
  refine Cb_of (fun hc => ?_) (fun hc => ?_)
  · have hc : (getV s.es lba).2.2 ≠ 0 := by simpa using hc
    rw [if_pos hc] at hK
    exact Ret_nil.2 (hK w2 p2 (PFoot.none k02))
  have hc : ¬ (getV s.es lba).2.2 ≠ 0 := by simpa using hc
  rw [if_neg hc] at hK
  refine Cb_of (fun hv => ?_) (fun hv => ?_)
  · have hv : v < (getV s.es lba).2.1 := by simpa using hv
    rw [if_pos hv] at hK
    exact Ret_nil.2 (hK w2 p2 (PFoot.none k02))
  have hv : ¬ v < (getV s.es lba).2.1 := by simpa using hv
  rw [if_neg hv] at hK
  refine DoQ_of (v := .agg (recV ⟨2, v, lba, sec []⟩)) (fun _ => run_build _ _ _ _ (by kernel_rfl)) (OpA_agg.2 ⟨rfl, ?_⟩)
  have hg : recGood ⟨2, v, lba, sec []⟩ = true := by
    unfold recGood
    simp only [Bool.and_eq_true, decide_eq_true_eq]
    omega
  refine pr_each p2 false hg fun w3 p3 k3 => OpI_int.2 ?_
  have hes : (eachP q.sz ⟨2, v, lba, sec []⟩ false s).2.es = s.es := (eachP_same s).1
  generalize eachP q.sz ⟨2, v, lba, sec []⟩ false s = r at *
  have k03 := PFoot.trans (PFoot.none k02) k3
  simp only at hK
  refine Cb_of (fun hr => ?_) (fun hr => ?_)
  · have hr : r.1 ≠ 0 := by simpa using hr
    rw [if_pos hr] at hK
    exact Ret_nil.2 (hK w3 p3 k03)
  have hr : ¬ r.1 ≠ 0 := by simpa using hr
  rw [if_neg hr] at hK
  refine LdV_has (v := .pointer (some ⟨q.c, 0, none⟩)) p3.cells rfl (OpN_some.2 ?_)
  have hca : CacheAt w3 q.c q.mp q.room s.es := by rw [← hes]; exact p3.cache
  refine cache_Clean hca fun w4 k4 hc4 => OpI_int.2 (Ret_nil.2 ?_)
  exact hK w4 (p3.ofCache hc4 k4) (k03.trans' k4 fun i hi e => Or.inr (Or.inl e))
end calls

/-! ### the array, by its set and its memories -/
def AB.mb (q : AB) : MB := ⟨q.pb.m, q.pb.a, q.pb.b, q.pb.base, q.pb.sz⟩
section plain
variable {w w' : World} {q : AB} {lk : Int} {s : AS}
theorem ArAt.stm (h : ArAt w q lk s) : StmAt w q.mb q.g q.bks q.pb.base q.sp q.sc s.ss s.ps.xa s.ps.xb := ⟨h.set, h.disks, ⟨h.pair.main, h.pair.rams, h.pair.ne, h.pair.fit, h.pair.form, h.pair.hb⟩⟩
theorem WFoot.arF {i : Nat} (e : WFoot q.mb q.g q.bks w i) : ArF q w i := by
  rcases e with (e | e | e | e) | e
  · exact Or.inr (Or.inr (Or.inr (Or.inr (Or.inl e))))
  · exact Or.inr (Or.inr (Or.inr (Or.inr (Or.inr (Or.inl e)))))
  · exact Or.inr (Or.inr (Or.inr (Or.inr (Or.inr (Or.inr (Or.inl e))))))
  · exact Or.inr (Or.inr (Or.inr (Or.inr (Or.inr (Or.inr (Or.inr e))))))
  · exact Or.inr (Or.inl e)
theorem ArAt.ofStm (h : ArAt w q lk s) {s' : SS} {xa xb : List Int} (hs : StmAt w' q.mb q.g q.bks q.pb.base q.sp q.sc s' xa xb) (k : Keep (WFoot q.mb q.g q.bks w) w w') : ArAt w' q lk { s with ds := s'.ds, ps := { s.ps with pw := s'.pw, xa := xa, xb := xb } } := by
  have st := h.stm
  have nmap : ¬ WFoot q.mb q.g q.bks w q.pb.mp := fun e => by
    obtain ⟨_, arr, clk, hm, _⟩ := h.pair.cache
    obtain ⟨_, _, _, _, _, _, ha, hb, _⟩ := h.pair.rams
    have no : ∀ {k : Nat} {cs : Array Value} {t : TypeId} {f : Nat × Nat}, Has w k (.cells cs t f) → k ≠ q.pb.mp := fun h1 e => by subst e; cases h1.inj hm
    rcases e with (e | e | e | ⟨_, cs, hc⟩) | e
    · exact no (show Has w _ _ from h.pair.main) e.symm
    · exact no ha.cells e.symm
    · exact no hb.cells e.symm
    · exact no hc rfl
    · obtain ⟨cs, t, hc⟩ := h.set.blk e
      exact no hc rfl
  refine ⟨WFoot.has st k h.cells (by decide) (by decide) (by decide) (by decide) (by decide), hs.set, hs.disks,
    ⟨WFoot.has st k h.pair.cells (by decide) (by decide) (by decide) (by decide) (by decide), h.pair.cache.keep k (WFoot.not st h.pair.cache.1 (by decide) (by decide) (by decide) (by decide) (by decide)) nmap, hs.mems.main, hs.mems.rams, h.pair.ne, hs.mems.fit, h.pair.form, h.pair.low⟩,
    WFoot.has st k (show Has w _ _ from h.desk) (by decide) (by decide) (by decide) (by decide) (by decide), h.marks.keep k fun b hb => ?_⟩
  obtain ⟨_, cur, hh⟩ := own_has h.marks b 0 hb
  exact WFoot.not st hh (by decide) (by decide) (by decide) (by decide) (by decide)
theorem PFoot.arF {i : Nat} (e : PFoot q.pb w i) : ArF q w i := Or.inr (Or.inr e)
end plain

/-! ### out -/
/-- a sector has gone out: the answer, and the array behind it -/
def outB (q : AB) (s : AS) (f : Bool) (p : Int × Ent) (s2 : PS) : Int × AS :=
  let r := writeM q.pb.sz q.g (upS s2 f) s2.last p.1 p.2.1 (epA s f) ⟨s.ds, s2.pw⟩ s2.xa s2.xb
  let s3 : PS := { s2 with pw := r.2.1.pw, xa := r.2.2.1, xb := r.2.2.2 }
  if r.1 ≠ 0 then (r.1, { s with ds := r.2.1.ds, ps := s3 })
  else ((flushP q.pb.sz s3 p.1 p.2.2).1, { s with ds := r.2.1.ds, ps := (flushP q.pb.sz s3 p.1 p.2.2).2 })
def outA (q : AB) (s : AS) (f : Bool) (p : Int × Ent) : Int × AS := outB q s f p { s.ps with last := IntKind.wrap .u64 (s.ps.last + 1) }
theorem ramMB (q : AB) (f : Bool) : ramM q.mb f = ramB q.pb f := by cases f <;> rfl
section calls
variable {w : World} {q : AB} {lk : Int} {s : AS} {R : Value → World → Prop}
theorem ar_out0 (h : ArAt w q lk s) (hok : ∀ D ∈ s.ds, DskOk D) (f : Bool) (hlen : s.ps.es.length ≤ 1000) (hne : s.ps.es ≠ []) (hes : ∀ e ∈ s.ps.es, 0 ≤ e.1 ∧ e.1 < (q.g.d - 2) * q.g.c * q.g.s ∧ SecOk e.2.1)
    (hr : ∀ f, upA s f = true → 64 ≤ (q.pb.sz - ((xsA s.ps f).length : Int)) / 37)
    (hK : ∀ p w', p ∈ s.ps.es → (∀ x ∈ s.ps.es, ¬ cmpR (recOf x) (recOf p) < 0) → ArAt w' q lk (outA q s f p).2 → Keep (ArF q w) w w' → R (.int .i64 (outA q s f p).1) w') :
    CallV Tryz.prog 84 #[.pointer (some ⟨q.a, 0, none⟩), .int .i64 (sideN f)] w R := by
  apply C_array_Array_out
  unfold F_array_Array_out
  have hcap : 2 ≤ (q.g.d - 2) * q.g.c * q.g.s ∧ (q.g.d - 2) * q.g.c * q.g.s ≤ 15360 := h.set.geo.cap
  refine LdV_has (v := .pointer (some ⟨q.pb.p, 0, none⟩)) h.cells rfl (OpN_some.2 ?_)
  refine pr_Next h.pair (by omega) (fun w1 he => absurd he hne) fun p w1 hp hmin k1 => T2_mk.2 (OpA_agg.2 ⟨rfl, OpI_int.2 ?_⟩)
  obtain ⟨hp0, hp1, hp2⟩ := hes p hp
  refine copy_of (by rw [zc_rec']; rfl) rfl (one_recV' _) fun w2 hb2 k2 z2 => (Cb_false (p := _)).2 ?_
  have k02 := k1.trans k2
  refine ar_shorten0 (h.keep0 k02) hr fun w3 k3 => OpI_int.2 ((Cb_false (p := _)).2 ?_)
  have h3 := h.keep0 (k02.trans k3)
  have hb3 := k3.has hb2 (by simp)
  have k03 := k02.trans k3
  refine LdV_has (v := .pointer (some ⟨q.pb.p, 0, none⟩)) h3.cells rfl (OpN_some.2 ?_)
  refine pr_Take h3.pair fun w4 p4 k4 => OpI_int.2 ?_
  have h4 := h3.ofPair p4 k4
  have hb4 := PFoot.has k4 hb3 (by decide) h3.pair (by decide) (by decide) (by decide)
  have k04 : Keep (ArF q w) w w4 := ArF.trans (ArF.none k03) (k4.mono fun i e => PFoot.arF e)
  generalize hs2 : ({ s.ps with last := IntKind.wrap .u64 (s.ps.last + 1) } : PS) = s2 at *
  have hv : IntKind.wrap .u64 (s.ps.last + 1) = s2.last := by rw [← hs2]
  rw [hv]
  intro d
  have kd := Keep.drew (fun _ => False) w4 d
  have h5 := h4.keep0 kd
  have hb5 : Has (w4.dr d) w1.heap.size _ := hb4
  have k05 := ArF.trans k04 (ArF.none kd)
  generalize w4.dr d = w5 at *
  generalize hs5 : ({ s with ps := s2 } : AS) = s5 at h5
  have e5 : s5.ps = s2 ∧ s5.ss = ⟨s.ds, s2.pw⟩ ∧ epA s5 f = epA s f := by rw [← hs5]; exact ⟨rfl, rfl, by cases f <;> rfl⟩
  refine ⟨fun w' => Has w' q.a (.cells (arC q lk s5) 143 (0, 0)) ∧ Has w' w1.heap.size (.cells (recV (recOf p)) 246 (0, 0)), ⟨h5.cells, hb5⟩, ?_⟩
  refine LdA_of (cs := setV q.g q.sp q.g.d.toNat q.sc) rfl (fun w' hw => ⟨_, _, _, hw.1, by show 3 + 4 ≤ 21; decide, arC_set q lk s5⟩) ?_
  refine LdV_of (v := .pointer (some ⟨q.pb.p, 0, none⟩)) (fun w' hw => ⟨_, _, _, hw.1, rfl⟩) (OpN_some.2 ?_)
  refine LdV_of (v := .int .i64 p.1) (fun w' hw => ⟨_, _, _, hw.2, rfl⟩) (OpI_int.2 ?_)
  refine LdA_of (cs := secV p.2.1) rfl (fun w' hw => ⟨_, _, _, hw.2, by show 3 + 16 ≤ 19; decide, by
    apply Array.ext'
    simp only [Array.toList_extract, List.extract_eq_take_drop]
    rfl⟩) ⟨side_rng f, ?_⟩
  refine LdV_of (v := .int .u32 (epA s5 f)) (fun w' hw => ⟨_, _, _, hw.1, by cases f <;> rfl⟩) (OpI_int.2 ?_)
  refine pr_Up h5.pair f fun rp rl rc w6 o6 k6 => OpS_slice.2 ⟨⟨k6.has h5.cells (by simp), k6.has hb5 (by simp)⟩, ?_⟩
  have h6 := h5.keep0 k6
  have hl6 := o6.length
  have hlu : (upS s5.ps f).length ≤ 2 := Nat.le_trans (List.length_filter_le _ _) (by simp)
  have sl6 : SlT dLay w6 104 rp rl rc ((upS s5.ps f).map (ramM q.mb)) := by
    have : (upS s5.ps f).map (ramM q.mb) = (upS s5.ps f).map (ramB q.pb) := List.map_congr_left fun g _ => ramMB q g
    rw [this]
    exact SlT.of o6
  have hds : s5.ss.ds = s.ds := by rw [e5.2.1]
  refine i_WriteM (q := q.mb) h6.stm (by rw [hds]; exact hok) sl6 (by rw [hl6, List.length_map]; omega) hp0 hp1 hp2 fun w7 st7 k7 => OpI_int.2 ?_
  have h7 := h6.ofStm st7 k7
  have hb7 := WFoot.has h6.stm k7 (k6.has hb5 (by simp)) (by decide) (by decide) (by decide) (by decide) (by decide)
  have k07 := ArF.trans (ArF.trans k05 (ArF.none k6)) (k7.mono fun i e => WFoot.arF e)
  refine ⟨⟨WFoot.has h6.stm k7 h6.cells (by decide) (by decide) (by decide) (by decide) (by decide), hb7⟩, ?_⟩
  have hW := hK p
  unfold outA at hW
  rw [hs2] at hW
  unfold outB at hW
  simp only at hW
  have hsz : q.mb.sz = q.pb.sz := rfl
  rw [e5.1, e5.2.1, e5.2.2, hsz] at h7 ⊢
  generalize writeM q.pb.sz q.g (upS s2 f) s2.last p.1 p.2.1 (epA s f) ⟨s.ds, s2.pw⟩ s2.xa s2.xb = r at h7 hW ⊢
  clear st7 k7
  subst hs5
  refine Cb_of (fun hc => ?_) (fun hc => ?_)
  · have hc : r.1 ≠ 0 := by simpa using hc
    rw [if_pos hc] at hW
    exact Ret_nil.2 (hW w7 hp hmin h7 k07)
  have hc : ¬ r.1 ≠ 0 := by simpa using hc
  rw [if_neg hc] at hW
  intro d
  have kd := Keep.drew (fun _ => False) w7 d
  have h8 := h7.keep0 kd
  have hb8 : Has (w7.dr d) w1.heap.size _ := hb7
  have k08 := ArF.trans k07 (ArF.none kd)
  generalize w7.dr d = w8 at *
  refine ⟨fun _ => True, trivial, ?_⟩
  refine LdV_has (v := .pointer (some ⟨q.pb.p, 0, none⟩)) h8.cells rfl (OpN_some.2 ?_)
  refine LdV_has (v := .int .i64 p.1) hb8 rfl (OpI_int.2 ?_)
  refine LdV_has (v := .int .u64 p.2.2) hb8 rfl (OpI_int.2 ?_)
  refine pr_Flushed h8.pair hp0 (by omega) fun w9 p9 k9 => OpI_int.2 ⟨trivial, Ret_nil.2 ?_⟩
  exact hW w9 hp hmin (h8.ofPair p9 k9) (ArF.trans k08 (k9.mono fun i e => PFoot.arF e))

/-! ### alone -/
def setUpA (s : AS) (f v : Bool) : AS := { s with ua := cond f s.ua v, ub := cond f v s.ub }
def setEpA (s : AS) (f : Bool) (e : Int) : AS := { s with ea := cond f s.ea e, eb := cond f e s.eb }
def aloneA (q : AB) (s : AS) (f : Bool) : Int × AS :=
  let s1 := setUpA { s with ps := (leaveP s.ps (!f)).2 } (!f) false
  let a := afterS (max (epA s f) (keyS s.ss)) (sideN f)
  if a.2 ≠ 0 then (a.2, s1)
  else
    let r := stampP q.pb.sz s1.ps a.1
    if r.1 ≠ 0 then (r.1, { s1 with ps := r.2 })
    else (0, setEpA { s1 with ps := r.2, ds := (fenceS ⟨s1.ds, r.2.pw⟩ a.1).2.ds } f a.1)
theorem fence_pw (s : SS) (e : Int) : (fenceS s e).2.pw = s.pw := by unfold fenceS; split <;> rfl
theorem ArAt.ofSet {w' : World} (h : ArAt w q lk s) {s' : SS} (hs : SetAt w' q.sb s') (k : Keep (SFoot q.sb) w w') : ArAt w' q lk { s with ds := s'.ds, ps := { s.ps with pw := s'.pw } } :=
  h.ofStm (h.stm.ofSet hs k) (k.mono fun i e => Or.inr e)
theorem after_rng {e side : Int} (h0 : 0 ≤ e) (h : (afterS e side).2 = 0) : 0 ≤ (afterS e side).1 ∧ (afterS e side).1 ≤ 4294967295 := by
  unfold afterS at h ⊢
  by_cases hs : ¬ sideOk side
  · rw [if_pos hs] at h; exact absurd h (by decide)
  rw [if_neg hs] at h ⊢
  simp only at h ⊢
  generalize hx : (if (e + 1) % 2 = side then e + 1 else e + 2) = x at h ⊢
  by_cases hm : 4294967295 < x
  · rw [if_pos hm] at h; exact absurd h (by decide)
  rw [if_neg hm]
  refine ⟨?_, by show x ≤ 4294967295; omega⟩
  show 0 ≤ x
  rw [← hx]
  split <;> omega
theorem ar_alone1 (h : ArAt w q lk s) (hok : ∀ D ∈ s.ds, DskOk D) (f : Bool) (hu : upA s (!f) = true) (hl : ¬ (livesA s (!f) = true ∧ s.split = false)) (hep : 0 ≤ epA s f ∧ epA s f ≤ 4294967295) (hkey : 0 ≤ keyS s.ss ∧ keyS s.ss ≤ 4294967295)
    (hr : ∀ f, upA s f = true → 64 ≤ (q.pb.sz - ((xsA s.ps f).length : Int)) / 37)
    (hK : ∀ w', ArAt w' q lk (aloneA q s f).2 → Keep (ArF q w) w w' → R (.int .i64 (aloneA q s f).1) w') : CallV Tryz.prog 79 #[.pointer (some ⟨q.a, 0, none⟩), .int .i64 (sideN f)] w R := by
  apply C_array_Array_alone
  unfold F_array_Array_alone
  simp only [other_side]
  refine ⟨fun st w' => st.1 = false ∧ w' = w, ⟨side_rng _, ?_⟩, ?_⟩
  · refine LdV_has (v := .bool (upA s (!f))) h.cells (by cases f <;> rfl) (OpB_bool.2 ?_)
    rw [hu]
    refine (Cb_false (p := _)).2 ⟨side_rng _, ?_⟩
    refine LdV_has (v := .bool (livesA s (!f))) h.cells (by cases f <;> rfl) (OpB_bool.2 ?_)
    refine Cb_of (fun hv => ?_) (fun hv => ⟨rfl, rfl⟩)
    refine LdV_has (v := .bool s.split) h.cells rfl (OpB_bool.2 ⟨?_, rfl⟩)
    cases hs : s.split with
    | true => rfl
    | false => exact absurd ⟨hv, hs⟩ hl
  rintro _ ⟨b, u⟩ w1 ⟨hb, rfl⟩
  simp only at hb ⊢
  subst hb
  refine (Cb_false (p := _)).2 ?_
  unfold aloneA at hK
  refine LdV_has (v := .pointer (some ⟨q.pb.p, 0, none⟩)) h.cells rfl (OpN_some.2 ?_)
  refine pr_Leave h.pair (!f) fun w2 p2 k2 => OpI_int.2 ⟨side_rng _, ?_⟩
  have h2 := h.ofPair p2 k2
  have hlx : ∀ g, xsA (leaveP s.ps (!f)).2 g = xsA s.ps g := fun g => by unfold leaveP; split <;> (cases g <;> rfl)
  generalize leaveP s.ps (!f) = lv at *
  refine StV_of h2.cells (by show _ < 21; cases f <;> decide) rfl ?_
  have hset : (arC q lk { s with ps := lv.2 }).setIfInBounds (10 + Int.toNat (sideN (!f)) * 1) (.bool false) = arC q lk (setUpA { s with ps := lv.2 } (!f) false) := by cases f <;> rfl
  rw [hset]
  have h3 := h2.put (lk' := lk) (s' := setUpA { s with ps := lv.2 } (!f) false) rfl rfl rfl rfl
  have k3 : Keep (ArF q w1) w1 (w2.upd q.a (.cells (arC q lk (setUpA { s with ps := lv.2 } (!f) false)) 143 (0, 0))) := (k2.mono fun i e => PFoot.arF e).upd (fun _ => Or.inl rfl) _
  generalize w2.upd q.a _ = w3 at *
  have hkS : keyS (setUpA { s with ps := lv.2 } (!f) false).ss = keyS s.ss := rfl
  have hE : epA (setUpA { s with ps := lv.2 } (!f) false) f = epA s f := by cases f <;> rfl
  have hr3 : ∀ g, upA (setUpA { s with ps := lv.2 } (!f) false) g = true → 64 ≤ (q.pb.sz - ((xsA (setUpA { s with ps := lv.2 } (!f) false).ps g).length : Int)) / 37 := fun g hg => by
    show 64 ≤ (q.pb.sz - ((xsA lv.2 g).length : Int)) / 37
    rw [hlx]
    refine hr g ?_
    revert hg
    cases f <;> cases g <;> simp [setUpA, upA]
  have hds : (setUpA { s with ps := lv.2 } (!f) false).ds = s.ds := rfl
  generalize setUpA { s with ps := lv.2 } (!f) false = s3 at *
  refine ar_shorten0 h3 hr3 fun w4 k4 => OpI_int.2 ((Cb_false (p := _)).2 fun d => ?_)
  have k4 := k4.dr d
  have h5 := h3.keep0 k4
  have k05 := ArF.trans k3 (ArF.none k4)
  generalize w4.dr d = w5 at *
  refine ⟨fun w' => Has w' q.a (.cells (arC q lk s3) 143 (0, 0)), h5.cells, side_rng f, ?_⟩
  refine LdV_of (v := .int .u32 (epA s3 f)) (fun w' hw => ⟨_, _, _, hw, by cases f <;> rfl⟩) (OpI_int.2 ?_)
  refine LdA_of (cs := setV q.g q.sp q.g.d.toNat q.sc) rfl (fun w' hw => ⟨_, _, _, hw, by show 3 + 4 ≤ 21; decide, arC_set q lk s3⟩) ?_
  refine st_Key (q := q.sb) h5.set h5.disks.sl h5.disks.cap.1 fun w6 k6 => OpI_int.2 ?_
  have h6 := h5.keep0 k6
  have k06 := ArF.trans k05 (ArF.none k6)
  rw [hkS, hE]
  refine ⟨h6.cells, DoQ_of (v := .int .u32 (max (epA s f) (keyS s.ss))) (fun d => run_max _ _ _ _ _ _) (OpI_int.2 ?_)⟩
  have hmx := max_rng hep hkey
  refine merge_After hmx.1 hmx.2 (by cases f <;> decide) ?_
  have hrng := fun hh => after_rng (side := sideN f) hmx.1 hh
  generalize afterS (max (epA s f) (keyS s.ss)) (sideN f) = a at *
  refine T2_mk.2 (OpI_int.2 (OpI_int.2 ⟨h6.cells, ?_⟩))
  refine Cb_of (fun hc => ?_) (fun hc => ?_)
  · have hc : a.2 ≠ 0 := by simpa using hc
    simp only at hK
    rw [if_pos hc] at hK
    exact Ret_nil.2 (hK w6 h6 k06)
  have hc : ¬ a.2 ≠ 0 := by simpa using hc
  simp only at hK
  rw [if_neg hc] at hK
  have hep2 := hrng (by simpa using hc)
  refine LdV_has (v := .pointer (some ⟨q.pb.p, 0, none⟩)) h6.cells rfl (OpN_some.2 ?_)
  refine pr_Stamp h6.pair fun w7 p7 k7 => OpI_int.2 ?_
  have h7 := h6.ofPair p7 k7
  have k07 := ArF.trans k06 (k7.mono fun i e => PFoot.arF e)
  generalize stampP q.pb.sz s3.ps a.1 = r at *
  refine Cb_of (fun hc2 => ?_) (fun hc2 => ?_)
  · have hc2 : r.1 ≠ 0 := by simpa using hc2
    rw [if_pos hc2] at hK
    exact Ret_nil.2 (hK w7 h7 k07)
  have hc2 : ¬ r.1 ≠ 0 := by simpa using hc2
  rw [if_neg hc2] at hK
  refine LdA_has (cs := setV q.g q.sp q.g.d.toNat q.sc) h7.cells (by show 3 + 4 ≤ 21; decide) (arC_set q lk _) ?_
  refine st_Fence (q := q.sb) h7.set h7.disks.sl h7.disks.cap.1 (fun b o hb => ?_) (by show ∀ D ∈ s3.ds, DskOk D; rw [hds]; exact hok) hep2 fun w8 s8 k8 => OpI_int.2 ⟨side_rng f, ?_⟩
  · obtain ⟨_, cur, hh⟩ := own_has h7.disks b o hb
    exact h7.set.typ hh (by decide) (by decide) (by decide)
  have h8 := h7.ofSet s8 k8
  have k08 := ArF.trans k07 (k8.mono fun i e => Or.inr (Or.inl e))
  have hpw : (fenceS (AS.ss { s3 with ps := r.2 }) a.1).2.pw = r.2.pw := fence_pw _ _
  rw [hpw] at h8
  refine StV_of h8.cells (by show _ < 21; cases f <;> decide) rfl (Ret_nil.2 ?_)
  have hset2 : (arC q lk { s3 with ds := (fenceS (AS.ss { s3 with ps := r.2 }) a.1).2.ds, ps := { r.2 with pw := r.2.pw } }).setIfInBounds (13 + Int.toNat (sideN f) * 2 + 1) (.int .u32 a.1) = arC q lk (setEpA { s3 with ps := r.2, ds := (fenceS ⟨s3.ds, r.2.pw⟩ a.1).2.ds } f a.1) := by cases f <;> rfl
  have h9 := h8.put (lk' := lk) (s' := setEpA { s3 with ps := r.2, ds := (fenceS ⟨s3.ds, r.2.pw⟩ a.1).2.ds } f a.1) rfl rfl rfl rfl
  rw [← hset2] at h9
  exact hK _ h9 (k08.upd (fun _ => Or.inl rfl) _)
end calls
end Go.Proofs

namespace Go.Proofs
open Go Go.Ev Go.RowKit
set_option linter.unusedSimpArgs false
set_option linter.unusedVariables false
set_option maxRecDepth 100000

/-! ### records in a memory -/
/-- what a memory keeps: whole records, and less than one behind them -/
def KeptB (bs : List Int) (L : List Rec) : Prop := (∀ r ∈ L, RcOk r) ∧ ∃ t : List Int, t.length < 37 ∧ By t ∧ bs = L.flatMap packB ++ t
theorem KeptB.mk {L : List Rec} (h : ∀ r ∈ L, RcOk r) : KeptB (L.flatMap packB) L := ⟨h, [], by decide, fun x hx => by simp at hx, by simp⟩
/-- just the whole records -/
def WholeB (bs : List Int) (L : List Rec) : Prop := (∀ r ∈ L, RcOk r) ∧ bs = L.flatMap packB
theorem WholeB.app {bs : List Int} {L : List Rec} (h : WholeB bs L) {r : Rec} (hr : RcOk r) : WholeB (bs ++ packB r) (L ++ [r]) := by
  obtain ⟨h1, rfl⟩ := h
  refine ⟨fun x hx => ?_, by simp⟩
  rcases List.mem_append.1 hx with hx | hx
  · exact h1 x hx
  · rw [List.mem_singleton.1 hx]; exact hr
theorem WholeB.len {bs : List Int} {L : List Rec} (h : WholeB bs L) : (bs.length : Int) = 37 * (L.length : Int) := by
  obtain ⟨h1, rfl⟩ := h
  rw [recs_len]; omega
/-! ### what is pending -/
theorem pendS_nil {LL : List (List Rec)} (h : pendG LL = []) : pendS LL = [] := by unfold pendS; rw [h]; simp [sortU]
def recsW (v : Int) (P : List PutS) : List Rec := recsI v P ++ [recK 5 v]
theorem recsW_len (v : Int) (P : List PutS) : (recsW v P).length = P.length + 2 := by unfold recsW recsI; simp
theorem grp_append {v : Int} (a b : List Rec) : grp v (a ++ b) = grp v a ++ grp v b := by unfold grp; simp
/-! ### a write with the power going at any step -/
theorem planS_seal {g : Geo} {s : SS} (hs : SsOk g s) {now : Int → Sec} (hi : Inv g s now) (hn : ∀ l, SecOk (now l)) (hon : s.pw.on = true) {lba : Int} (h0 : 0 ≤ lba) (h1 : lba < (g.d - 2) * g.c * g.s) {data : Sec} (hd : SecOk data) (hlost : lostN (colsS g s (spotP g lba).1 (spotP g lba).2.2) ≤ 2) :
    (planS g s lba data).2 = 0 ∧ ∀ x ∈ (planS g s lba data).1, Sealed g s x ∧ sealP x = x := by
  have hg := hs.geo
  obtain ⟨pst, pco, pof⟩ := spotP_ok hg h0 h1
  have hrow := hi.rowR hg hn pst pof hlost
  have hplan : planS g s lba data = (planL g s (spotP g lba).1 (spotP g lba).2.2 (rowW (Go.Proofs.rowR (colsS g s (spotP g lba).1 (spotP g lba).2.2)) (spotP g lba).2.1.toNat data) [(spotP g lba).2.1, g.d - 2, g.d - 1], 0) := by
    unfold planS
    simp only
    rw [if_neg (by rw [hon]; decide), if_pos hlost]
  rw [hplan, hrow]
  have hd' := hg.d
  have hls := lbaP_spot hg lba
  generalize spotP g lba = x at *
  rw [rowW_full (by rw [len_rowT]; omega), ← rowT_upd_same hg pst.1 pof pco, hls]
  refine ⟨rfl, fun y hy => ?_⟩
  have hfull := fullT_ok (rowT_ok (g := g) (upd_ok hn hd lba) x.1 x.2.2)
  have hpo := planL_ok hg pst pof y hy
  unfold planL at hy
  obtain ⟨k, hk, hyk⟩ := List.mem_filterMap.1 hy
  unfold planK at hyk
  split at hyk
  · cases hyk
  · rename_i hal
    cases hyk
    refine ⟨⟨hpo, ?_, rfl, ?_⟩, rfl⟩
    · show SecOk ((fullT (rowT g (upd now lba data) x.1 x.2.2)).getD k.toNat (sec []))
      rw [List.getD_eq_getElem?_getD]
      cases hx : (fullT (rowT g (upd now lba data) x.1 x.2.2))[k.toNat]? with
      | none => exact sec0_ok
      | some f => exact hfull f (List.mem_of_getElem? hx)
    · unfold deadS
      show (s.ds.getD (plcP g x.1 x.2.2 k).dk.toNat dsk0).dead = false
      simpa using hal
theorem seal_inR {g : Geo} {s : SS} {x : PutS} (hg : GeoOk g) (h : Sealed g s x) : InR x := by
  obtain ⟨⟨⟨a1, a2⟩, a3, a4⟩, _⟩ := h
  have h1 := hg.d
  have h2 := hg.c
  have h3 := hg.s
  have : g.c * g.s ≤ 8 * 64 := Int.mul_le_mul h2.2 h3.2 (by omega) (by omega)
  exact ⟨⟨a1, by omega⟩, a3, by omega⟩
theorem badPut_in {x : PutS} (h : InR x) : badPut x = false := by
  obtain ⟨⟨a1, a2⟩, a3, a4⟩ := h
  unfold badPut
  rw [decide_eq_false (by omega), decide_eq_false (by omega), decide_eq_false (by omega), decide_eq_false (by omega)]
  rfl
end Go.Proofs

namespace Go.Proofs
open Go Go.Ev
set_option linter.unusedSimpArgs false
set_option linter.unusedVariables false
set_option maxRecDepth 100000

/-- what is lost of a set lies on disks that have failed; these are two at most -/
structure TwoS (g : Geo) (s : SS) (X Y : Int) : Prop where
  cells : ∀ i a, 0 ≤ i ∧ i < g.d → 0 ≤ a ∧ a < g.c * g.s → viewS s i a = none → deadS s i = true
  dead : ∀ i, 0 ≤ i → deadS s i = true → i = X ∨ i = Y
theorem TwoS.lost {g : Geo} (hg : GeoOk g) {s : SS} {X Y : Int} (h : TwoS g s X Y) {st off : Int} (hst : 0 ≤ st ∧ st < g.s) (hof : 0 ≤ off ∧ off < g.c) : lostN (colsS g s st off) ≤ 2 :=
  lost_two hg hst hof X Y fun k hk hv => by
    obtain ⟨pk1, pk2⟩ := plcP_ok hg hst hof (k : Int)
    exact h.dead _ pk1.1 (h.cells _ _ pk1 pk2 hv)
theorem TwoS.write {g : Geo} {s s' : SS} {X Y lba : Int} {now : Int → Sec} {data : Sec} (h : TwoS g s X Y) (hw : Written g s s' now lba data) : TwoS g s' X Y :=
  ⟨fun j a hj ha hv => by
    rw [hw.dead]
    rcases hw.view j a hj.1 ha.1 hv with e | e
    · exact h.cells j a hj ha e
    · exact e, fun j hj hd => h.dead j hj (by rw [← hw.dead]; exact hd)⟩
section calls
variable {w0 w : World} {g : Geo} {b2 b3 m : Nat} {bks : List (Nat × Nat)} {p : Option Addr} {c : Nat} {pr : Option Addr} {cr : Nat} {xs : List (Nat × Nat × Nat)}
end calls
end Go.Proofs

namespace Go.Proofs
open Go Go.Ev Go.RowKit
set_option linter.unusedSimpArgs false
set_option linter.unusedVariables false
set_option maxRecDepth 100000

theorem StmAt.pow {w w1 : World} {q : MB} {g : Geo} {bks : List (Nat × Nat)} {base : Nat} {dp : Option Addr} {dc : Nat} {s : SS} {xa xb : List Int} {pw : Pow} (h : StmAt w q g bks base dp dc s xa xb) (k : Keep (fun k => k = q.m) w w1) (hm : MaAt w1 q.m pw) : StmAt w1 q g bks base dp dc ⟨s.ds, pw⟩ xa xb :=
  h.ofMems (s' := ⟨pw, xa, xb⟩) (h.mems.pow k (fun i _ e => e) hm) (k.mono fun i e => Or.inl e)
/-- the set, the memories, and what the law has in memory -/
structure WhI (w0 w : World) (q : MB) (g : Geo) (bks : List (Nat × Nat)) (b1 b2 b3 b5 : Nat) (old now : Sec) (rp : Option Addr) (dp : Option Addr) (dc : Nat) (s : SS) (xa xb : List Int) : Prop where
  stm : StmAt w q g bks w0.heap.size dp dc s xa xb
  set : Has w b5 (.cells (setV g dp g.d.toNat dc) 51 (0, 0))
  geo : Has w b3 (.cells (geoV g) 24 (0, 0))
  o : Has w b1 (.cells (secV old) 37 (0, 0))
  n : Has w b2 (.cells (secV now) 37 (0, 0))
  r : SlT dLay w 104 rp 2 2 ([false, true].map (ramM q))
  lowS : ∀ i, SFoot ⟨q.m, g, bks⟩ i → w0.heap.size ≤ i
  lowM : w0.heap.size ≤ q.a ∧ w0.heap.size ≤ q.b ∧ q.base = w0.heap.size
  k : Keep (fun _ => False) w0 w
section inv
variable {w0 w w1 : World} {q : MB} {g : Geo} {bks : List (Nat × Nat)} {b1 b2 b3 b5 : Nat} {old now : Sec} {rp dp : Option Addr} {dc : Nat} {s s' : SS} {xa xb xa' xb' : List Int}
theorem WhI.to (h : WhI w0 w q g bks b1 b2 b3 b5 old now rp dp dc s xa xb) (hs : StmAt w1 q g bks w0.heap.size dp dc s' xa' xb') (k : Keep (WFoot q g bks w) w w1) : WhI w0 w1 q g bks b1 b2 b3 b5 old now rp dp dc s' xa' xb' :=
  ⟨hs, WFoot.has h.stm k h.set (by decide) (by decide) (by decide) (by decide) (by decide), WFoot.has h.stm k h.geo (by decide) (by decide) (by decide) (by decide) (by decide), WFoot.has h.stm k h.o (by decide) (by decide) (by decide) (by decide) (by decide),
    WFoot.has h.stm k h.n (by decide) (by decide) (by decide) (by decide) (by decide), WFoot.slt h.stm k h.r (by decide) (by decide) (by decide) (by decide) (by decide), h.lowS, h.lowM, h.k.trans' k fun i hi hf => by
      have hl := h.lowM
      have hm := h.lowS q.m (Or.inl rfl)
      rcases hf with (e | e | e | ⟨hb, _⟩) | e
      · omega
      · omega
      · omega
      · omega
      · have := h.lowS i e; omega⟩
theorem WhI.keep0 (h : WhI w0 w q g bks b1 b2 b3 b5 old now rp dp dc s xa xb) (k : Keep (fun _ => False) w w1) : WhI w0 w1 q g bks b1 b2 b3 b5 old now rp dp dc s xa xb := h.to (h.stm.keep0 k) (WFoot.none k)
theorem WhI.pow {pw : Pow} (h : WhI w0 w q g bks b1 b2 b3 b5 old now rp dp dc s xa xb) (k : Keep (fun k => k = q.m) w w1) (hm : MaAt w1 q.m pw) : WhI w0 w1 q g bks b1 b2 b3 b5 old now rp dp dc ⟨s.ds, pw⟩ xa xb :=
  h.to (h.stm.pow k hm) (k.mono fun i e => Or.inl (Or.inl e))
end inv
end Go.Proofs

namespace Go.Proofs
open Go Go.Ev Go.RowKit
set_option linter.unusedSimpArgs false
set_option linter.unusedVariables false
set_option maxRecDepth 100000

theorem putV_none : ∀ (xs : List PutS) {v : Int → Int → Option Sec} {i a : Int}, putV xs v i a = none → v i a = none
  | [], _, _, _, h => h
  | x :: xs, v, i, a, h => by
    have : (if i = x.plc.dk ∧ a = x.plc.at_ then some x.cel.data else v i a) = none := putV_none xs h
    split at this
    · cases this
    · exact this
theorem planS_pw {g : Geo} {ds : List Dsk} {p p' : Pow} (h : p.on = true) (h' : p'.on = true) (lba : Int) (data : Sec) : planS g ⟨ds, p⟩ lba data = planS g ⟨ds, p'⟩ lba data := by
  unfold planS
  rw [show ({ ds := ds, pw := p } : SS).pw.on = true from h, show ({ ds := ds, pw := p' } : SS).pw.on = true from h']
  rfl
theorem TwoS.cut {g : Geo} {s s' : SS} {X Y : Int} {xs : List PutS} (h : TwoS g s X Y) (k : CutS g s s' xs) : TwoS g s' X Y :=
  ⟨fun i a hi ha hv => by
    rw [k.dead]
    rw [k.view i a hi.1 ha.1] at hv
    exact h.cells i a hi ha (putV_none xs hv), fun i hi hd => h.dead i hi (by rw [← k.dead]; exact hd)⟩
theorem SsOk.pw {g : Geo} {s : SS} (h : SsOk g s) (p : Pow) : SsOk g ⟨s.ds, p⟩ := ⟨h.geo, h.num, h.len, h.ok⟩
/-- behind all of the cells of a write the set holds what was written -/
theorem CutS.inv {g : Geo} {s s' : SS} (hs : SsOk g s) {now : Int → Sec} (hi : Inv g s now) (hn : ∀ l, SecOk (now l)) (hon : s.pw.on = true) {lba : Int} (h0 : 0 ≤ lba) (h1 : lba < (g.d - 2) * g.c * g.s) {data : Sec} (hd : SecOk data) (hlost : lostN (colsS g s (spotP g lba).1 (spotP g lba).2.2) ≤ 2)
    (hk : ∀ i : Nat, (s.ds.getD i dsk0).key ≤ 0) (k : CutS g s s' (planS g s lba data).1) : Inv g s' (upd now lba data) := by
  have hss := hs.pw ⟨true, 0, 0⟩
  have hinv : Inv g ⟨s.ds, ⟨true, 0, 0⟩⟩ now := hi
  obtain ⟨hp2, hps⟩ := planS_seal hs hi hn hon h0 h1 hd hlost
  obtain ⟨-, s2, e2, w2⟩ := hinv.write (ep := 0) hss hn ⟨rfl, rfl⟩ h0 h1 hd hk hlost
  have ep : planS g ⟨s.ds, ⟨true, 0, 0⟩⟩ lba data = planS g s lba data := planS_pw (p := ⟨true, 0, 0⟩) (p' := s.pw) rfl hon lba data
  rw [ep] at e2
  obtain ⟨j, c1, c2, c3, c4⟩ := applyS_cut (ep := 0) (xs := (planS g s lba data).1) hss rfl (fun x hx => (hps x hx).1) hk
  have hj : j = (planS g s lba data).1.length := by
    rcases c3 with ⟨_, e, _⟩ | ⟨e, _⟩
    · exact e
    · rw [(c4 rfl).1] at e; cases e
  rw [hj, List.take_length, e2] at c2
  exact w2.inv.see hs.geo fun i a hi' ha => by rw [k.view i a hi' ha]; exact (c2.view i a hi' ha).symm
end Go.Proofs

/-
  THE LAWS OF STRIPE: sectors that are hurt. Plain, and the call.
-/
namespace Go.Proofs
open Go Go.Ev
set_option linter.unusedSimpArgs false
set_option linter.unusedVariables false
set_option maxRecDepth 100000

/-- a sector of a disk is hurt -/
def hurtS (s : SS) (i a : Int) : SS := ⟨s.ds.set i.toNat (hurtD (s.ds.getD i.toNat dsk0) a), s.pw⟩
theorem hurtD_cell {D : Dsk} {a b : Int} (ha : 0 ≤ a ∧ a < (D.secs.length : Int)) (hb : 0 ≤ b) : cellD (hurtD D a) b = if b = a then none else cellD D b := by
  unfold hurtD
  rw [if_pos ha]
  by_cases hd : D.dead = true
  · rw [if_pos hd]
    unfold cellD
    rw [if_pos hd]
    split <;> rfl
  · rw [if_neg hd]
    show (if D.dead = true then none else if ((D.secs.set a.toNat { (D.secs.getD a.toNat sct0) with good := false }).getD b.toNat sct0).good = false then none else if ((D.secs.set a.toNat { (D.secs.getD a.toNat sct0) with good := false }).getD b.toNat sct0).cel.sum = sumS b ((D.secs.set a.toNat { (D.secs.getD a.toNat sct0) with good := false }).getD b.toNat sct0).cel.data then some ((D.secs.set a.toNat { (D.secs.getD a.toNat sct0) with good := false }).getD b.toNat sct0).cel.data else none) = _
    rw [if_neg hd, getD_setS (by omega)]
    by_cases e : b = a
    · subst e
      rw [if_pos rfl, if_pos rfl, if_pos rfl]
    · rw [if_neg (show ¬ a.toNat = b.toNat by omega), if_neg e]
      unfold cellD
      rw [if_neg hd]
theorem hurtS_get {s : SS} {i a : Int} (hi : i.toNat < s.ds.length) (j : Nat) : (hurtS s i a).ds.getD j dsk0 = if i.toNat = j then hurtD (s.ds.getD i.toNat dsk0) a else s.ds.getD j dsk0 := by
  unfold hurtS
  exact getD_setS hi _ _
theorem hurtS_view {g : Geo} {s : SS} (h : SsOk g s) {i a : Int} (hi : 0 ≤ i ∧ i < g.d) (ha : 0 ≤ a ∧ a < g.c * g.s) {j b : Int} (hj : 0 ≤ j) (hb : 0 ≤ b) : viewS (hurtS s i a) j b = if j = i ∧ b = a then none else viewS s j b := by
  have hn := h.num
  have hl := h.len _ (h.get hi.1 hi.2)
  unfold viewS
  rw [hurtS_get (by omega)]
  by_cases e : i.toNat = j.toNat
  · have e' : j = i := by omega
    rw [if_pos e, hurtD_cell (by rw [hl]; exact ha) hb]
    by_cases e2 : b = a
    · rw [if_pos e2, if_pos ⟨e', e2⟩]
    · rw [if_neg e2, if_neg (fun h => e2 h.2), e]
  · rw [if_neg e, if_neg (fun h => e (by rw [h.1]))]
section calls
variable {w0 w : World} {g : Geo} {b2 b3 m : Nat} {bks : List (Nat × Nat)} {p : Option Addr} {c : Nat} {pr : Option Addr} {cr : Nat} {xs : List (Nat × Nat × Nat)} {R : Value → World → Prop}
end calls
end Go.Proofs

/-
  StripeRows, plain: how many columns are lost.
-/
namespace Go.Proofs
open Go Go.Ev
set_option linter.unusedSimpArgs false
set_option linter.unusedVariables false
set_option maxRecDepth 100000

end Go.Proofs

/-
  A SET THAT IS USED: what stands, and its calls, each at once.
-/
namespace Go.Proofs
open Go Go.Ev
set_option linter.unusedSimpArgs false
set_option linter.unusedVariables false
set_option maxRecDepth 100000

/-- a set whose power is on and whose keys are noughts, that holds what was written -/
structure StI (w : World) (base : Nat) (g : Geo) (m : Nat) (bks : List (Nat × Nat)) (p : Option Addr) (c : Nat) (s : SS) (now : Int → Sec) : Prop where
  set : SetAt w ⟨m, g, bks⟩ s
  disks : OwnL dLay w base 111 p g.d.toNat c (bks.map Prod.fst)
  ss : SsOk g s
  lit : Lit0 s.pw
  key : ∀ i : Nat, (s.ds.getD i dsk0).key ≤ 0
  inv : Inv g s now
  nok : ∀ l, SecOk (now l)
section calls
variable {w w' : World} {base : Nat} {g : Geo} {m : Nat} {bks : List (Nat × Nat)} {p : Option Addr} {c : Nat} {s : SS} {now : Int → Sec} {R : Value → World → Prop}
theorem StI.keep0 (h : StI w base g m bks p c s now) (k : Keep (fun _ => False) w w') : StI w' base g m bks p c s now :=
  ⟨h.set.keep0 k, h.disks.keep k (by simp), h.ss, h.lit, h.key, h.inv, h.nok⟩
theorem StI.keep {S : Nat → Prop} (h : StI w base g m bks p c s now) (k : Keep S w w') (hS : ∀ b, SFoot ⟨m, g, bks⟩ b → ¬ S b) (hD : ∀ b, p = some ⟨b, 0, none⟩ → ¬ S b) : StI w' base g m bks p c s now :=
  ⟨h.set.keep k hS, h.disks.keep k hD, h.ss, h.lit, h.key, h.inv, h.nok⟩
theorem StI.off (h : StI w base g m bks p c s now) : ∀ b o, p = some ⟨b, o, none⟩ → ¬ SFoot ⟨m, g, bks⟩ b := fun b o hb hi => by
  rcases Own.cases h.disks with ⟨h0, _⟩ | ⟨b', cur, h0, _, hg, _⟩
  · rw [h0] at hb; cases hb
  · rw [h0] at hb; cases hb
    exact h.set.typ hg (by decide) (by decide) (by decide) hi
theorem StI.disks' (h : StI w base g m bks p c s now) (k : Keep (SFoot ⟨m, g, bks⟩) w w') : OwnL dLay w' base 111 p g.d.toNat c (bks.map Prod.fst) :=
  h.disks.keep k fun b hb => h.off b 0 hb
theorem StI.plan (h : StI w base g m bks p c s now) {lba : Int} (h0 : 0 ≤ lba) (h1 : lba < (g.d - 2) * g.c * g.s) {data : Sec} (hdat : SecOk data) (hlost : lostN (colsS g s (spotP g lba).1 (spotP g lba).2.2) ≤ 2)
    (hK : ∀ p' n c' w', n = (planS g s lba data).1.length → n ≤ 3 → OwnL puLay w' w.heap.size 88 p' n c' (planS g s lba data).1 → Keep (fun _ => False) w w' → R (.tuple #[.slice p' n c', .int .i64 0]) w') :
    CallV Tryz.prog 35 #[.agg (setV g p g.d.toNat c), .int .i64 lba, .agg (secV data)] w R := by
  obtain ⟨hp2, -⟩ := h.inv.write (ep := 0) h.ss h.nok h.lit h0 h1 hdat h.key hlost
  refine st_Plan h.set h.disks.sl h.disks.cap.1 h.ss.ok h0 h1 hdat fun p' c' w' o k => ?_
  have hp2' : (planS (SB.mk m g bks).g s lba data).2 = 0 := hp2
  rw [hp2']
  have hlen : (planS g s lba data).1.length ≤ 3 := by
    have : planS g s lba data = (planL g s (spotP g lba).1 (spotP g lba).2.2 (rowW (rowR (colsS g s (spotP g lba).1 (spotP g lba).2.2)) (spotP g lba).2.1.toNat data) [(spotP g lba).2.1, g.d - 2, g.d - 1], 0) := by
      unfold planS
      simp only
      rw [if_neg (by rw [h.lit.1]; decide), if_pos hlost]
    rw [this]
    exact Nat.le_trans (List.length_filterMap_le _ _) (by simp)
  exact hK p' _ c' w' rfl hlen o k
theorem StI.apply (h : StI w base g m bks p c s now) {lba : Int} (h0 : 0 ≤ lba) (h1 : lba < (g.d - 2) * g.c * g.s) {data : Sec} (hdat : SecOk data) (hlost : lostN (colsS g s (spotP g lba).1 (spotP g lba).2.2) ≤ 2)
    {pb : Nat} {pp : Option Addr} {pl pc : Nat} (hpl : pl ≤ 3) (o : OwnL puLay w pb 88 pp pl pc (planS g s lba data).1)
    (hK : ∀ w' s', applyS g s (planS g s lba data).1 0 = (0, s') → Written g s s' now lba data → StI w' base g m bks p c s' (upd now lba data) → Keep (SFoot ⟨m, g, bks⟩) w w' → R (.int .i64 0) w') :
    CallV Tryz.prog 38 #[.agg (setV g p g.d.toNat c), .slice pp pl pc, .int .u32 0] w R := by
  obtain ⟨-, s', hap, hw⟩ := h.inv.write (ep := 0) h.ss h.nok h.lit h0 h1 hdat h.key hlost
  refine st_Apply h.set h.disks.sl h.disks.cap.1 h.off o.sl (by omega) (fun b' o' hb' hi => ?_) fun w3 hS3 k3 => ?_
  · rcases Own.cases o with ⟨e0, _⟩ | ⟨b'', cur, e0, _, hg', _⟩
    · rw [e0] at hb'; cases hb'
    · rw [e0] at hb'; cases hb'
      exact h.set.typ hg' (by decide) (by decide) (by decide) hi
  have hap' : applyS (SB.mk m g bks).g s (planS g s lba data).1 0 = (0, s') := hap
  rw [hap'] at hS3 ⊢
  exact hK w3 s' hap hw ⟨hS3, h.disks' k3, hw.ss, hw.lit, fun i => by rw [hw.key]; exact h.key i, hw.inv, upd_ok h.nok hdat lba⟩ k3
theorem StI.read (h : StI w base g m bks p c s now) {lba : Int} (h0 : 0 ≤ lba) (h1 : lba < (g.d - 2) * g.c * g.s)
    (hK : ∀ w', Keep (fun _ => False) w w' → R (.tuple #[.agg (secV (readS g s lba).1), .int .i64 (readS g s lba).2]) w') : CallV Tryz.prog 29 #[.agg (setV g p g.d.toNat c), .int .i64 lba] w R :=
  st_Read h.set h.disks.sl h.disks.cap.1 h.ss.ok h0 h1 hK
end calls

/-! ### which cells are lost -/
def Whole (g : Geo) (s : SS) : Prop := ∀ i a, 0 ≤ i ∧ i < g.d → 0 ≤ a ∧ a < g.c * g.s → viewS s i a ≠ none
theorem Whole.lost {g : Geo} (hg : GeoOk g) {s : SS} (h : Whole g s) {st off : Int} (hst : 0 ≤ st ∧ st < g.s) (hof : 0 ≤ off ∧ off < g.c) : lostN (colsS g s st off) = 0 := lost_none hg hst hof h
theorem Whole.write {g : Geo} {s s' : SS} {now : Int → Sec} {lba : Int} {data : Sec} (h : Whole g s) (hw : Written g s s' now lba data) : Whole g s' := fun i a hi ha hv => by
  rcases hw.view i a hi.1 ha.1 hv with e | e
  · exact h i a hi ha e
  · exact h i a hi ha (view_dead e)
theorem newS_whole {g : Geo} (hg : GeoOk g) (pw : Pow) : Whole g (newS g pw) := fun i a hi ha => by rw [newS_view hg hi ha]; simp
/-- the cells at a place are lost on some disks, all others are there -/
def GoneAt (g : Geo) (s : SS) (z : Int) (l : List Int) : Prop := ∀ j a, 0 ≤ j ∧ j < g.d → 0 ≤ a ∧ a < g.c * g.s → (viewS s j a = none ↔ a = z ∧ j ∈ l)
theorem Whole.gone {g : Geo} {s : SS} (h : Whole g s) (z : Int) : GoneAt g s z [] := fun j a hj ha => ⟨fun e => absurd e (h j a hj ha), fun e => absurd e.2 (by simp)⟩
theorem GoneAt.hurt {g : Geo} {s : SS} (hs : SsOk g s) {z : Int} (hz : 0 ≤ z ∧ z < g.c * g.s) {l : List Int} (h : GoneAt g s z l) {i : Int} (hi : 0 ≤ i ∧ i < g.d) : GoneAt g (hurtS s i z) z (i :: l) := fun j a hj ha => by
  rw [hurtS_view hs hi hz hj.1 ha.1]
  have := h j a hj ha
  split
  · rename_i e
    exact ⟨fun _ => ⟨e.2, by rw [e.1]; exact List.mem_cons_self ..⟩, fun _ => rfl⟩
  · rename_i e
    rw [this]
    constructor
    · exact fun ⟨a1, a2⟩ => ⟨a1, List.mem_cons_of_mem _ a2⟩
    · intro ⟨a1, a2⟩
      rcases List.mem_cons.1 a2 with a3 | a3
      · exact absurd ⟨a3, a1⟩ e
      · exact ⟨a1, a3⟩
end Go.Proofs

/-
  A WRITE AND ITS PLAN, where all disks live.
-/
namespace Go.Proofs
open Go Go.Ev
set_option linter.unusedSimpArgs false
set_option linter.unusedVariables false
set_option maxRecDepth 100000

/-- the plan of a write, where all disks live -/
theorem planS_alive {g : Geo} {s : SS} {now : Int → Sec} (hs : SsOk g s) (h : Inv g s now) (hn : ∀ l, SecOk (now l)) (hl : Lit0 s.pw) {lba : Int} (h0 : 0 ≤ lba) (h1 : lba < (g.d - 2) * g.c * g.s) {data : Sec} (hdat : SecOk data)
    (hlost : lostN (colsS g s (spotP g lba).1 (spotP g lba).2.2) ≤ 2) (hal : ∀ i, deadS s i = false) :
    (planS g s lba data).1 = [(spotP g lba).2.1, g.d - 2, g.d - 1].map (putK g (spotP g lba).1 (spotP g lba).2.2 (fullT (rowT g (upd now lba data) (spotP g lba).1 (spotP g lba).2.2))) := by
  have hg := hs.geo
  obtain ⟨pst, pco, pof⟩ := spotP_ok hg h0 h1
  have hls := lbaP_spot hg lba
  have hrow := h.rowR hg hn pst pof hlost
  have hplan : planS g s lba data = (planL g s (spotP g lba).1 (spotP g lba).2.2 (rowW (Go.Proofs.rowR (colsS g s (spotP g lba).1 (spotP g lba).2.2)) (spotP g lba).2.1.toNat data) [(spotP g lba).2.1, g.d - 2, g.d - 1], 0) := by
    unfold planS
    simp only
    rw [if_neg (by rw [hl.1]; decide), if_pos hlost]
  rw [hplan, hrow]
  generalize spotP g lba = x at *
  rw [rowW_full (by rw [len_rowT]; omega), ← rowT_upd_same hg pst.1 pof pco, hls]
  exact planL_alive hal _
theorem putK_sealed {g : Geo} (hg : GeoOk g) {s : SS} (hal : ∀ i, deadS s i = false) {st off : Int} (hst : 0 ≤ st ∧ st < g.s) (hof : 0 ≤ off ∧ off < g.c) {row : List Sec} (hrow : ∀ f ∈ row, SecOk f) (k : Int) : Sealed g s (putK g st off row k) := by
  refine ⟨plcP_ok hg hst hof k, ?_, rfl, hal _⟩
  show SecOk (row.getD k.toNat (sec []))
  rw [List.getD_eq_getElem?_getD]
  cases hx : row[k.toNat]? with
  | none => exact sec0_ok
  | some f => exact hrow f (List.mem_of_getElem? hx)
/-- a write where all disks live: three steps, and just these cells are changed -/
theorem write_alive {g : Geo} {s s' : SS} {now : Int → Sec} (hs : SsOk g s) (h : Inv g s now) (hn : ∀ l, SecOk (now l)) (hl : Lit0 s.pw) {lba : Int} (h0 : 0 ≤ lba) (h1 : lba < (g.d - 2) * g.c * g.s) {data : Sec} (hdat : SecOk data) {ep : Int} (hep : ∀ i : Nat, (s.ds.getD i dsk0).key ≤ ep)
    (hlost : lostN (colsS g s (spotP g lba).1 (spotP g lba).2.2) ≤ 2) (hal : ∀ i, deadS s i = false) (hs0 : 0 ≤ s.pw.steps) (hs1 : s.pw.steps < 1000000000000) (happ : applyS g s (planS g s lba data).1 ep = (0, s')) :
    (planS g s lba data).1.length = 3 ∧ s'.pw.steps = s.pw.steps + 3 ∧ (∀ i, deadS s' i = false) ∧ viewS s' (plcP g (spotP g lba).1 (spotP g lba).2.2 (spotP g lba).2.1).dk (plcP g (spotP g lba).1 (spotP g lba).2.2 (spotP g lba).2.1).at_ = some data ∧
    ∀ i a, 0 ≤ i → 0 ≤ a → (∀ k ∈ [(spotP g lba).2.1, g.d - 2, g.d - 1], ¬ (i = (plcP g (spotP g lba).1 (spotP g lba).2.2 k).dk ∧ a = (plcP g (spotP g lba).1 (spotP g lba).2.2 k).at_)) → viewS s' i a = viewS s i a := by
  have hg := hs.geo
  have hd := hg.d
  obtain ⟨pst, pco, pof⟩ := spotP_ok hg h0 h1
  have hls := lbaP_spot hg lba
  rw [planS_alive hs h hn hl h0 h1 hdat hlost hal] at happ ⊢
  generalize spotP g lba = x at *
  have hrow := fullT_ok (rowT_ok (g := g) (upd_ok hn hdat lba) x.1 x.2.2)
  obtain ⟨s2, a1, a2, a3, a4, a5, a6, a7⟩ := applyS_ok (ep := ep) hs hl hs0 (xs := [x.2.1, g.d - 2, g.d - 1].map (putK g x.1 x.2.2 (fullT (rowT g (upd now lba data) x.1 x.2.2)))) (by simp; omega) (fun y hy => by
    obtain ⟨k, _, rfl⟩ := List.mem_map.1 hy
    exact putK_sealed hg hal pst pof hrow k) hep
  rw [happ] at a1
  cases a1
  refine ⟨rfl, by rw [a4]; simp, fun i => by rw [a5, hal], ?_, fun i a hi ha hne => ?_⟩
  · obtain ⟨pk1, pk2⟩ := plcP_ok hg pst pof x.2.1
    rw [a7 _ _ pk1.1 pk2.1]
    rw [List.map_cons, putV_cons, putV_other _ fun y hy he => ?_]
    · rw [if_pos ⟨rfl, rfl⟩]
      show some ((fullT (rowT g (upd now lba data) x.1 x.2.2)).getD x.2.1.toNat (sec [])) = _
      unfold fullT
      rw [List.getD_eq_getElem?_getD, List.getElem?_append_left (by rw [len_rowT]; omega), rowT_at (by omega), show ((x.2.1.toNat : Nat) : Int) = x.2.1 by omega, hls]
      unfold upd
      rw [if_pos rfl]; rfl
    · obtain ⟨k, hk, rfl⟩ := List.mem_map.1 hy
      simp only [List.mem_cons, List.not_mem_nil, or_false] at hk
      have := plcP_inj hg pst pof pst pof (k := x.2.1) (k2 := k) (by omega) (by omega) he.1 he.2
      omega
  · rw [a7 i a hi ha]
    refine putV_other _ fun y hy => ?_
    obtain ⟨k, hk, rfl⟩ := List.mem_map.1 hy
    exact hne k hk
end Go.Proofs

namespace Go.Proofs
open Go Go.Ev
set_option linter.unusedSimpArgs false
set_option linter.unusedVariables false
set_option maxRecDepth 100000

theorem appP_lit {sz : Int} {x : Rec} {pw : Pow} {bs : List Int} (h : Lit0 pw) (hr : 37 ≤ sz - (bs.length : Int)) : appP pw sz bs x = (0, (stepP pw).2, bs ++ packB x) := by
  unfold appP
  rw [if_neg (by rw [h.1]; decide), if_neg (by omega), if_neg (by rw [(lit_step h).1]; decide)]
/-- records to sides while the power holds and there is room -/
structure LitM (sz n : Int) (s s' : MS) : Prop where
  lit : Lit0 s'.pw
  steps : s'.pw.steps = s.pw.steps + n
  a : (s'.xa.length : Int) ≤ (s.xa.length : Int) + 37 * n
  b : (s'.xb.length : Int) ≤ (s.xb.length : Int) + 37 * n
theorem eachM_lit {sz : Int} {x : Rec} : ∀ (fs : List Bool) (s : MS), Lit0 s.pw → 0 ≤ s.pw.steps → s.pw.steps + (fs.length : Int) < 1000000000000000 → 37 * (fs.length : Int) ≤ sz - (s.xa.length : Int) → 37 * (fs.length : Int) ≤ sz - (s.xb.length : Int) →
    (eachM sz x fs s).1 = 0 ∧ LitM sz (fs.length : Int) s (eachM sz x fs s).2
  | [], s, h, _, _, _, _ => ⟨rfl, h, by simp [eachM], by simp [eachM], by simp [eachM]⟩
  | f :: fs, s, h, h0, h1, ha, hb => by
    simp only [List.length_cons] at h1 ha hb
    have hap : (appM sz x f s).1 = 0 ∧ Lit0 (appM sz x f s).2.pw ∧ (appM sz x f s).2.pw.steps = s.pw.steps + 1 ∧ ((appM sz x f s).2.xa.length : Int) ≤ (s.xa.length : Int) + 37 ∧ ((appM sz x f s).2.xb.length : Int) ≤ (s.xb.length : Int) + 37 := by
      have hp : (packB x).length = 37 := rfl
      have hs := steps_wrap h h0 (by omega)
      cases f
      · have e := appP_lit (sz := sz) (x := x) (bs := s.xa) h (by omega)
        simp only [appM, e]
        refine ⟨by trivial, (lit_step h).2, hs, ?_, by omega⟩
        rw [List.length_append, hp]; omega
      · have e := appP_lit (sz := sz) (x := x) (bs := s.xb) h (by omega)
        simp only [appM, e]
        refine ⟨by trivial, (lit_step h).2, hs, by omega, ?_⟩
        rw [List.length_append, hp]; omega
    obtain ⟨p1, p2, p3, p4, p5⟩ := hap
    have e : eachM sz x (f :: fs) s = eachM sz x fs (appM sz x f s).2 := by
      show (if _ then _ else _) = _
      rw [if_neg (by simp [p1])]
    rw [e]
    generalize (appM sz x f s).2 = t at *
    obtain ⟨i1, i2, i3, i4, i5⟩ := eachM_lit (sz := sz) (x := x) fs t p2 (by omega) (by omega) (by omega) (by omega)
    refine ⟨i1, i2, ?_, ?_, ?_⟩ <;> simp only [List.length_cons] <;> omega
theorem eachA_lit {sz : Int} {fs : List Bool} (hfs : fs.length ≤ 2) : ∀ (rs : List Rec) (s : MS), Lit0 s.pw → 0 ≤ s.pw.steps → s.pw.steps + 2 * (rs.length : Int) < 100000000000000 → 74 * (rs.length : Int) ≤ sz - (s.xa.length : Int) → 74 * (rs.length : Int) ≤ sz - (s.xb.length : Int) →
    (eachA sz fs rs s).1 = 0 ∧ LitM sz ((rs.length : Int) * (fs.length : Int)) s (eachA sz fs rs s).2
  | [], s, h, _, _, _, _ => ⟨rfl, h, by simp [eachA], by simp [eachA], by simp [eachA]⟩
  | r :: rs, s, h, h0, h1, ha, hb => by
    simp only [List.length_cons] at h1 ha hb
    obtain ⟨j1, j2, j3, j4, j5⟩ := eachM_lit (sz := sz) (x := r) fs s h h0 (by omega) (by omega) (by omega)
    have e : eachA sz fs (r :: rs) s = eachA sz fs rs (eachM sz r fs s).2 := by
      show (if _ then _ else _) = _
      rw [if_neg (by simp [j1])]
    rw [e]
    generalize (eachM sz r fs s).2 = t at *
    obtain ⟨i1, i2, i3, i4, i5⟩ := eachA_lit (sz := sz) hfs rs t j2 (by omega) (by omega) (by omega) (by omega)
    have em : ((rs.length + 1 : Nat) : Int) * (fs.length : Int) = (rs.length : Int) * (fs.length : Int) + (fs.length : Int) := by
      rw [Int.natCast_add, Int.add_mul]; simp
    refine ⟨i1, i2, ?_, ?_, ?_⟩ <;> simp only [List.length_cons] <;> rw [em] <;> omega
theorem eachS_eq {sz : Int} {x : Rec} : ∀ (fs : List Bool) (s : PS), eachS sz x fs s = ((eachM sz x fs ⟨s.pw, s.xa, s.xb⟩).1, { s with pw := (eachM sz x fs ⟨s.pw, s.xa, s.xb⟩).2.pw, xa := (eachM sz x fs ⟨s.pw, s.xa, s.xb⟩).2.xa, xb := (eachM sz x fs ⟨s.pw, s.xa, s.xb⟩).2.xb })
  | [], s => rfl
  | f :: fs, s => by
    have e : app1 sz x f s = ((appM sz x f ⟨s.pw, s.xa, s.xb⟩).1, { s with pw := (appM sz x f ⟨s.pw, s.xa, s.xb⟩).2.pw, xa := (appM sz x f ⟨s.pw, s.xa, s.xb⟩).2.xa, xb := (appM sz x f ⟨s.pw, s.xa, s.xb⟩).2.xb }) := by cases f <;> rfl
    show (if (app1 sz x f s).1 ≠ 0 then app1 sz x f s else eachS sz x fs (app1 sz x f s).2) = _
    have e2 : eachM sz x (f :: fs) ⟨s.pw, s.xa, s.xb⟩ = if (appM sz x f ⟨s.pw, s.xa, s.xb⟩).1 ≠ 0 then appM sz x f ⟨s.pw, s.xa, s.xb⟩ else eachM sz x fs (appM sz x f ⟨s.pw, s.xa, s.xb⟩).2 := rfl
    rw [e2, e]
    simp only
    split
    · rfl
    · rw [eachS_eq fs]
theorem len_upS (s : PS) (f : Bool) : (upS s f).length ≤ 2 := Nat.le_trans (List.length_filter_le _ _) (by simp)
theorem mem_look {es : List (Int × Ent)} (hn : (es.map (·.1)).Nodup) {p : Int × Ent} (hp : p ∈ es) : mlook es p.1 = some p.2 := by
  induction es with
  | nil => cases hp
  | cons e es ih =>
    simp only [List.map_cons, List.nodup_cons] at hn
    unfold mlook
    rw [List.find?_cons]
    by_cases h : e.1 = p.1
    · rw [show (e.1 == p.1) = true by simpa using h]
      rcases List.mem_cons.1 hp with rfl | h'
      · rfl
      · exact absurd (List.mem_map.2 ⟨p, h', h.symm⟩) hn.1
    · rw [show (e.1 == p.1) = false by simpa using h]
      rcases List.mem_cons.1 hp with rfl | h'
      · exact absurd rfl h
      · exact ih hn.2 h'
theorem look_new {es : List (Int × Ent)} {x : Int} (h : mlook es x = none) (v : Ent) : ins es x v = es ++ [(x, v)] := by
  unfold ins
  rw [if_neg]
  intro hh
  obtain ⟨p, hp, he⟩ := List.any_eq_true.1 hh
  unfold mlook at h
  rw [Option.map_eq_none_iff, List.find?_eq_none] at h
  exact h p hp he
theorem del_lt {es : List (Int × Ent)} {p : Int × Ent} (h : p ∈ es) : (del es p.1).length < es.length := by
  unfold del
  exact List.length_filter_lt_length_iff_exists.2 ⟨p, h, by simp⟩
def capG20 (g : Geo) : Int := (g.d - 2) * g.c * g.s
/-- an array on which the power holds and whose disks are sound: each sector holds what fin says, in the cache or on the disks -/
structure Qt (q : AB) (s : AS) (fin : Int → Sec) (ep : Int) : Prop where
  ss : SsOk q.g s.ss
  lit : Lit0 s.ps.pw
  stp : 0 ≤ s.ps.pw.steps
  now : ∃ now, Inv q.g s.ss now ∧ (∀ l, SecOk (now l)) ∧ ∀ l, mlook s.ps.es l = none → now l = fin l
  es : ∀ l e, mlook s.ps.es l = some e → (0 ≤ l ∧ l < capG20 q.g) ∧ e.1 = fin l ∧ 0 ≤ e.2 ∧ e.2 ≤ s.ps.last
  nd : (s.ps.es.map (·.1)).Nodup
  last : 0 ≤ s.ps.last
  fok : ∀ l, SecOk (fin l)
  key : ∀ i : Nat, (s.ds.getD i dsk0).key ≤ ep
  alive : ∀ i, deadS s.ss i = false
  view : ∀ i a, (0 ≤ i ∧ i < q.g.d) → (0 ≤ a ∧ a < q.g.c * q.g.s) → viewS s.ss i a ≠ none
theorem Qt.lost {q : AB} {s : AS} {fin : Int → Sec} {ep : Int} (h : Qt q s fin ep) {st off : Int} (hst : 0 ≤ st ∧ st < q.g.s) (hof : 0 ≤ off ∧ off < q.g.c) : lostN (colsS q.g s.ss st off) = 0 := lost_none h.ss.geo hst hof h.view
theorem Qt.read {q : AB} {s : AS} {fin : Int → Sec} {ep : Int} (h : Qt q s fin ep) {l : Int} (h0 : 0 ≤ l) (h1 : l < capG20 q.g) : readA q s l = (fin l, 0) := by
  unfold readA getV
  cases hl : mlook s.ps.es l with
  | some e => simp only [if_pos]; rw [(h.es l e hl).2.1]
  | none =>
    simp only
    rw [if_neg (by decide)]
    obtain ⟨now, hi, hn, hf⟩ := h.now
    obtain ⟨pst, pco, pof⟩ := spotP_ok h.ss.geo h0 h1
    rcases hi.read h.ss.geo hn h.lit.1 h0 h1 with e | ⟨_, e, _⟩
    · rw [e, hf l hl]
    · rw [h.lost pst pof] at e
      exact absurd (by omega) e
/-- what a call has done to the memories' lengths and the steps -/
structure Cost (s s' : AS) (n m : Int) : Prop where
  steps : s'.ps.pw.steps = s.ps.pw.steps + n
  a : (s'.ps.xa.length : Int) ≤ (s.ps.xa.length : Int) + m
  b : (s'.ps.xb.length : Int) ≤ (s.ps.xb.length : Int) + m
  last : s'.ps.last = s.ps.last + 1
  up : s'.ps.ua = s.ps.ua ∧ s'.ps.ub = s.ps.ub
/-- a put -/
theorem Qt.put {q : AB} {s : AS} {fin : Int → Sec} {ep : Int} (h : Qt q s fin ep) {f : Bool} {lba : Int} {d : Sec} (hd : SecOk d) (h0 : 0 ≤ lba) (h1 : lba < capG20 q.g) (hup : (cond f s.ps.ub s.ps.ua) = true)
    (hroom : mlook s.ps.es lba = none → (s.ps.es.length : Int) < q.pb.room) (hst : s.ps.pw.steps < 10000000000000) (hla : s.ps.last < 1000000000000) (ha : 100 ≤ q.pb.sz - (s.ps.xa.length : Int)) (hb : 100 ≤ q.pb.sz - (s.ps.xb.length : Int)) (hcap : capG20 q.g ≤ 100000) :
    (putP q.pb.room q.pb.sz s.ps f lba d).1.2 = 0 ∧ Qt q { s with ps := (putP q.pb.room q.pb.sz s.ps f lba d).2 } (upd fin lba d) ep ∧ Cost s { s with ps := (putP q.pb.room q.pb.sz s.ps f lba d).2 } ((upS s.ps f).length : Int) 74 ∧
      (putP q.pb.room q.pb.sz s.ps f lba d).2.es = ins s.ps.es lba (d, s.ps.last + 1) := by
  have hlu := len_upS s.ps f
  have hv : IntKind.wrap .u64 (s.ps.last + 1) = s.ps.last + 1 := wrapU64 (by have := h.last; omega) (by omega)
  have hl0 := h.last
  have hpe : putE q.pb.room s.ps.es lba (s.ps.last + 1) = 0 := by
    unfold putE
    rw [if_neg (by omega)]
    cases hm : mlook s.ps.es lba with
    | none => simp only; rw [if_neg (by have := hroom hm; omega)]
    | some e => simp only; rw [if_neg (by have := (h.es lba e hm).2.2; omega)]
  obtain ⟨m1, m2, m3, m4, m5⟩ := eachM_lit (sz := q.pb.sz) (x := ⟨1, s.ps.last + 1, lba, d⟩) (upS s.ps f) ⟨s.ps.pw, s.ps.xa, s.ps.xb⟩ h.lit h.stp (by show s.ps.pw.steps + _ < _; omega) (by show _ ≤ q.pb.sz - (s.ps.xa.length : Int); omega) (by show _ ≤ q.pb.sz - (s.ps.xb.length : Int); omega)
  have hput : putP q.pb.room q.pb.sz s.ps f lba d = ((s.ps.last + 1, 0), { s.ps with last := s.ps.last + 1, pw := (eachM q.pb.sz ⟨1, s.ps.last + 1, lba, d⟩ (upS s.ps f) ⟨s.ps.pw, s.ps.xa, s.ps.xb⟩).2.pw, xa := (eachM q.pb.sz ⟨1, s.ps.last + 1, lba, d⟩ (upS s.ps f) ⟨s.ps.pw, s.ps.xa, s.ps.xb⟩).2.xa, xb := (eachM q.pb.sz ⟨1, s.ps.last + 1, lba, d⟩ (upS s.ps f) ⟨s.ps.pw, s.ps.xa, s.ps.xb⟩).2.xb, es := ins s.ps.es lba (d, s.ps.last + 1) }) := by
    unfold putP
    rw [if_neg (by omega), if_neg (by rw [hup]; decide), if_neg (by rintro ⟨e1, e2⟩; have := hroom e1; omega)]
    simp only [hv]
    unfold eachP
    rw [eachS_eq]
    have hu : upS { s.ps with last := s.ps.last + 1 } f = upS s.ps f := rfl
    rw [hu]
    simp only [m1, hpe]
    rfl
  rw [hput]
  generalize eachM q.pb.sz ⟨1, s.ps.last + 1, lba, d⟩ (upS s.ps f) ⟨s.ps.pw, s.ps.xa, s.ps.xb⟩ = M at *
  have m3 : M.2.pw.steps = s.ps.pw.steps + ((upS s.ps f).length : Int) := m3
  have m4 : (M.2.xa.length : Int) ≤ (s.ps.xa.length : Int) + 37 * ((upS s.ps f).length : Int) := m4
  have m5 : (M.2.xb.length : Int) ≤ (s.ps.xb.length : Int) + 37 * ((upS s.ps f).length : Int) := m5
  have hs0 := h.stp
  obtain ⟨now, hi, hn, hf⟩ := h.now
  refine ⟨rfl, ⟨⟨h.ss.geo, h.ss.num, h.ss.len, h.ss.ok⟩, m2, by show 0 ≤ M.2.pw.steps; omega, ⟨now, hi.see h.ss.geo (fun _ _ _ _ => rfl), hn, fun l hl => ?_⟩, fun l e hl => ?_, keys_nodup_ins h.nd _ _, by show 0 ≤ s.ps.last + 1; omega, fun l => upd_ok h.fok hd lba |> fun hh => hh l, h.key, h.alive, h.view⟩, ⟨m3, by show (M.2.xa.length : Int) ≤ _; omega, by show (M.2.xb.length : Int) ≤ _; omega, rfl, rfl, rfl⟩, rfl⟩
  · have hl : mlook (ins s.ps.es lba (d, s.ps.last + 1)) l = none := hl
    rw [look_ins] at hl
    split at hl
    · cases hl
    · rename_i hne
      unfold upd
      rw [if_neg hne, hf l hl]
  · have hl : mlook (ins s.ps.es lba (d, s.ps.last + 1)) l = some e := hl
    rw [look_ins] at hl
    unfold upd
    split at hl
    · rename_i he
      cases hl
      subst he
      exact ⟨⟨h0, h1⟩, by rw [if_pos rfl], by show 0 ≤ s.ps.last + 1; omega, by show s.ps.last + 1 ≤ s.ps.last + 1; omega⟩
    · rename_i hne
      obtain ⟨e1, e2, e3, e4⟩ := h.es l e hl
      exact ⟨e1, by rw [if_neg hne]; exact e2, e3, by show e.2 ≤ s.ps.last + 1; omega⟩
end Go.Proofs

namespace Go.Proofs
open Go Go.Ev
set_option linter.unusedSimpArgs false
set_option linter.unusedVariables false
set_option maxRecDepth 100000

structure WrLit (g : Geo) (s : SS) (now : Int → Sec) (lba : Int) (data : Sec) (n : Int) (xa xb : List Int) (r : Int × SS × List Int × List Int) : Prop where
  ok : r.1 = 0
  ss : SsOk g r.2.1
  lit : Lit0 r.2.1.pw
  steps : r.2.1.pw.steps = s.pw.steps + (5 * n + 3)
  inv : Inv g r.2.1 (upd now lba data)
  alive : ∀ i, deadS r.2.1 i = false
  key : ∀ i : Nat, (r.2.1.ds.getD i dsk0).key = (s.ds.getD i dsk0).key
  view : ∀ i a, (0 ≤ i ∧ i < g.d) → (0 ≤ a ∧ a < g.c * g.s) → viewS r.2.1 i a ≠ none
  a : (r.2.2.1.length : Int) ≤ (xa.length : Int) + 370
  b : (r.2.2.2.length : Int) ≤ (xb.length : Int) + 370
theorem writeM_lit {g : Geo} {s : SS} {now : Int → Sec} (hs : SsOk g s) (hi : Inv g s now) (hn : ∀ l, SecOk (now l)) (hl : Lit0 s.pw) (hst0 : 0 ≤ s.pw.steps) (hst1 : s.pw.steps < 100000000000) (hal : ∀ i, deadS s i = false)
    (hvw : ∀ i a, (0 ≤ i ∧ i < g.d) → (0 ≤ a ∧ a < g.c * g.s) → viewS s i a ≠ none) {lba : Int} (h0 : 0 ≤ lba) (h1 : lba < (g.d - 2) * g.c * g.s) {data : Sec} (hd : SecOk data) {ep : Int} (hep : ∀ i : Nat, (s.ds.getD i dsk0).key ≤ ep) {v : Int} {fs : List Bool} (hfs : fs.length ≤ 2) {sz : Int} {xa xb : List Int}
    (ha : 400 ≤ sz - (xa.length : Int)) (hb : 400 ≤ sz - (xb.length : Int)) : WrLit g s now lba data (fs.length : Int) xa xb (writeM sz g fs v lba data ep s xa xb) := by
  obtain ⟨pst, pco, pof⟩ := spotP_ok hs.geo h0 h1
  have hlost : lostN (colsS g s (spotP g lba).1 (spotP g lba).2.2) = 0 := lost_none hs.geo pst pof hvw
  have hl2 : lostN (colsS g s (spotP g lba).1 (spotP g lba).2.2) ≤ 2 := by omega
  obtain ⟨hp2, hps⟩ := planS_seal hs hi hn hl.1 h0 h1 hd hl2
  have hp3 : (planS g s lba data).1.length = 3 := by rw [planS_alive hs hi hn hl h0 h1 hd hl2 hal]; rfl
  generalize hW : writeM sz g fs v lba data ep s xa xb = W
  unfold writeM at hW
  rw [if_neg (by simp [hp2])] at hW
  simp only at hW
  have hin : ∀ x ∈ (planS g s lba data).1, InR x := fun x hx => seal_inR hs.geo (hps x hx).1
  have hnb : (planS g s lba data).1.any badPut = false := by
    rw [List.any_eq_false]
    intro x hx
    rw [badPut_in (hin x hx)]; decide
  have hbg : beginM sz v (planS g s lba data).1 fs ⟨s.pw, xa, xb⟩ = eachA sz fs ((planS g s lba data).1.map (recI v) ++ [recK 4 v]) ⟨s.pw, xa, xb⟩ := by
    unfold beginM
    rw [if_neg (by rw [hnb]; decide)]
  rw [hbg] at hW
  have hl4 : (((planS g s lba data).1.map (recI v) ++ [recK 4 v]).length : Int) = 4 := by simp [hp3]
  obtain ⟨a1, a2, a3, a4, a5⟩ := eachA_lit (sz := sz) hfs ((planS g s lba data).1.map (recI v) ++ [recK 4 v]) ⟨s.pw, xa, xb⟩ hl hst0 (by rw [hl4]; show s.pw.steps + _ < _; omega) (by rw [hl4]; show _ ≤ sz - (xa.length : Int); omega) (by rw [hl4]; show _ ≤ sz - (xb.length : Int); omega)
  rw [hl4] at a3 a4 a5
  generalize eachA sz fs ((planS g s lba data).1.map (recI v) ++ [recK 4 v]) ⟨s.pw, xa, xb⟩ = B at *
  rw [if_neg (by simp [a1])] at hW
  have hs1 : SsOk g ⟨s.ds, B.2.pw⟩ := ⟨hs.geo, hs.num, hs.len, hs.ok⟩
  have hi1 : Inv g ⟨s.ds, B.2.pw⟩ now := hi.see hs.geo (fun _ _ _ _ => rfl)
  have hpp : planS g s lba data = planS g ⟨s.ds, B.2.pw⟩ lba data := planS_pw hl.1 a2.1 lba data
  rw [hpp] at hW
  obtain ⟨_, s', happ, hw⟩ := hi1.write (ep := ep) hs1 hn a2 h0 h1 hd hep hl2
  have a3 : B.2.pw.steps = s.pw.steps + 4 * (fs.length : Int) := a3
  have a4 : (B.2.xa.length : Int) ≤ (xa.length : Int) + 37 * (4 * (fs.length : Int)) := a4
  have a5 : (B.2.xb.length : Int) ≤ (xb.length : Int) + 37 * (4 * (fs.length : Int)) := a5
  obtain ⟨_, c2, c3, c4, c5⟩ := write_alive hs1 hi1 hn a2 h0 h1 hd hep hl2 hal (by show 0 ≤ B.2.pw.steps; omega) (by show B.2.pw.steps < _; omega) happ
  rw [happ] at hW
  rw [if_neg (by simp)] at hW
  have c2 : s'.pw.steps = B.2.pw.steps + 3 := c2
  obtain ⟨e1, e2, e3, e4, e5⟩ := eachM_lit (sz := sz) (x := recK 5 v) fs ⟨s'.pw, B.2.xa, B.2.xb⟩ hw.lit (by show 0 ≤ s'.pw.steps; omega) (by show s'.pw.steps + _ < _; omega) (by show _ ≤ sz - (B.2.xa.length : Int); omega) (by show _ ≤ sz - (B.2.xb.length : Int); omega)
  generalize eachM sz (recK 5 v) fs ⟨s'.pw, B.2.xa, B.2.xb⟩ = E at *
  subst hW
  have e3 : E.2.pw.steps = s'.pw.steps + (fs.length : Int) := e3
  have e4 : (E.2.xa.length : Int) ≤ (B.2.xa.length : Int) + 37 * (fs.length : Int) := e4
  have e5 : (E.2.xb.length : Int) ≤ (B.2.xb.length : Int) + 37 * (fs.length : Int) := e5
  refine ⟨e1, ⟨hw.ss.geo, hw.ss.num, hw.ss.len, hw.ss.ok⟩, e2, by show E.2.pw.steps = _; omega, hw.inv.see hs.geo (fun _ _ _ _ => rfl), c3, hw.key, fun i a hi' ha' => ?_, by show (E.2.xa.length : Int) ≤ _; omega, by show (E.2.xb.length : Int) ≤ _; omega⟩
  intro hx
  rcases hw.view i a hi'.1 ha'.1 hx with h | h
  · exact hvw i a hi' ha' h
  · have := hal i
    rw [show deadS s i = true from h] at this
    cases this
/-- a sector goes out -/
theorem Qt.out {q : AB} {s : AS} {fin : Int → Sec} {f : Bool} (h : Qt q s fin (epA s f)) {p : Int × Ent} (hp : p ∈ s.ps.es) (hst : s.ps.pw.steps < 10000000000) (hla : s.ps.last < 1000000000000) (ha : 500 ≤ q.pb.sz - (s.ps.xa.length : Int)) (hb : 500 ≤ q.pb.sz - (s.ps.xb.length : Int)) :
    (outA q s f p).1 = 0 ∧ Qt q (outA q s f p).2 fin (epA s f) ∧ Cost s (outA q s f p).2 (6 * ((upS s.ps f).length : Int) + 3) 444 ∧ (outA q s f p).2.ps.es = del s.ps.es p.1 ∧
      (outA q s f p).2 = { s with ds := (outA q s f p).2.ds, ps := (outA q s f p).2.ps } := by
  have hm := mem_look h.nd hp
  obtain ⟨⟨p0, p1⟩, p2, p3, p4⟩ := h.es p.1 p.2 hm
  have hl0 := h.last
  have hs0 := h.stp
  have hv : IntKind.wrap .u64 (s.ps.last + 1) = s.ps.last + 1 := wrapU64 (by omega) (by omega)
  unfold outA
  rw [hv]
  obtain ⟨now, hi, hn, hf⟩ := h.now
  have hd : SecOk p.2.1 := by rw [p2]; exact h.fok _
  have hW := writeM_lit (s := s.ss) (v := s.ps.last + 1) (fs := upS s.ps f) (sz := q.pb.sz) (xa := s.ps.xa) (xb := s.ps.xb) h.ss hi hn h.lit h.stp (by show s.ps.pw.steps < _; omega) h.alive h.view p0 p1 hd h.key (len_upS _ _) (by omega) (by omega)
  have hlu := len_upS s.ps f
  have hlu2 : (upS s.ps false).length = (upS s.ps f).length := by
    unfold upS
    cases f <;> cases s.ps.ua <;> cases s.ps.ub <;> rfl
  unfold outB
  have hu : upS { s.ps with last := s.ps.last + 1 } f = upS s.ps f := rfl
  have hss : (⟨s.ds, s.ps.pw⟩ : SS) = s.ss := rfl
  simp only [hu, hss]
  generalize writeM q.pb.sz q.g (upS s.ps f) (s.ps.last + 1) p.1 p.2.1 (epA s f) s.ss s.ps.xa s.ps.xb = r at *
  have w1 := hW.steps
  have w1 : r.2.1.pw.steps = s.ps.pw.steps + (5 * ((upS s.ps f).length : Int) + 3) := w1
  have wa := hW.a
  have wb := hW.b
  rw [if_neg (by simp [hW.ok])]
  have hgv : getV s.ps.es p.1 = (p.2.1, p.2.2, 0) := by unfold getV; rw [hm]
  have hcl : cleanE s.ps.es p.1 p.2.2 = 0 := by unfold cleanE; rw [hm]; simp only; rw [if_neg (by omega)]
  have hu2 : upS { s.ps with last := s.ps.last + 1, pw := r.2.1.pw, xa := r.2.2.1, xb := r.2.2.2 } false = upS s.ps false := rfl
  obtain ⟨m1, m2, m3, m4, m5⟩ := eachM_lit (sz := q.pb.sz) (x := ⟨2, p.2.2, p.1, sec []⟩) (upS s.ps false) ⟨r.2.1.pw, r.2.2.1, r.2.2.2⟩ hW.lit (by show 0 ≤ r.2.1.pw.steps; omega) (by show r.2.1.pw.steps + _ < _; omega) (by show _ ≤ q.pb.sz - (r.2.2.1.length : Int); omega) (by show _ ≤ q.pb.sz - (r.2.2.2.length : Int); omega)
  have hfl : flushP q.pb.sz { s.ps with last := s.ps.last + 1, pw := r.2.1.pw, xa := r.2.2.1, xb := r.2.2.2 } p.1 p.2.2 = (0, { s.ps with last := s.ps.last + 1, es := del s.ps.es p.1, pw := (eachM q.pb.sz ⟨2, p.2.2, p.1, sec []⟩ (upS s.ps false) ⟨r.2.1.pw, r.2.2.1, r.2.2.2⟩).2.pw, xa := (eachM q.pb.sz ⟨2, p.2.2, p.1, sec []⟩ (upS s.ps false) ⟨r.2.1.pw, r.2.2.1, r.2.2.2⟩).2.xa, xb := (eachM q.pb.sz ⟨2, p.2.2, p.1, sec []⟩ (upS s.ps false) ⟨r.2.1.pw, r.2.2.1, r.2.2.2⟩).2.xb }) := by
    unfold flushP
    simp only [hgv]
    rw [if_neg (by decide), if_neg (by omega)]
    unfold eachP
    rw [hu2, eachS_eq]
    simp only [m1, hcl]
    rfl
  rw [hfl]
  generalize eachM q.pb.sz ⟨2, p.2.2, p.1, sec []⟩ (upS s.ps false) ⟨r.2.1.pw, r.2.2.1, r.2.2.2⟩ = M at *
  have m3 : M.2.pw.steps = r.2.1.pw.steps + ((upS s.ps false).length : Int) := m3
  have m4 : (M.2.xa.length : Int) ≤ (r.2.2.1.length : Int) + 37 * ((upS s.ps false).length : Int) := m4
  have m5 : (M.2.xb.length : Int) ≤ (r.2.2.2.length : Int) + 37 * ((upS s.ps false).length : Int) := m5
  rw [hlu2] at m3 m4 m5
  refine ⟨rfl, ⟨⟨hW.ss.geo, hW.ss.num, hW.ss.len, hW.ss.ok⟩, m2, by show 0 ≤ M.2.pw.steps; omega, ⟨upd now p.1 p.2.1, hW.inv.see h.ss.geo (fun _ _ _ _ => rfl), fun l => upd_ok hn hd p.1 l, fun l hl => ?_⟩, fun l e hl => ?_, keys_nodup_del h.nd _, by show 0 ≤ s.ps.last + 1; omega, h.fok, fun i => by show (r.2.1.ds.getD i dsk0).key ≤ _; rw [hW.key]; exact h.key i, hW.alive, hW.view⟩, ⟨by show M.2.pw.steps = _; omega, by show (M.2.xa.length : Int) ≤ _; omega, by show (M.2.xb.length : Int) ≤ _; omega, rfl, rfl, rfl⟩, rfl, rfl⟩
  · have hl : mlook (del s.ps.es p.1) l = none := hl
    rw [look_del] at hl
    unfold upd
    by_cases he : l = p.1
    · rw [if_pos he, p2, he]
    · rw [if_neg he] at hl ⊢
      exact hf l hl
  · have hl : mlook (del s.ps.es p.1) l = some e := hl
    rw [look_del] at hl
    split at hl
    · cases hl
    · obtain ⟨e1, e2, e3, e4⟩ := h.es l e hl
      exact ⟨e1, e2, e3, by show e.2 ≤ s.ps.last + 1; omega⟩
end Go.Proofs

namespace Go.Proofs
open Go Go.Ev
set_option linter.unusedSimpArgs false
set_option linter.unusedVariables false
set_option maxRecDepth 100000

theorem getD_mapA {s : SS} {f : Dsk → Dsk} {pw : Pow} (i : Nat) : (SS.mk (s.ds.map f) pw).ds.getD i dsk0 = if i < s.ds.length then f (s.ds.getD i dsk0) else dsk0 := by
  simp only
  rw [List.getD_eq_getElem?_getD, List.getElem?_map, List.getD_eq_getElem?_getD]
  by_cases h : i < s.ds.length
  · rw [if_pos h, List.getElem?_eq_getElem h]; rfl
  · rw [if_neg h, List.getElem?_eq_none (by omega)]; rfl
theorem fence_view (s : SS) (e : Int) (i a : Int) : viewS (fenceS s e).2 i a = viewS s i a := by
  unfold fenceS
  split
  · rfl
  · show viewS ⟨s.ds.map fun D => (fenceD s.pw D e).2, s.pw⟩ i a = _
    unfold viewS
    rw [getD_mapA]
    split
    · unfold cellD
      rw [fenceD_len]
      have : (fenceD s.pw (s.ds.getD i.toNat dsk0) e).2.dead = (s.ds.getD i.toNat dsk0).dead := by
        unfold fenceD
        split
        · rfl
        · split <;> rfl
      rw [this]
    · rename_i h
      rw [List.getD_eq_getElem?_getD, List.getElem?_eq_none (by omega)]; rfl
theorem fence_dead (s : SS) (e : Int) (i : Int) : deadS (fenceS s e).2 i = deadS s i := by
  unfold fenceS
  split
  · rfl
  · show deadS ⟨s.ds.map fun D => (fenceD s.pw D e).2, s.pw⟩ i = _
    unfold deadS
    rw [getD_mapA]
    split
    · unfold fenceD
      split
      · rfl
      · split <;> rfl
    · rename_i h
      rw [List.getD_eq_getElem?_getD, List.getElem?_eq_none (by omega)]; rfl
theorem fence_ok {g : Geo} {s : SS} (h : SsOk g s) {e : Int} (he : 0 ≤ e ∧ e ≤ 4294967295) : SsOk g (fenceS s e).2 := by
  unfold fenceS
  split
  · exact h
  · refine ⟨h.geo, by simpa using h.num, fun D hD => ?_, fun D hD => ?_⟩
    · obtain ⟨E, hE, rfl⟩ := List.mem_map.1 hD
      rw [fenceD_len]
      exact h.len E hE
    · obtain ⟨E, hE, rfl⟩ := List.mem_map.1 hD
      exact fenceD_ok (h.ok E hE) he
theorem fence_key {s : SS} {e : Int} (h0 : 0 ≤ e) (h : ∀ i : Nat, (s.ds.getD i dsk0).key ≤ e) (i : Nat) : ((fenceS s e).2.ds.getD i dsk0).key ≤ e := by
  unfold fenceS
  split
  · exact h i
  · show ((SS.mk (s.ds.map fun D => (fenceD s.pw D e).2) s.pw).ds.getD i dsk0).key ≤ e
    rw [getD_mapA]
    split
    · have := h i
      unfold fenceD
      split
      · exact this
      · split
        · exact this
        · show max _ _ ≤ e
          omega
    · exact h0
theorem keyL_le {e : Int} : ∀ (l : List Dsk) (k : Int), k ≤ e → (∀ D ∈ l, D.key ≤ e) → keyL k l ≤ e
  | [], k, hk, _ => hk
  | D :: l, k, hk, h => by
    show keyL (if D.dead = true then k else max k D.key) l ≤ e
    refine keyL_le l _ ?_ fun E hE => h E (by simp [hE])
    have := h D (by simp)
    split <;> omega
theorem keyS_le {s : SS} {e : Int} (h0 : 0 ≤ e) (h : ∀ i : Nat, (s.ds.getD i dsk0).key ≤ e) : keyS s ≤ e := by
  refine keyL_le _ _ h0 fun D hD => ?_
  obtain ⟨i, hi, rfl⟩ := List.mem_iff_getElem.1 hD
  have := h i
  rw [List.getD_eq_getElem?_getD, List.getElem?_eq_getElem hi] at this
  exact this
theorem keyS_nn (s : SS) : 0 ≤ keyS s := by
  have : ∀ (l : List Dsk) (k : Int), 0 ≤ k → 0 ≤ keyL k l := by
    intro l
    induction l with
    | nil => intro k h; exact h
    | cons D l ih =>
      intro k h
      show 0 ≤ keyL (if D.dead = true then k else max k D.key) l
      refine ih _ ?_
      split <;> omega
  exact this _ _ (by decide)
theorem Qt.ready {q : AB} {s : AS} {fin : Int → Sec} {f : Bool} (h : Qt q s fin (epA s f)) (hl : livesA s f = true) (he : 0 ≤ epA s f) : readyA s f = true := by
  unfold readyA
  rw [h.lit.1, hl, decide_eq_true (keyS_le (s := s.ss) he h.key)]
  rfl
/-- the side stands alone -/
theorem Qt.alone {q : AB} {s : AS} {fin : Int → Sec} {f : Bool} (h : Qt q s fin (epA s f)) (hua : s.ps.ua = true) (hub : s.ps.ub = true) (he : 0 ≤ epA s f) (he2 : epA s f < 1000000) (hst : s.ps.pw.steps < 10000000000) (ha : 100 ≤ q.pb.sz - (s.ps.xa.length : Int)) (hb : 100 ≤ q.pb.sz - (s.ps.xb.length : Int)) :
    (aloneA q s f).1 = 0 ∧ Qt q (aloneA q s f).2 fin (epA (aloneA q s f).2 f) ∧ (aloneA q s f).2.ps.pw.steps = s.ps.pw.steps + 1 ∧ (aloneA q s f).2.ps.es = s.ps.es ∧ upS (aloneA q s f).2.ps f = [f] ∧ upA (aloneA q s f).2 (!f) = false ∧ (aloneA q s f).2.ps.last = s.ps.last ∧ (aloneA q s f).2.d = s.d ∧
      (∀ g, livesA (aloneA q s f).2 g = livesA s g) ∧ 0 ≤ epA (aloneA q s f).2 f ∧ ((aloneA q s f).2.ps.xa.length : Int) ≤ (s.ps.xa.length : Int) + 74 ∧ ((aloneA q s f).2.ps.xb.length : Int) ≤ (s.ps.xb.length : Int) + 74 := by
  have hkn := keyS_nn s.ss
  have hkl := keyS_le (s := s.ss) he h.key
  have hmx : max (epA s f) (keyS s.ss) = epA s f := by omega
  have hside : sideOk (sideN f) := by cases f <;> first | exact side0 | exact side1
  obtain ⟨e, hA, hE1, hE2⟩ : ∃ e, afterS (max (epA s f) (keyS s.ss)) (sideN f) = (e, 0) ∧ epA s f < e ∧ e ≤ epA s f + 2 := by
    rw [hmx]
    unfold afterS
    rw [if_neg (by simpa using hside)]
    simp only
    generalize hx : (if (epA s f + 1) % 2 = sideN f then epA s f + 1 else epA s f + 2) = x
    have hx2 : epA s f < x ∧ x ≤ epA s f + 2 := by rw [← hx]; split <;> omega
    rw [if_neg (by omega)]
    exact ⟨x, rfl, hx2⟩
  have hlv : leaveP s.ps (!f) = (0, downS s.ps (!f) false) := by
    unfold leaveP
    rw [if_neg (by rw [hua, hub]; decide)]
  obtain ⟨M, hM, m1, m2, m3, m4, m5⟩ : ∃ M : Int × MS, eachP q.pb.sz ⟨6, IntKind.wrap .u64 e, 0, sec []⟩ false (downS s.ps (!f) false) = (M.1, { downS s.ps (!f) false with pw := M.2.pw, xa := M.2.xa, xb := M.2.xb }) ∧ M.1 = 0 ∧ Lit0 M.2.pw ∧ M.2.pw.steps = s.ps.pw.steps + 1 ∧ (M.2.xa.length : Int) ≤ (s.ps.xa.length : Int) + 74 ∧ (M.2.xb.length : Int) ≤ (s.ps.xb.length : Int) + 74 := by
    have hu : (upS (downS s.ps (!f) false) false).length = 1 := by
      unfold upS downS
      cases f <;> simp [hua, hub]
    obtain ⟨m1, m2, m3, m4, m5⟩ := eachM_lit (sz := q.pb.sz) (x := ⟨6, IntKind.wrap .u64 e, 0, sec []⟩) (upS (downS s.ps (!f) false) false) ⟨s.ps.pw, s.ps.xa, s.ps.xb⟩ h.lit h.stp (by rw [hu]; show s.ps.pw.steps + _ < _; omega) (by rw [hu]; show _ ≤ q.pb.sz - (s.ps.xa.length : Int); omega) (by rw [hu]; show _ ≤ q.pb.sz - (s.ps.xb.length : Int); omega)
    rw [hu] at m3 m4 m5
    refine ⟨_, eachS_eq _ _, m1, m2, m3, ?_, ?_⟩
    · exact Int.le_trans m4 (by show (s.ps.xa.length : Int) + _ ≤ _; omega)
    · exact Int.le_trans m5 (by show (s.ps.xb.length : Int) + _ ≤ _; omega)
  have hstamp : stampP q.pb.sz (downS s.ps (!f) false) e = (0, { downS s.ps (!f) false with pw := M.2.pw, xa := M.2.xa, xb := M.2.xb, epoch := e }) := by
    unfold stampP
    rw [hM]
    simp only
    rw [if_neg (by simp [m1])]
  have hAl : aloneA q s f = (0, setEpA { setUpA { s with ps := downS s.ps (!f) false } (!f) false with ps := { downS s.ps (!f) false with pw := M.2.pw, xa := M.2.xa, xb := M.2.xb, epoch := e }, ds := (fenceS ⟨s.ds, M.2.pw⟩ e).2.ds } f e) := by
    unfold aloneA
    rw [hA, hlv]
    simp only
    rw [if_neg (by decide)]
    have : (setUpA { s with ps := downS s.ps (!f) false } (!f) false).ps = downS s.ps (!f) false := rfl
    rw [this, hstamp]
    rw [if_neg (by simp)]
    rfl
  rw [hAl]
  have hep : epA (setEpA { setUpA { s with ps := downS s.ps (!f) false } (!f) false with ps := { downS s.ps (!f) false with pw := M.2.pw, xa := M.2.xa, xb := M.2.xb, epoch := e }, ds := (fenceS ⟨s.ds, M.2.pw⟩ e).2.ds } f e) f = e := by cases f <;> rfl
  have hss : (⟨(fenceS ⟨s.ds, M.2.pw⟩ e).2.ds, M.2.pw⟩ : SS) = (fenceS ⟨s.ds, M.2.pw⟩ e).2 := by
    have := fence_pw ⟨s.ds, M.2.pw⟩ e
    generalize fenceS ⟨s.ds, M.2.pw⟩ e = z at *
    obtain ⟨z1, ⟨zd, zp⟩⟩ := z
    simp only at this
    subst this
    rfl
  have hok := fence_ok (s := ⟨s.ds, M.2.pw⟩) ⟨h.ss.geo, h.ss.num, h.ss.len, h.ss.ok⟩ (e := e) ⟨by omega, by omega⟩
  have hv := fence_view ⟨s.ds, M.2.pw⟩ e
  have hdd := fence_dead ⟨s.ds, M.2.pw⟩ e
  have hk := fence_key (s := ⟨s.ds, M.2.pw⟩) (e := e) (by omega) (fun i => Int.le_trans (h.key i) (by omega))
  rw [← hss] at hok hv hdd
  obtain ⟨now, hi, hn, hf⟩ := h.now
  have hs0 := h.stp
  rw [hep]
  refine ⟨rfl, ⟨hok, m2, by show 0 ≤ M.2.pw.steps; omega, ⟨now, hi.see h.ss.geo fun i a _ _ => hv i a, hn, hf⟩, h.es, h.nd, h.last, h.fok, hk, fun i => by rw [← h.alive i]; exact hdd i, fun i a hi' ha' => by
    have := h.view i a hi' ha'
    intro hx
    exact this (by rw [← hx]; exact (hv i a).symm)⟩, m3, rfl, ?_, by cases f <;> rfl, rfl, rfl, fun g => by cases f <;> cases g <;> rfl, by omega, m4, m5⟩
  show upS { downS s.ps (!f) false with pw := M.2.pw, xa := M.2.xa, xb := M.2.xb, epoch := e } f = [f]
  unfold upS downS
  cases f <;> simp [hua, hub]
/-- a side crashes -/
def setLiveA (s : AS) (f v : Bool) : AS := { s with la := cond f s.la v, lb := cond f v s.lb }
theorem ar_Crash0 {w : World} {q : AB} {s : AS} {R : Value → World → Prop} (h : ArAt w q 0 s) (f : Bool) (hon : s.ps.pw.on = true) (hl : livesA s f = true) (hK : ∀ w', ArAt w' q 0 (setLiveA s f false) → Keep (ArF q w) w w' → R (.int .i64 0) w') :
    CallV Tryz.prog 22 #[.pointer (some ⟨q.a, 0, none⟩), .int .i64 (sideN f)] w R := by
  apply C_array_Array_Crash
  unfold F_array_Array_Crash
  refine ar_lock h fun w1 h1 k1 => ?_
  refine ar_on h1 (ma_On h1.pair.main (OpB_bool.2 ?_))
  rw [hon]
  refine (Cb_false (p := _)).2 ⟨rfl, rfl, ?_⟩
  have e : (cond (decide (sideN f < 0)) true (decide (sideN f > 1))) = false := by cases f <;> rfl
  rw [e]
  refine (Cb_false (p := _)).2 ⟨side_rng f, ?_⟩
  refine LdV_has (v := .bool (livesA s f)) h1.cells (by cases f <;> rfl) (OpB_bool.2 ?_)
  rw [hl]
  refine (Cb_false (p := _)).2 ⟨side_rng f, ?_⟩
  refine StV_of h1.cells (by show _ < 21; cases f <;> decide) rfl ?_
  have hset : (arC q 1 s).setIfInBounds (13 + Int.toNat (sideN f) * 2) (.bool false) = arC q 1 (setLiveA s f false) := by cases f <;> rfl
  rw [hset]
  have h2 := h1.put (lk' := 1) (s' := setLiveA s f false) rfl rfl rfl rfl
  have k2 : Keep (ArF q w) w (w1.upd q.a (.cells (arC q 1 (setLiveA s f false)) 143 (0, 0))) := (k1.mono fun i e => Or.inl e).upd (fun _ => Or.inl rfl) _
  generalize w1.upd q.a _ = w2 at *
  exact ar_unlock h2 fun w3 h3 k3 => hK w3 h3 (k2.trans' k3 fun i hi e => Or.inl e)
end Go.Proofs

namespace Go.Proofs
open Go Go.Ev
set_option linter.unusedSimpArgs false
set_option linter.unusedVariables false
set_option maxRecDepth 100000

theorem gate_ok {d : Dk} {cap init : Int} {c : Cmd} (hk : ¬ c.k = 4) (h : (gateD d cap init c).2 = false) : 1 ≤ cntC c ∧ cntC c ≤ 8 ∧ 0 ≤ c.lba ∧ c.lba + cntC c ≤ cap := by
  unfold gateD at h
  split at h
  · cases h
  · rename_i h1
    have h2 : cdE c cap = 0 := Classical.byContradiction fun e => h1 (Or.inr (Or.inr e))
    unfold cdE at h2
    rw [if_neg hk] at h2
    split at h2
    · cases h2
    · rename_i h3
      refine ⟨?_, ?_, ?_, ?_⟩ <;> omega
section calls
variable {w w0 : World} {q : AB} {s : AS} {b b1 : Nat} {c : Cmd} {R : Value → World → Prop}
theorem DoSt.grow (h : DoSt w0 w q s b b1 c) {w' : World} {p : Option Addr} {l cc : Nat} {xs : List Sec} (o : OwnL secLay w w0.heap.size 37 p l cc xs) (k : Keep (fun k => p = some ⟨k, 0, none⟩) w w') : DoSt w0 w' q s b b1 c := by
  cases p with
  | none => exact h.keep0 (k.mono fun i e => by cases e)
  | some a =>
    obtain ⟨b', cur, h0, hb', hg, _⟩ := (Own.cases o).resolve_left (by rintro ⟨e, _⟩; cases e)
    cases h0
    refine h.tmp hg (Or.inl rfl) hb' (fun e => ?_) (k.mono fun i e => by cases e; rfl)
    subst e
    have := hg.inj h.rep
    simp only [Obj.cells.injEq] at this
    exact absurd this.2.1 (by decide)
def readsA (q : AB) (s : AS) (lba : Int) (n : Nat) : List Sec := (List.range n).map fun (k : Nat) => (readA q s (lba + (k : Int))).1
theorem readsA_succ (q : AB) (s : AS) (lba : Int) (n : Nat) : readsA q s lba (n + 1) = readsA q s lba n ++ [(readA q s (lba + (n : Int))).1] := by
  unfold readsA; rw [List.range_succ, List.map_append]; rfl
theorem ar_DoRead (h : ArAt w q 0 s) (f : Bool) {init : Int} (hk : c.k = 2) (hr : readyA s f = true) {s' : AS} (hd : s'.d = s.d) (ha : ∀ (w1 : World) (R1 : Value → World → Prop), ArAt w1 q 1 s → (∀ w2, ArAt w2 q 1 s' → Keep (ArF q w1) w1 w2 → R1 (.int .i64 0) w2) → CallV Tryz.prog 79 #[.pointer (some ⟨q.a, 0, none⟩), .int .i64 (sideN f)] w1 R1)
    (hg : (gateD s.d ((q.g.d - 2) * q.g.c * q.g.s) init c).2 = false) (hok : ∀ D ∈ s'.ds, DskOk D) (hgood : ∀ k : Nat, (k : Int) < c.n → (readA q s' (c.lba + (k : Int))).2 = 0)
    (hK : ∀ p cc w', ArAt w' q 0 s' → Keep (ArF q w) w w' → OwnL secLay w' w.heap.size 37 p c.n.toNat cc (readsA q s' c.lba c.n.toNat) → R (.agg (repC 1 0 p c.n.toNat cc)) w') :
    CallV Tryz.prog 16 #[.pointer (some ⟨q.a, 0, none⟩), .int .i64 (sideN f), .int .i64 init, .agg (cmdC c)] w R := by
  refine ar_DoOpen h f (Or.inl hk) hr hd ha (fun ht => by rw [hg] at ht; cases ht) fun _ b b1 w1 hS => ?_
  obtain ⟨g1, g2, g3, g4⟩ := gate_ok (by omega) hg
  have hn : cntC c = c.n := by unfold cntC; rw [if_pos hk]
  rw [hn] at g1 g2 g4
  clear hn
  have hcap : 2 ≤ (q.g.d - 2) * q.g.c * q.g.s ∧ (q.g.d - 2) * q.g.c * q.g.s ≤ 15360 := h.set.geo.cap
  unfold DoBody
  refine DoQ_of (fun _ => bld_rep1 1 _) (OpA_agg.2 ⟨rfl, ?_⟩)
  refine alc_fresh fun w2 hb2 k2 z2 => ?_
  rw [zc_rep] at hb2
  have hS2 := hS.keep0 k2
  have hne : w1.heap.size ≠ b1 := fun e => by have := hS.rep.lt; omega
  have hlo : w.heap.size ≤ w1.heap.size := hS.keep.size
  refine StA_all hb2 rfl rfl (one_repC _ _ _ _ _) ?_
  have hS3 := hS2.tmp hb2 (Or.inr rfl) hlo hne (Keep.one _ _ (.cells (repC 1 0 none 0 0) 34 (0, 0)))
  have hb3 := hb2.upd_same (.cells (repC 1 0 none 0 0) 34 (0, 0))
  clear hS2 hb2 k2
  generalize w2.upd w1.heap.size (.cells (repC 1 0 none 0 0) 34 (0, 0)) = w3 at *
  generalize w1.heap.size = b7 at *
  refine LdV_has (v := .int .i64 c.k) hS3.cmd rfl (OpI_int.2 ?_)
  rw [hk]
  refine ⟨fun _ w' => ∃ p cc, Has w' b7 (.cells (repC 1 0 p c.n.toNat cc) 34 (0, 0)) ∧ OwnL secLay w' w.heap.size 37 p c.n.toNat cc (readsA q s' c.lba c.n.toNat) ∧ DoSt w w' q s' b b1 c, ?_, ?_⟩
  · refine (Cb_true (q := _)).2 ?_
    refine LdV_has (v := .int .i64 c.n) hS3.cmd rfl (OpI_int.2 ?_)
    refine LoopC_of (σ := Int × Unit) (fun st w' => ∃ (k : Nat) (p : Option Addr) (cc : Nat), st.1 = (k : Int) ∧ (k : Int) ≤ c.n ∧ Has w' b7 (.cells (repC 1 0 p k cc) 34 (0, 0)) ∧ OwnL secLay w' w.heap.size 37 p k cc (readsA q s' c.lba k) ∧ DoSt w w' q s' b b1 c) (fun st _ => (c.n - st.1).toNat)
      ⟨0, none, 0, rfl, by omega, hb3, OwnL.nil, hS3⟩ ?_
    clear hS3 hb3 hS
    rintro _ ⟨i, u⟩ w4 ⟨k, p, cc, hi, hkn, hb4, o4, hS4⟩
    simp only at hi ⊢
    subst hi
    refine Cb_of (fun hc => ?_) (fun hc => ?_)
    · have hc : (k : Int) < c.n := by simpa using hc
      refine LdV_has (v := .int .i64 c.lba) hS4.cmd rfl (OpI_int.2 ?_)
      rw [wrapI (by omega) (by omega)]
      refine ar_read hS4.ar hok (by omega) (by omega) fun w5 k5 => ?_
      rw [hgood k hc]
      refine T2_mk.2 (OpA_agg.2 ⟨rfl, OpI_int.2 ?_⟩)
      refine alc_fresh fun w6 hb6 k6 z6 => ?_
      have k46 := k5.trans k6
      have hS6 := hS4.keep0 k46
      have hne5 : w5.heap.size ≠ b1 := fun e => by have := (hS4.keep0 k5).rep.lt; omega
      have hlo5 : w.heap.size ≤ w5.heap.size := (hS4.keep0 k5).keep.size
      have hb46 := k46.has hb4 (by simp)
      have h75 : w5.heap.size ≠ b7 := fun e => by have := (k5.has hb4 (by simp)).lt; omega
      refine StA_all hb6 rfl (by rw [zc_sec]; rfl) (one_secV _) ?_
      have ku := Keep.one w6 w5.heap.size (.cells (secV (readA q s' (c.lba + (k : Int))).1) 37 (0, 0))
      have hS7 := hS6.tmp hb6 (Or.inl rfl) hlo5 hne5 ku
      have hb7 := hb6.upd_same (.cells (secV (readA q s' (c.lba + (k : Int))).1) 37 (0, 0))
      have hr7 := ku.has hb46 (fun e => h75 e.symm)
      have o7 := (o4.keep k46 (by simp)).keep ku fun x hx e => by
        have := (o4.keep k5 (by simp)).lt hx
        omega
      clear ku hS6 hb46 hb6
      generalize w6.upd w5.heap.size (.cells (secV (readA q s' (c.lba + (k : Int))).1) 37 (0, 0)) = w7 at *
      refine (Cb_false (p := _)).2 ?_
      refine LdV_has (v := .slice p k cc) hr7 rfl (OpS_slice.2 ?_)
      refine LdA_all hb7 rfl ?_
      refine ⟨_, _, bsl_s1 _ w7, OpS_slice.2 ?_⟩
      have k8 : Keep (fun _ => False) w7 (w7.alloc (.cells (secV (readA q s' (c.lba + (k : Int))).1) 37)) := Keep.new _ _ _
      have hb8 : Has (w7.alloc (.cells (secV (readA q s' (c.lba + (k : Int))).1) 37)) w7.heap.size (.cells (secV (readA q s' (c.lba + (k : Int))).1) 37 (0, 0)) := Has.new _ _
      generalize w7.alloc (.cells (secV (readA q s' (c.lba + (k : Int))).1) 37) = w8 at *
      have hS8 := hS7.keep0 k8
      have hr8 := k8.has hr7 (by simp)
      have o8 := o7.keep k8 (by simp)
      obtain ⟨p9, c9, w9, hr, o9, k9, _⟩ := run_appendF1 secLayT o8 (y := (readA q s' (c.lba + (k : Int))).1) hb8 (by show secV _ = ((secV _).toList).toArray; simp) (ty := 32) (by omega) (by simp only [maxLen]; omega) hS8.keep.size (c2 := 1)
      refine ⟨_, _, hr, OpS_slice.2 ?_⟩
      have hS9 := hS8.grow o8 k9
      have hr9 := k9.has hr8 fun e => by
        obtain ⟨_, cur, hh⟩ := own_has o8 _ _ e
        have := hh.inj hr8
        simp only [Obj.cells.injEq] at this
        exact absurd this.2.1 (by decide)
      refine StV_of hr9 (by show 2 < 3; decide) rfl ?_
      have ku := Keep.one w9 b7 (.cells ((repC 1 0 p k cc).setIfInBounds 2 (.slice p9 (k + 1) c9)) 34 (0, 0))
      have hS10 := hS9.tmp hr9 (Or.inr rfl) hlo hne ku
      have hr10 := hr9.upd_same (.cells (repC 1 0 p9 (k + 1) c9) 34 (0, 0))
      have o10 := o9.keep ku fun x hx e => by
        obtain ⟨_, cur, hh⟩ := own_has o9 _ _ hx
        subst e
        have := hh.inj hr9
        simp only [Obj.cells.injEq] at this
        exact absurd this.2.1 (by decide)
      rw [wrapI (by omega) (by omega)]
      refine ⟨_, ?_, ⟨k + 1, p9, c9, by show (k : Int) + 1 = ((k + 1 : Nat) : Int); omega, by omega, hr10, by rw [readsA_succ]; exact o10, hS10⟩, rfl⟩
      show (c.n - ((k : Int) + 1)).toNat < (c.n - (k : Int)).toNat
      omega
    · have hc : ¬ (k : Int) < c.n := by simpa using hc
      have e : c.n.toNat = k := by omega
      rw [e]
      exact ⟨p, cc, hb4, o4, hS4⟩
  rintro _ _ w4 ⟨p, cc, hb4, o4, hS4⟩
  refine LdA_all hb4 rfl ?_
  refine doEnd hS4 rfl (one_repC _ _ _ _ _) fun w5 h5 k5 kk => hK p cc w5 h5 k5 (o4.keep kk fun x hx e => ?_)
  obtain ⟨_, cur, hh⟩ := own_has o4 _ _ hx
  rcases e with e | e
  · subst e
    have := hh.inj hS4.rep
    simp only [Obj.cells.injEq] at this
    exact absurd this.2.1 (by decide)
  · subst e
    have := hh.inj hS4.ar.cells
    simp only [Obj.cells.injEq] at this
    exact absurd this.2.1 (by decide)
theorem ar_DoWrite (h : ArAt w q 0 s) (f : Bool) {init : Int} (hk : c.k = 3) (hr : readyA s f = true) {s' : AS} (hd : s'.d = s.d) (ha : ∀ (w1 : World) (R1 : Value → World → Prop), ArAt w1 q 1 s → (∀ w2, ArAt w2 q 1 s' → Keep (ArF q w1) w1 w2 → R1 (.int .i64 0) w2) → CallV Tryz.prog 79 #[.pointer (some ⟨q.a, 0, none⟩), .int .i64 (sideN f)] w1 R1)
    (hg : (gateD s.d ((q.g.d - 2) * q.g.c * q.g.s) init c).2 = false) {xs : List Sec} (hlen : c.dl = xs.length) (hx : ∀ w', Keep (ArF q w) w w' → SlL secLay w' c.dp c.dl xs) (Iv : Nat → AS → Prop) (Bad : AS → Prop) (h0 : Iv 0 s')
    (hstep : ∀ (k : Nat) (x : Sec) (s1 : AS) (w1 : World) (R1 : Value → World → Prop), xs[k]? = some x → Iv k s1 → ArAt w1 q 1 s1 → (∀ e s2 w2, ArAt w2 q 1 s2 → Keep (ArF q w1) w1 w2 → (e = 0 ∧ Iv (k + 1) s2 ∨ e ≠ 0 ∧ Bad s2) → R1 (.int .i64 e) w2) →
      CallV Tryz.prog 82 #[.pointer (some ⟨q.a, 0, none⟩), .int .i64 (sideN f), .int .i64 (c.lba + (k : Int)), .agg (secV x)] w1 R1)
    (hK : ∀ s' w', Iv xs.length s' → ArAt w' q 0 s' → Keep (ArF q w) w w' → R (.agg (repC 1 0 none 0 0)) w')
    (hB : ∀ s' w', Bad s' → ArAt w' q 0 s' → Keep (ArF q w) w w' → R (.agg (if s'.ps.pw.on = true then repC 2 13 none 0 0 else repC 0 0 none 0 0)) w') :
    CallV Tryz.prog 16 #[.pointer (some ⟨q.a, 0, none⟩), .int .i64 (sideN f), .int .i64 init, .agg (cmdC c)] w R := by
  refine ar_DoOpen h f (Or.inr (Or.inl hk)) hr hd ha (fun ht => by rw [hg] at ht; cases ht) fun _ b b1 w1 hS => ?_
  obtain ⟨g1, g2, g3, g4⟩ := gate_ok (by omega) hg
  have hn : cntC c = (c.dl : Int) := by unfold cntC; rw [if_neg (by omega)]
  rw [hn] at g1 g2 g4
  clear hn
  have hcap : 2 ≤ (q.g.d - 2) * q.g.c * q.g.s ∧ (q.g.d - 2) * q.g.c * q.g.s ≤ 15360 := h.set.geo.cap
  unfold DoBody
  refine DoQ_of (fun _ => bld_rep1 1 _) (OpA_agg.2 ⟨rfl, ?_⟩)
  refine alc_fresh fun w2 hb2 k2 z2 => ?_
  rw [zc_rep] at hb2
  have hS2 := hS.keep0 k2
  have hne : w1.heap.size ≠ b1 := fun e => by have := hS.rep.lt; omega
  have hlo : w.heap.size ≤ w1.heap.size := hS.keep.size
  refine StA_all hb2 rfl rfl (one_repC _ _ _ _ _) ?_
  have hS3 := hS2.tmp hb2 (Or.inr rfl) hlo hne (Keep.one _ _ (.cells (repC 1 0 none 0 0) 34 (0, 0)))
  have hb3 := hb2.upd_same (.cells (repC 1 0 none 0 0) 34 (0, 0))
  clear hS2 hb2 k2
  generalize w2.upd w1.heap.size (.cells (repC 1 0 none 0 0) 34 (0, 0)) = w3 at *
  generalize w1.heap.size = b7 at *
  refine LdV_has (v := .int .i64 c.k) hS3.cmd rfl (OpI_int.2 ?_)
  rw [hk]
  refine ⟨fun _ w' => ∃ s', Iv xs.length s' ∧ Has w' b7 (.cells (repC 1 0 none 0 0) 34 (0, 0)) ∧ DoSt w w' q s' b b1 c, ?_, ?_⟩
  · refine (Cb_false (p := _)).2 ⟨fun st w' => st.1 = true ∧ w' = w3, (Cb_true (q := _)).2 ⟨rfl, rfl⟩, ?_⟩
    rintro _ ⟨g, u⟩ w4 ⟨hg4, rfl⟩
    simp only at hg4 ⊢
    subst hg4
    refine (Cb_true (q := _)).2 ?_
    refine LdV_has (v := .slice c.dp c.dl c.dc) hS3.cmd rfl (OpS_slice.2 ?_)
    refine LdV_has (v := .int .i64 c.k) hS3.cmd rfl (OpI_int.2 ?_)
    rw [hk]
    refine ⟨fun st w' => st.1 = (c.dp, c.dl, c.dc) ∧ w' = w4, (Cb_false (p := _)).2 ⟨rfl, rfl⟩, ?_⟩
    rintro _ ⟨g, u⟩ w5 ⟨hg5, rfl⟩
    simp only at hg5 ⊢
    subst hg5
    refine LoopC_of (σ := Int × Unit) (fun st w' => ∃ (k : Nat) (s' : AS), st.1 = (k : Int) ∧ k ≤ xs.length ∧ Iv k s' ∧ Has w' b7 (.cells (repC 1 0 none 0 0) 34 (0, 0)) ∧ DoSt w w' q s' b b1 c) (fun st _ => ((xs.length : Int) - st.1).toNat)
      ⟨0, s', rfl, by omega, h0, hb3, hS3⟩ ?_
    clear hS3 hb3 hS
    rintro _ ⟨i, u⟩ w4 ⟨k, s', hi, hkn, hv, hb4, hS4⟩
    simp only at hi ⊢
    subst hi
    refine Cb_of (fun hc => ?_) (fun hc => ?_)
    · have hc : (k : Int) < (c.dl : Int) := by simpa using hc
      obtain ⟨x, hxk⟩ : ∃ x, xs[k]? = some x := ⟨_, List.getElem?_eq_getElem (show k < xs.length by omega)⟩
      have hx4 := hx _ hS4.keep
      refine hx4.ldA rfl (by omega) (by simpa using hxk) ?_
      show Alc _ _ _ _
      refine copy_of (by rw [zc_sec]; rfl) (by simp [secLay]) (by intro v hv; exact one_secV x v (by simpa [secLay] using hv)) fun w6 hb6 k6 z6 => ?_
      have e : (secLay.row x).toArray = secV x := by simp [secLay]
      rw [e] at hb6
      have hS6 := hS4.keep0 k6
      have hb46 := k6.has hb4 (by simp)
      refine LdV_has (v := .int .i64 c.lba) hS6.cmd rfl (OpI_int.2 ?_)
      refine LdA_all hb6 rfl ?_
      rw [wrapI (by omega) (by omega)]
      refine hstep k x s' w6 _ hxk hv hS6.ar fun e2 s2 w7 h7 k7 hor => OpI_int.2 ?_
      have hS7 := hS6.to h7 k7
      have hb7 := k7.has hb46 (ArF.not hS6.ar hb46 (by decide) (by decide) (by decide) (by decide) (by decide) (by decide) (by decide))
      rcases hor with ⟨he, hv2⟩ | ⟨he, hbad⟩
      · subst he
        refine (Cb_false (p := _)).2 ?_
        rw [wrapI (by omega) (by omega)]
        refine ⟨_, ?_, ⟨k + 1, s2, by show (k : Int) + 1 = ((k + 1 : Nat) : Int); omega, by omega, hv2, hb7, hS7⟩, rfl⟩
        show ((xs.length : Int) - ((k : Int) + 1)).toNat < ((xs.length : Int) - (k : Int)).toNat
        omega
      · have e3 : (e2 != 0) = true := by simpa using he
        rw [e3]
        refine (Cb_true (q := _)).2 ?_
        refine ar_check hS7.ar 13 fun w8 k8 => ?_
        refine OpA_agg.2 ⟨by split <;> rfl, ?_⟩
        refine doEnd (hS7.keep0 k8) (by split <;> rfl) (by intro v hv; split at hv <;> exact one_repC _ _ _ _ _ v hv) fun w9 h9 k9 _ => hB s2 w9 hbad h9 k9
    · have hc : ¬ (k : Int) < (c.dl : Int) := by simpa using hc
      have e : xs.length = k := by omega
      rw [e]
      exact ⟨s', hv, hb4, hS4⟩
  rintro _ _ w4 ⟨s', hv, hb4, hS4⟩
  refine LdA_all hb4 rfl ?_
  exact doEnd hS4 rfl (one_repC _ _ _ _ _) fun w5 h5 k5 _ => hK s' w5 hv h5 k5
end calls
end Go.Proofs

namespace Go.Proofs
open Go Go.Ev
set_option linter.unusedSimpArgs false
set_option linter.unusedVariables false
set_option maxRecDepth 100000
section calls
variable {w w0 : World} {q : AB} {s : AS} {b b1 : Nat} {c : Cmd} {R : Value → World → Prop}
theorem ar_DoSync (h : ArAt w q 0 s) (f : Bool) {init : Int} (hk : c.k = 4) (hr : readyA s f = true) {s' : AS} (hd : s'.d = s.d) (ha : ∀ (w1 : World) (R1 : Value → World → Prop), ArAt w1 q 1 s → (∀ w2, ArAt w2 q 1 s' → Keep (ArF q w1) w1 w2 → R1 (.int .i64 0) w2) → CallV Tryz.prog 79 #[.pointer (some ⟨q.a, 0, none⟩), .int .i64 (sideN f)] w1 R1)
    (hg : (gateD s.d ((q.g.d - 2) * q.g.c * q.g.s) init c).2 = false) (Iv : AS → Prop) (Bad : AS → Prop) (h0 : Iv s')
    (hstep : ∀ (s1 : AS) (w1 : World) (R1 : Value → World → Prop), Iv s1 → s1.ps.es ≠ [] → ArAt w1 q 1 s1 → (∀ e s2 w2, ArAt w2 q 1 s2 → Keep (ArF q w1) w1 w2 → (e = 0 ∧ Iv s2 ∧ s2.ps.es.length < s1.ps.es.length ∨ e ≠ 0 ∧ Bad s2) → R1 (.int .i64 e) w2) →
      CallV Tryz.prog 84 #[.pointer (some ⟨q.a, 0, none⟩), .int .i64 (sideN f)] w1 R1)
    (hK : ∀ s' w', Iv s' → s'.ps.es = [] → ArAt w' q 0 s' → Keep (ArF q w) w w' → R (.agg (repC 1 0 none 0 0)) w')
    (hB : ∀ s' w', Bad s' → ArAt w' q 0 s' → Keep (ArF q w) w w' → R (.agg (if s'.ps.pw.on = true then repC 2 3 none 0 0 else repC 0 0 none 0 0)) w') :
    CallV Tryz.prog 16 #[.pointer (some ⟨q.a, 0, none⟩), .int .i64 (sideN f), .int .i64 init, .agg (cmdC c)] w R := by
  refine ar_DoOpen h f (Or.inr (Or.inr hk)) hr hd ha (fun ht => by rw [hg] at ht; cases ht) fun _ b b1 w1 hS => ?_
  unfold DoBody
  refine DoQ_of (fun _ => bld_rep1 1 _) (OpA_agg.2 ⟨rfl, ?_⟩)
  refine alc_fresh fun w2 hb2 k2 z2 => ?_
  rw [zc_rep] at hb2
  have hS2 := hS.keep0 k2
  have hne : w1.heap.size ≠ b1 := fun e => by have := hS.rep.lt; omega
  have hlo : w.heap.size ≤ w1.heap.size := hS.keep.size
  refine StA_all hb2 rfl rfl (one_repC _ _ _ _ _) ?_
  have hS3 := hS2.tmp hb2 (Or.inr rfl) hlo hne (Keep.one _ _ (.cells (repC 1 0 none 0 0) 34 (0, 0)))
  have hb3 := hb2.upd_same (.cells (repC 1 0 none 0 0) 34 (0, 0))
  clear hS2 hb2 k2
  generalize w2.upd w1.heap.size (.cells (repC 1 0 none 0 0) 34 (0, 0)) = w3 at *
  generalize w1.heap.size = b7 at *
  refine LdV_has (v := .int .i64 c.k) hS3.cmd rfl (OpI_int.2 ?_)
  rw [hk]
  refine ⟨fun _ w' => ∃ s', Iv s' ∧ s'.ps.es = [] ∧ Has w' b7 (.cells (repC 1 0 none 0 0) 34 (0, 0)) ∧ DoSt w w' q s' b b1 c, ?_, ?_⟩
  · refine (Cb_false (p := _)).2 ⟨fun st w' => st.1 = false ∧ w' = w3, (Cb_false (p := _)).2 ⟨rfl, rfl⟩, ?_⟩
    rintro _ ⟨g, u⟩ w4 ⟨hg4, rfl⟩
    simp only at hg4 ⊢
    subst hg4
    refine (Cb_false (p := _)).2 ((Cb_false (p := _)).2 ((Cb_true (q := _)).2 ?_))
    refine ⟨fun m _ w' => ∃ s', s'.ps.es.length = m ∧ Iv s' ∧ Has w' b7 (.cells (repC 1 0 none 0 0) 34 (0, 0)) ∧ DoSt w w' q s' b b1 c, ⟨_, s', rfl, h0, hb3, hS3⟩, ?_⟩
    clear hS3 hb3 hS
    rintro _ m _ w5 ⟨s1, hm, hv, hb5, hS5⟩
    refine LdV_has (v := .pointer (some ⟨q.pb.p, 0, none⟩)) hS5.ar.cells rfl (OpN_some.2 ?_)
    refine LdV_has (v := .pointer (some ⟨q.pb.c, 0, none⟩)) hS5.ar.pair.cells rfl (OpN_some.2 ?_)
    refine cache_Len hS5.ar.pair.cache (OpI_int.2 ?_)
    refine Cb_of (fun hc => ?_) (fun hc => ?_)
    · have hc : 0 < s1.ps.es.length := by simpa using hc
      refine hstep s1 w5 _ hv (fun e => by rw [e] at hc; cases hc) hS5.ar fun e2 s2 w7 h7 k7 hor => OpI_int.2 ?_
      have hS7 := hS5.to h7 k7
      have hb7 := k7.has hb5 (ArF.not hS5.ar hb5 (by decide) (by decide) (by decide) (by decide) (by decide) (by decide) (by decide))
      rcases hor with ⟨he, hv2, hlt⟩ | ⟨he, hbad⟩
      · subst he
        exact (Cb_false (p := _)).2 ⟨_, by rw [← hm]; exact hlt, s2, rfl, hv2, hb7, hS7⟩
      · have e3 : (e2 != 0) = true := by simpa using he
        rw [e3]
        refine (Cb_true (q := _)).2 ?_
        refine ar_check hS7.ar 3 fun w8 k8 => ?_
        refine OpA_agg.2 ⟨by split <;> rfl, ?_⟩
        refine doEnd (hS7.keep0 k8) (by split <;> rfl) (by intro v hv; split at hv <;> exact one_repC _ _ _ _ _ v hv) fun w9 h9 k9 _ => hB s2 w9 hbad h9 k9
    · have hc : ¬ 0 < s1.ps.es.length := by simpa using hc
      exact ⟨s1, hv, List.length_eq_zero_iff.1 (by omega), hb5, hS5⟩
  rintro _ _ w4 ⟨s', hv, he, hb4, hS4⟩
  refine LdA_all hb4 rfl ?_
  exact doEnd hS4 rfl (one_repC _ _ _ _ _) fun w5 h5 k5 _ => hK s' w5 hv he h5 k5
end calls
end Go.Proofs

namespace Go.Proofs
open Go.Ev
set_option linter.unusedVariables false
set_option maxRecDepth 100000
def F_ravelinlaw20_awake  (w : World) (R : Value → World → Prop) : Prop :=
  DoQ Tryz.prog (Instr.build 24 #[(0, .int .i64 4), (1, .int .i64 1), (2, .int .i64 2)]) (At w) fun v => OpA 3 v fun cs => CallV Tryz.prog 13 #[.agg cs, .int .i64 2] w fun
  v1 w => T2 v1 fun v2 v3 => OpN v2 fun b o => OpI .i64 v3 fun n => Req ((n != 0) = (n != 0)) (Req ((n != 0) = (n != 0)) (Cb (cond (n != 0) true false) (Ret [] (R (.bool
  false) w)) (DoQ Tryz.prog (Instr.build 37 #[(0, .int .u8 7)]) (At w) fun v4 => OpA 16 v4 fun cs1 => DoV Tryz.prog (Instr.buildSlice 32 1 #[(0, .agg cs1)]) w fun v5 w =>
  OpS v5 fun p l c => DoQ Tryz.prog (Instr.build 41 #[(0, .int .i64 3), (3, .slice p l c)]) (At w) fun v6 => OpA 7 v6 fun cs2 => CallV Tryz.prog 16 #[.pointer (some ⟨b, o,
  none⟩), .int .i64 0, .int .i64 0, .agg cs2] w fun v7 w => OpA 3 v7 fun cs3 => DoQ Tryz.prog (Instr.build 41 #[(0, .int .i64 2), (2, .int .i64 1)]) (At w) fun v8 => OpA 7
  v8 fun cs4 => CallV Tryz.prog 16 #[.pointer (some ⟨b, o, none⟩), .int .i64 1, .int .i64 0, .agg cs4] w fun v9 w => OpA 3 v9 fun cs5 => Alc 34 (zc Tryz.prog 34) w fun b1 w
  => StA 3 b1 0 cs5 w fun w => LdV b1 0 (At w) fun v10 => OpI .i64 v10 fun n1 => Cb (n1 == 1) (LdV b1 2 (At w) fun v11 => OpS v11 fun p1 l1 c1 => Cb (((l1 : Nat) : Int) ==
  1) (LdV b1 2 (At w) fun v12 => OpS v12 fun p2 l2 c2 => IdxS p2 l2 0 16 fun b2 o1 => LdA 16 b2 o1 (At w) fun cs6 => DoQ Tryz.prog (Instr.build 37 #[(0, .int .u8 7)]) (At w)
  fun v13 => OpA 16 v13 fun cs7 => EqB Tryz.prog .eql 37 (.tmp 36) (.tmp 37) (.agg cs6 : Value) (.agg cs7 : Value) (At w) fun g => Cb g (CallV Tryz.prog 50 #[.pointer (some
  ⟨b, o, none⟩)] w fun v14 w => OpI .i64 v14 fun n2 => Ret [] (R (.bool (n2 == 2)) w)) (Ret [] (R (.bool false) w))) (Ret [] (R (.bool false) w))) (Ret [] (R (.bool false)
  w)))))
theorem C_ravelinlaw20_awake  {w : World} {R : Value → World → Prop} (h : F_ravelinlaw20_awake  w R) : CallV Tryz.prog 63 #[] w R := by
  exact calls_of_F (args := []) (mkAnn [] [] [] [] [100006]) Tryz_mixed Tryz.func63 rfl rfl (by kernel_rfl) h
end Go.Proofs

namespace Go.Proofs
open Go Go.Ev Go.ChangeShapes Go.WideShapes Go.ChangeAt Go.RowKit
set_option linter.unusedVariables false
set_option linter.unusedSimpArgs false
open Go.Proofs.YthhimblbnnafkaaGreat.Rows (uptoBulk uptoBulkAll uptoBulkEntries uptoSmall)
section
variable {H : Type} {enc : TypeId × Value → H} {P : Program} {w : World} {base : Nat} {spare : Nat → Bool} {held : Bool}
theorem bulk_pos : ∀ d : DataW H, 1 ≤ uptoBulk d
  | .lit l => by cases l <;> simp [uptoBulk]
  | .nil => by simp [uptoBulk]
  | .ptr d => by simp [uptoBulk]
  | .slice e s => by simp [uptoBulk]
  | .agg p => by simp [uptoBulk]
  | .iface _ d => by simp [uptoBulk]
  | .map e => by simp [uptoBulk]
  | .held _ => by simp [uptoBulk]
theorem bulkAll_sum : ∀ l : List (DataW H), uptoBulkAll l = (l.map uptoBulk).sum
  | [] => rfl
  | d :: l => by simp [uptoBulkAll, bulkAll_sum l]
theorem sum_le {α : Type} {f g : α → Nat} : ∀ {l : List α}, (∀ x ∈ l, f x ≤ g x) → (l.map f).sum ≤ (l.map g).sum
  | [], _ => by simp
  | a :: l, h => by
    simp only [List.map_cons, List.sum_cons]
    have := h a (by simp)
    have := sum_le (l := l) fun x hx => h x (by simp [hx])
    omega
theorem bulk_slice (D : Nat → DataW H) (n : Nat) (s : List (DataW H)) (f : Nat → Nat) (h : ∀ i, i < n → f i ≤ uptoBulk (D i)) : ((List.range n).map f).sum + 1 ≤ uptoBulk (.slice ((List.range n).map D) s) := by
  simp only [uptoBulk, bulkAll_sum, List.map_map]
  have := sum_le (l := List.range n) (f := f) (g := uptoBulk ∘ D) fun i hi => h i (List.mem_range.1 hi)
  omega
theorem sum_ones (n : Nat) : ((List.range n).map fun _ => 1).sum = n := by
  induction n with
  | zero => rfl
  | succ n ih => rw [List.range_succ, List.map_append, List.sum_append, ih]; rfl
theorem small_mem {ds : List (DataW H)} (h : uptoSmall H ds = true) {d : DataW H} (hd : d ∈ ds) : uptoBulk d ≤ 1048576 := by
  have h1 : uptoBulkAll ds ≤ 1048576 := by simpa [uptoSmall] using h
  rw [bulkAll_sum] at h1
  have : ∀ l : List (DataW H), d ∈ l → uptoBulk d ≤ (l.map uptoBulk).sum := by
    intro l
    induction l with
    | nil => simp
    | cons a l ih =>
      intro hd
      simp only [List.map_cons, List.sum_cons]
      rcases List.mem_cons.1 hd with rfl | hd
      · omega
      · have := ih hd; omega
  have := this ds hd
  omega
theorem sl_cells {t e : TypeId} {ks : List CK} {fuel : Nat} {cs : List Value} {x : DataW H × List MemPlace} (ht : P.underlying t = some (.slice e)) (hf : flat P 9 e = some ks) (hc : P.cellsOf e = ks.length) (hpos : 0 < ks.length)
    (hfu : DataW.trod enc P w base spare held fuel t cs = some x) :
    ∃ xp l c g, cs = [.slice xp l c] ∧ l ≤ c ∧ c ≤ maxLen ∧ Sl w ks.length xp l g ∧ (∀ i, i < l → Fits ks (g i)) ∧ l + 1 ≤ uptoBulk x.1 := by
  rcases Deep.open_slice ht hfu with ⟨rfl, rfl⟩ | ⟨a, len, cap, m, n, D, Pl, rfl, hb, hl, hm, hmm, rfl, hx⟩
  · exact ⟨none, 0, 0, fun _ => [], rfl, Nat.le_refl _, by simp [maxLen], fun i hi => absurd hi (Nat.not_lt_zero _), fun i hi => absurd hi (Nat.not_lt_zero _), by simp [uptoBulk]⟩
  · have hlm : len ≤ m := by rw [hmm]; split <;> omega
    obtain ⟨g, hg⟩ := Deep.choose_lt (α := List Value) (n := len) (p := fun i es => w.cells? base (a.add (i * P.cellsOf e)) (P.cellsOf e) = some es ∧ Fits ks es) (fun i hi => by
      obtain ⟨es, h1, h2⟩ := hx i (by omega)
      exact ⟨es, h1, fits_of_trod hf h2⟩)
    refine ⟨some a, len, cap, g, rfl, hl, hm, fun i hi => ?_, fun i hi => (hg i hi).2, ?_⟩
    · obtain ⟨h1, h2⟩ := hg i hi
      obtain ⟨_, hlen, hcell⟩ := World.cells?_some h1
      rw [hc] at hlen hcell
      refine ⟨hlen, ?_⟩
      have hsp : a.spot = none := by
        obtain ⟨k1, k2⟩ := hg 0 (by omega)
        obtain ⟨_, klen, kcell⟩ := World.cells?_some k1
        rw [hc] at klen kcell
        have h0 := kcell 0 hpos
        rw [List.getElem?_eq_getElem (by omega)] at h0
        have e0 : (a.add (0 * ks.length)).add 0 = a := by simp [Addr.add]
        rw [e0] at h0
        unfold World.cell? at h0
        split at h0
        · split at h0
          · cases h0
          · rename_i hs
            cases hsa : a.spot with
            | none => rfl
            | some q => exact absurd (by simp [hsa]) hs
        · cases h0
      obtain ⟨b, o, sp⟩ := a
      simp only at hsp
      subst hsp
      refine ⟨b, o, rfl, fun j hj => ?_⟩
      have := hcell j hj
      rw [Deep.add_add] at this
      rw [← this]
      congr 1
      unfold Addr.add
      split
      · rename_i hz; rw [Nat.add_assoc, hz, Nat.add_zero]
      · rw [Nat.add_assoc]
    · have := bulk_slice D len ((List.range (m - len)).map fun j => D (len + j)) (fun _ => 1) (fun i _ => bulk_pos _)
      rw [sum_ones] at this
      exact this
/-- a slice argument, and how long it is -/
theorem sl_openB {t e : TypeId} {ks : List CK} {v : Value} {r : Reach} {b0 : Nat} {dd : DataW H} {ps : List MemPlace} (ht : P.underlying t = some (.slice e)) (hf : flat P 9 e = some ks) (hc : P.cellsOf e = ks.length) (hpos : 0 < ks.length)
    (hval : Value.okWide P w r b0 t v) (hd : DataW.Trod enc P w base spare held t v dd ps) :
    ∃ xp l c g, v = .slice xp l c ∧ l ≤ c ∧ c ≤ maxLen ∧ Sl w ks.length xp l g ∧ (∀ i, i < l → Fits ks (g i)) ∧ l + 1 ≤ uptoBulk dd := by
  obtain ⟨xp, l, c, rfl⟩ := okWide_slice ht hval
  obtain ⟨fuel, hfu⟩ := hd
  obtain ⟨xp', l', c', g, h0, h1, h2, h3, h4, h5⟩ := sl_cells ht hf hc hpos hfu
  simp only [Value.cells, List.cons.injEq, Value.slice.injEq, and_true] at h0
  obtain ⟨rfl, rfl, rfl⟩ := h0
  exact ⟨_, _, _, g, rfl, h1, h2, h3, h4, h5⟩
/-- a slice that is handed in, as a list of elements -/
theorem slL_of {α : Type} {L : Lay α} {n : Nat} {xp : Option Addr} {l : Nat} {g : Nat → List Value} (h : Sl w n xp l g) (hn : L.size = n) {f : Nat → α} (hg : ∀ i, i < l → g i = L.row (f i)) : SlL L w xp l ((List.range l).map f) := by
  subst hn
  refine ⟨by simp, fun i x hi => ?_⟩
  have hlt : i < l := by have := (List.getElem?_eq_some_iff.1 hi).1; simpa using this
  have : x = f i := by simp [hlt] at hi; exact hi.symm
  subst this
  obtain ⟨_, b, o, hp, hc⟩ := h i hlt
  exact ⟨b, o, hp, fun j hj => by rw [hc j hj, hg i hlt]⟩
/-- ... with what is known of each -/
theorem slL_ex {α : Type} [Inhabited α] {L : Lay α} {ks : List CK} {ok : α → Prop} {n : Nat} {xp : Option Addr} {l : Nat} {g : Nat → List Value} (h : Sl w n xp l g) (hn : L.size = n) (hf : ∀ i, i < l → Fits ks (g i)) (ho : ∀ cs, Fits ks cs → ∃ x, cs = L.row x ∧ ok x) :
    ∃ xs : List α, SlL L w xp l xs ∧ ∀ x ∈ xs, ok x := by
  obtain ⟨f, hf2⟩ := Deep.choose_lt (α := α) (n := l) (p := fun i o => g i = L.row o ∧ ok o) fun i hi => ho _ (hf i hi)
  refine ⟨_, slL_of h hn fun i hi => (hf2 i hi).1, fun x hx => ?_⟩
  obtain ⟨i, hi, rfl⟩ := List.mem_map.1 hx
  exact (hf2 i (List.mem_range.1 hi)).2
end
end Go.Proofs

namespace Go.Proofs
open Go Go.Ev Go.RowKit
set_option linter.unusedSimpArgs false
set_option linter.unusedVariables false
set_option maxRecDepth 100000

theorem sec_of {cs : Array Value} (h : Fits (List.replicate 16 (.int .u8)) cs.toList) : ∃ f, cs = secV f ∧ SecOk f := by
  obtain ⟨l⟩ := cs
  match l, h with
  | [_, _, _, _, _, _, _, _, _, _, _, _, _, _, _, _], ⟨⟨x0, rfl, a0⟩, ⟨x1, rfl, a1⟩, ⟨x2, rfl, a2⟩, ⟨x3, rfl, a3⟩, ⟨x4, rfl, a4⟩, ⟨x5, rfl, a5⟩, ⟨x6, rfl, a6⟩, ⟨x7, rfl, a7⟩, ⟨x8, rfl, a8⟩, ⟨x9, rfl, a9⟩, ⟨xa, rfl, aa⟩, ⟨xb, rfl, ab⟩, ⟨xc, rfl, ac⟩, ⟨xd, rfl, ad⟩, ⟨xe, rfl, ae⟩, ⟨xf, rfl, af⟩, _⟩ =>
    refine ⟨sec [x0, x1, x2, x3, x4, x5, x6, x7, x8, x9, xa, xb, xc, xd, xe, xf], rfl, sec_ok ?_⟩
    intro x hx
    simp only [List.mem_cons, List.not_mem_nil, or_false] at hx
    rcases hx with rfl | rfl | rfl | rfl | rfl | rfl | rfl | rfl | rfl | rfl | rfl | rfl | rfl | rfl | rfl | rfl <;> assumption
instance : Inhabited Sec := ⟨sec []⟩
/-- sectors in a row -/
theorem secs_list {W : World} {xp : Option Addr} {l : Nat} {g : Nat → List Value} (h : Sl W 16 xp l g) (hf : ∀ i, i < l → Fits (List.replicate 16 (.int .u8)) (g i)) : ∃ fs : List Sec, SlL secLay W xp l fs ∧ ∀ f ∈ fs, SecOk f :=
  slL_ex h rfl hf fun cs hc => by
    obtain ⟨f, hf, ho⟩ := sec_of (cs := cs.toArray) (by simpa using hc)
    exact ⟨f, by show cs = (secV f).toList; rw [← hf], ho⟩
end Go.Proofs

namespace Go.Proofs
open Go Go.Ev
set_option linter.unusedSimpArgs false
set_option linter.unusedVariables false
set_option maxRecDepth 100000

/-- a record to both sides while the power holds -/
theorem eachP_lit {sz : Int} {x : Rec} {s : PS} (f : Bool) (hua : s.ua = true) (hub : s.ub = true) (hl : Lit0 s.pw) (ra : 37 ≤ sz - (s.xa.length : Int)) (rb : 37 ≤ sz - (s.xb.length : Int)) :
    eachP sz x f s = (0, { s with pw := (stepP (stepP s.pw).2).2, xa := s.xa ++ packB x, xb := s.xb ++ packB x }) := by
  have l1 := lit_step hl
  have l2 := lit_step l1.2
  have go : ∀ (pw : Pow) (bs : List Int), Lit0 pw → 37 ≤ sz - (bs.length : Int) → appP pw sz bs x = (0, (stepP pw).2, bs ++ packB x) := fun pw bs h hr => by
    unfold appP
    rw [if_neg (by rw [h.1]; decide), if_neg (by omega), if_neg (by rw [(lit_step h).1]; decide)]
  obtain ⟨es, la, ep, ua, ub, pw, xa, xb⟩ := s
  simp only at hua hub hl ra rb l1 l2
  subst hua
  subst hub
  cases f
  · show eachS sz x [false, true] _ = _
    unfold eachS
    simp only [app1, go pw xa hl ra]
    unfold eachS
    simp only [app1, go _ xb l1.2 rb]
    rfl
  · show eachS sz x [true, false] _ = _
    unfold eachS
    simp only [app1, go pw xb hl rb]
    unfold eachS
    simp only [app1, go _ xa l1.2 ra]
    rfl
theorem keyL_rep0 {D : Dsk} (h : D.key = 0) : ∀ n : Nat, keyL 0 (List.replicate n D) = 0
  | 0 => rfl
  | n + 1 => by
    show keyL (if D.dead = true then 0 else max 0 D.key) (List.replicate n D) = 0
    rw [h]
    have : (if D.dead = true then (0 : Int) else max 0 0) = 0 := by split <;> rfl
    rw [this]
    exact keyL_rep0 h n
theorem keyS_new (g : Geo) (pw : Pow) : keyS (newS g pw) = 0 := keyL_rep0 rfl _
theorem ready0 (g : Geo) (f : Bool) : readyA (arS0 g) f = true := by
  unfold readyA
  have : keyS (arS0 g).ss = 0 := keyS_new g pw0
  rw [this]
  cases f <;> rfl
section calls
variable {w : World} {R : Value → World → Prop}
theorem bld_sec7 (w : World) : (Instr.build 37 #[(0, .int .u8 7)]).run Tryz.prog w = .ok (.agg (secV (sec [7]))) w := bld_sec1 7 w
theorem w_awake20 (hK : ∀ w', Keep (fun _ => False) w w' → R (.bool true) w') : CallV Tryz.prog 63 #[] w R := by
  apply C_ravelinlaw20_awake
  unfold F_ravelinlaw20_awake
  refine DoQ_of (v := .agg (geoV g4)) (fun _ => run_build _ _ _ _ (by kernel_rfl)) (OpA_agg.2 ⟨rfl, ?_⟩)
  refine ar_New g4_ok (by decide) (by decide) fun q w1 hqg hqr hqs h1 hf k1 => T2_mk.2 (OpN_some.2 (OpI_int.2 ⟨rfl, rfl, (Cb_false (p := _)).2 ?_⟩))
  refine DoQ_of (fun _ => bld_sec7 _) (OpA_agg.2 ⟨rfl, ?_⟩)
  refine ⟨_, _, bsl_s1 _ w1, OpS_slice.2 ?_⟩
  have k2 : Keep (fun _ => False) w1 (w1.alloc (.cells (secV (sec [7])) 37)) := Keep.new _ _ _
  have hb2 : Has (w1.alloc (.cells (secV (sec [7])) 37)) w1.heap.size (.cells (secV (sec [7])) 37 (0, 0)) := Has.new _ _
  have o2 : OwnL secLay _ w1.heap.size 37 (some ⟨w1.heap.size, 0, none⟩) 1 1 [sec [7]] := OwnL.mk (xs := [sec [7]]) (Nat.le_refl _) hb2 (by simp [maxLen]) (by simp [Lay.rows, secLay])
  generalize w1.alloc (.cells (secV (sec [7])) 37) = w2 at *
  generalize w1.heap.size = pb at *
  refine DoQ_of (v := .agg (cmdC ⟨3, 0, 0, some ⟨pb, 0, none⟩, 1, 1, 0, 0, false⟩)) (fun _ => run_build _ _ _ _ (by kernel_rfl)) (OpA_agg.2 ⟨rfl, ?_⟩)
  have h2 := h1.keep0 k2
  have k02 := k1.trans k2
  generalize hc : (Cmd.mk 3 0 0 (some ⟨pb, 0, none⟩) 1 1 0 0 false) = c
  have hgate : (gateD (arS0 g4).d ((q.g.d - 2) * q.g.c * q.g.s) 0 c).2 = false := by rw [← hc, hqg]; rfl
  have hput : putP q.pb.room q.pb.sz (arS0 g4).ps false 0 (sec [7]) = ((1, 0), ⟨[(0, (sec [7], 1))], 1, 0, true, true, ⟨true, 0, 2⟩, packB ⟨1, 1, 0, sec [7]⟩, packB ⟨1, 1, 0, sec [7]⟩⟩) := by
    rw [hqr, hqs]
    unfold putP
    rw [if_neg (by decide), if_neg (by decide), if_neg (by decide)]
    have ha := eachP_lit (sz := 65536) (x := ⟨1, IntKind.wrap .u64 ((arS0 g4).ps.last + 1), 0, sec [7]⟩) (s := { (arS0 g4).ps with last := IntKind.wrap .u64 ((arS0 g4).ps.last + 1) }) false rfl rfl lit0 (by decide) (by decide)
    simp only [ha]
    have e1 : IntKind.wrap .u64 ((arS0 g4).ps.last + 1) = 1 := by decide
    rw [e1]
    rfl
  refine ar_DoWrite (c := c) (xs := [sec [7]]) h2 false (by rw [← hc]) (ready0 g4 false) rfl (alone_none false (Or.inr ⟨rfl, rfl⟩)) hgate (by rw [← hc]; rfl) (fun w' k => by rw [← hc]; exact ((SlT.of o2).keepB k fun i cur hh => ArF.not h2 hh (by decide) (by decide) (by decide) (by decide) (by decide) (by decide) (by decide)).sl)
    (fun k s' => (k = 0 ∧ s' = arS0 g4) ∨ (k = 1 ∧ s' = { arS0 g4 with ps := (putP q.pb.room q.pb.sz (arS0 g4).ps false 0 (sec [7])).2 })) (fun _ => False) (Or.inl ⟨rfl, rfl⟩) ?_ ?_ (fun _ _ h => h.elim)
  · rintro k x s1 w3 R1 hx (⟨rfl, rfl⟩ | ⟨rfl, rfl⟩) h3 hn
    · cases hx
      have e : c.lba + ((0 : Nat) : Int) = 0 := by rw [← hc]; rfl
      rw [e]
      refine ar_put0 h3 false (Or.inr (by rw [hqr]; decide)) (fun f _ => by rw [hqs]; cases f <;> decide) fun w4 h4 k4 => ?_
      exact hn _ _ w4 h4 (k4.mono fun i e => Or.inr (Or.inr e)) (Or.inl ⟨by rw [hput], Or.inr ⟨rfl, rfl⟩⟩)
    · cases hx
  rintro s' w3 (⟨h, _⟩ | ⟨_, rfl⟩) h3 k3
  · cases h
  rw [hput] at h3
  refine OpA_agg.2 ⟨rfl, ?_⟩
  have k03 : Keep (fun _ => False) w w3 := k02.trans' k3 fun i hi e => by have := ArF.low hf e; omega
  clear hgate hput hc c h2 o2 hb2 k2 k3
  refine DoQ_of (v := .agg (cmdC ⟨2, 0, 1, none, 0, 0, 0, 0, false⟩)) (fun _ => run_build _ _ _ _ (by kernel_rfl)) (OpA_agg.2 ⟨rfl, ?_⟩)
  generalize hs3 : ({ arS0 g4 with ps := ⟨[(0, (sec [7], 1))], 1, 0, true, true, ⟨true, 0, 2⟩, packB ⟨1, 1, 0, sec [7]⟩, packB ⟨1, 1, 0, sec [7]⟩⟩ } : AS) = s3 at h3
  have hrd : readyA s3 true = true := by
    rw [← hs3]
    unfold readyA
    have : keyS (AS.ss { arS0 g4 with ps := ⟨[(0, (sec [7], 1))], 1, 0, true, true, ⟨true, 0, 2⟩, packB ⟨1, 1, 0, sec [7]⟩, packB ⟨1, 1, 0, sec [7]⟩⟩ }) = 0 := keyS_new g4 pw0
    rw [this]
    rfl
  have hra : readA q s3 0 = (sec [7], 0) := by rw [← hs3]; rfl
  refine ar_DoRead (c := ⟨2, 0, 1, none, 0, 0, 0, 0, false⟩) h3 true rfl hrd rfl (alone_none true (Or.inr (by rw [← hs3]; exact ⟨rfl, rfl⟩))) (by rw [← hs3, hqg]; decide) (by rw [← hs3]; exact (newS_ok g4_ok pw0).ok) (fun k hk => ?_) fun p cc w4 h4 k4 o4 => ?_
  · have hk : (k : Int) < 1 := hk
    have e : k = 0 := by omega
    subst e
    show (readA q s3 0).2 = 0
    rw [hra]
  have k04 : Keep (fun _ => False) w w4 := k03.trans' k4 fun i hi e => by have := ArF.low hf e; omega
  have o4 : OwnL secLay w4 w3.heap.size 37 p 1 cc [(readA q s3 0).1] := o4
  rw [hra] at o4
  rw [show (Cmd.mk 2 0 1 none 0 0 0 0 false).n.toNat = 1 from rfl]
  refine OpA_agg.2 ⟨rfl, ?_⟩
  refine alc_fresh fun w5 hb5 k5 z5 => ?_
  rw [zc_rep] at hb5
  refine StA_all hb5 rfl rfl (one_repC _ _ _ _ _) ?_
  have ku := Keep.one w5 w4.heap.size (.cells (repC 1 0 p 1 cc) 34 (0, 0))
  have k06 : Keep (fun _ => False) w (w5.upd w4.heap.size (.cells (repC 1 0 p 1 cc) 34 (0, 0))) := (k04.trans k5).trans' ku fun i hi e => by have := k04.size; omega
  have h6 := (h4.keep0 k5).keepT hb5 (by decide) (by decide) (by decide) (by decide) (by decide) (by decide) (by decide) (by decide) (by decide) (by decide) (by decide) ku
  have hb6 := hb5.upd_same (.cells (repC 1 0 p 1 cc) 34 (0, 0))
  have o6 := (o4.keep k5 (by simp)).keep ku fun x hx e => by have := o4.lt hx; omega
  generalize w5.upd w4.heap.size (.cells (repC 1 0 p 1 cc) 34 (0, 0)) = w6 at *
  refine LdV_has (v := .int .i64 1) hb6 rfl (OpI_int.2 ((Cb_true (q := _)).2 ?_))
  refine LdV_has (v := .slice p 1 cc) hb6 rfl (OpS_slice.2 ((Cb_true (q := _)).2 ?_))
  refine LdV_has (v := .slice p 1 cc) hb6 rfl (OpS_slice.2 ?_)
  refine o6.ldA (x := sec [7]) rfl (by omega) rfl ?_
  have e7 : (secLay.row (sec [7])).toArray = secV (sec [7]) := by simp [secLay]
  rw [e7]
  refine DoQ_of (fun _ => bld_sec7 _) (OpA_agg.2 ⟨rfl, ?_⟩)
  have h7 : SecOk (sec [7]) := sec_ok (by simp)
  refine EqB_sec h7 h7 fun r hr => ?_
  rw [hr.2 rfl]
  refine (Cb_true (q := _)).2 (ar_Steps h6 (OpI_int.2 (Ret_nil.2 ?_)))
  rw [← hs3]
  exact hK w6 k06
/-! ### New of any form -/
/-! ### a nil array -/
end calls
end Go.Proofs
/-
  what the lifting needs
-/
namespace Go.Proofs
open Go Go.Ev Go.RowKit
end Go.Proofs

namespace Go.Proofs
open Go.Ev
set_option linter.unusedVariables false
set_option maxRecDepth 100000
def F_ravelinlaw20_small (a : Int) (b : Int) (c : Int) (w : World) (R : Value → World → Prop) : Prop :=
  Alc 24 (zc Tryz.prog 24) w fun b1 w => Req ((3 : Int) ≠ 0) (Req ((2 : Int) ≠ 0) (Req ((3 : Int) ≠ 0) (DoQ Tryz.prog (Instr.build 24 #[(0, .int .i64 (IntKind.wrap .i64
  ((IntKind.wrap .i64 (Int.tmod a 3)) + 4))), (1, .int .i64 (IntKind.wrap .i64 ((IntKind.wrap .i64 (Int.tmod b 2)) + 1))), (2, .int .i64 (IntKind.wrap .i64 ((IntKind.wrap
  .i64 (Int.tmod c 3)) + 1)))]) (At w) fun v => OpA 3 v fun cs => StA 3 b1 0 cs w fun w => LdA 3 b1 0 (At w) fun cs1 => Ret [] (R (.agg cs1) w))))
theorem C_ravelinlaw20_small {a : Int} {b : Int} {c : Int} {w : World} {R : Value → World → Prop} (h : F_ravelinlaw20_small a b c w R) : CallV Tryz.prog 65 #[.int .u8 a, .int .u8 b, .int .u8 c] w R := by
  exact calls_of_F (args := [.int .u8 a, .int .u8 b, .int .u8 c]) (mkAnn [] [] [] [] []) Tryz_mixed Tryz.func65 rfl rfl (by kernel_rfl) h
def F_ravelinref09_SameSectors (ap : Option Addr) (al : Nat) (ac : Nat) (bp : Option Addr) (bl : Nat) (bc : Nat) (w : World) (R : Value → World → Prop) : Prop :=
  Cb (((al : Nat) : Int) != ((bl : Nat) : Int)) (Ret [] (R (.bool false) w)) (LoopC (σ := Int × Unit) (fun _ s1 w K1 => Cb (decide (s1.1 < ((al : Nat) : Int))) (IdxS ap al
  s1.1 16 fun b o => LdA 16 b o (At w) fun cs => IdxS bp bl s1.1 16 fun b1 o1 => LdA 16 b1 o1 (At w) fun cs1 => EqB Tryz.prog .neq 37 (.tmp 20) (.tmp 24) (.agg cs : Value)
  (.agg cs1 : Value) (At w) fun g => Drw w fun w => Cb g (Ret [] (R (.bool false) w)) (K1 (IntKind.wrap .i64 (s1.1 + 1), ()) w)) (Ret [] (R (.bool true) w))) (0, ()) w)
theorem C_ravelinref09_SameSectors {ap : Option Addr} {al : Nat} {ac : Nat} {bp : Option Addr} {bl : Nat} {bc : Nat} {w : World} {R : Value → World → Prop} (h : F_ravelinref09_SameSectors ap al ac bp bl bc w R) : CallV Tryz.prog 33 #[.slice ap al ac, .slice bp bl bc] w R := by
  exact calls_of_F (args := [.slice ap al ac, .slice bp bl bc]) (mkAnn [(4, [(5, (.int .i64))])] [] [] [] []) Tryz_mixed Tryz.func33 rfl rfl (by kernel_rfl) h
def F_ravelinref19_Same (a : Array Value) (b : Array Value) (w : World) (R : Value → World → Prop) : Prop :=
  Alc 34 a w fun b1 w => Alc 34 b w fun b2 w => LdV b1 0 (At w) fun v => OpI .i64 v fun n => LdV b2 0 (At w) fun v1 => OpI .i64 v1 fun n1 => Cb (n == n1) (LdV b1 1 (At w)
  fun v2 => OpI .i64 v2 fun n2 => LdV b2 1 (At w) fun v3 => OpI .i64 v3 fun n3 => Cb (n2 == n3) (LdV b1 2 (At w) fun v4 => OpS v4 fun p l c => LdV b2 2 (At w) fun v5 => OpS
  v5 fun p1 l1 c1 => CallV Tryz.prog 33 #[.slice p l c, .slice p1 l1 c1] w fun v6 w => OpB v6 fun g => Ret [] (R (.bool g) w)) (Ret [] (R (.bool false) w))) (Ret [] (R
  (.bool false) w))
theorem C_ravelinref19_Same {a : Array Value} {b : Array Value} {w : World} {R : Value → World → Prop} (h : F_ravelinref19_Same a b w R) : CallV Tryz.prog 66 #[.agg a, .agg b] w R := by
  exact calls_of_F (args := [.agg a, .agg b]) (mkAnn [] [] [] [] []) Tryz_mixed Tryz.func66 rfl rfl (by kernel_rfl) h
def F_ravelinlaw20_ArraySteps (x : Int) (y : Int) (z : Int) (listp : Option Addr) (listl : Nat) (listc : Nat) (lone : Bool) (w : World) (R : Value → World → Prop) : Prop :=
  CallV Tryz.prog 65 #[.int .u8 x, .int .u8 y, .int .u8 z] w fun v w => OpA 3 v fun cs => Alc 24 (zc Tryz.prog 24) w fun b w => StA 3 b 0 cs w fun w => LdV b 2 (At w) fun v1
  => OpI .i64 v1 fun n => StV b 2 (.int .i64 (IntKind.wrap .i64 (n + 1))) w fun w => LdA 3 b 0 (At w) fun cs1 => CallV Tryz.prog 13 #[.agg cs1, .int .i64 8] w fun v2 w => T2
  v2 fun v3 v4 => OpN v3 fun b1 o => OpI .i64 v4 fun n1 => CallV Tryz.prog 63 #[] w fun v5 w => OpB v5 fun g => Req ((!g) = (!g)) (Req ((!g) = (!g)) (Req ((cond (!g) true
  (n1 != 0)) = (cond (!g) true (n1 != 0))) (Req ((cond (!g) true (n1 != 0)) = (cond (!g) true (n1 != 0))) (Cb (cond (cond (!g) true (n1 != 0)) true false) (Ret [] (R (.bool
  (decide (((listl : Nat) : Int) > 4))) w)) (Cb (decide (((listl : Nat) : Int) > 4)) (Ret [] (R (.bool (decide (((listl : Nat) : Int) > 4))) w)) (JoinC (σ := Int × Unit)
  (fun J1 => Cb lone (CallV Tryz.prog 22 #[.pointer (some ⟨b1, o, none⟩), .int .i64 1] w fun v6 w => OpI .i64 v6 fun n2 => Cb (n2 != 0) (Ret [] (R (.bool false) w)) (J1
  (IntKind.wrap .i64 (((listl : Nat) : Int) + 1), ()) w)) (J1 (IntKind.wrap .i64 (2 * ((listl : Nat) : Int)), ()) w)) (fun _ s1 w => DoQ Tryz.prog (Instr.build 41 #[(0, .int
  .i64 3), (1, .int .i64 0), (3, .slice listp listl listc)]) (At w) fun v7 => OpA 7 v7 fun cs2 => CallV Tryz.prog 16 #[.pointer (some ⟨b1, o, none⟩), .int .i64 0, .int .i64
  3, .agg cs2] w fun v8 w => OpA 3 v8 fun cs3 => Alc 34 (zc Tryz.prog 34) w fun b2 w => StA 3 b2 0 cs3 w fun w => Cb (((listl : Nat) : Int) == 0) (LdV b2 0 (At w) fun v9 =>
  OpI .i64 v9 fun n3 => Cb (n3 == 2) (LdV b2 1 (At w) fun v10 => OpI .i64 v10 fun n4 => Ret [] (R (.bool (n4 == 5)) w)) (Ret [] (R (.bool false) w))) (LdV b2 0 (At w) fun
  v11 => OpI .i64 v11 fun n5 => Cb (n5 != 1) (Ret [] (R (.bool false) w)) (CallV Tryz.prog 50 #[.pointer (some ⟨b1, o, none⟩)] w fun v12 w => OpI .i64 v12 fun n6 => Cb (n6
  != s1.1) (Ret [] (R (.bool false) w)) (CallV Tryz.prog 18 #[.pointer (some ⟨b1, o, none⟩)] w fun v13 w => OpI .i64 v13 fun n7 => Cb (n7 != ((listl : Nat) : Int)) (Ret []
  (R (.bool false) w)) (DoQ Tryz.prog (Instr.build 41 #[(0, .int .i64 2), (1, .int .i64 0), (2, .int .i64 ((listl : Nat) : Int))]) (At w) fun v14 => OpA 7 v14 fun cs4 =>
  CallV Tryz.prog 16 #[.pointer (some ⟨b1, o, none⟩), .int .i64 0, .int .i64 3, .agg cs4] w fun v15 w => OpA 3 v15 fun cs5 => Alc 34 (zc Tryz.prog 34) w fun b3 w => StA 3 b3
  0 cs5 w fun w => CallV Tryz.prog 50 #[.pointer (some ⟨b1, o, none⟩)] w fun v16 w => OpI .i64 v16 fun n8 => Cb (n8 != s1.1) (Ret [] (R (.bool false) w)) (DoQ Tryz.prog
  (Instr.build 41 #[(0, .int .i64 4)]) (At w) fun v17 => OpA 7 v17 fun cs6 => CallV Tryz.prog 16 #[.pointer (some ⟨b1, o, none⟩), .int .i64 0, .int .i64 0, .agg cs6] w fun
  v18 w => OpA 3 v18 fun cs7 => Fld cs7 0 fun v19 => OpI .i64 v19 fun n9 => Cb (n9 != 1) (Ret [] (R (.bool false) w)) (CallV Tryz.prog 18 #[.pointer (some ⟨b1, o, none⟩)] w
  fun v20 w => OpI .i64 v20 fun n10 => Cb (n10 != 0) (Ret [] (R (.bool false) w)) (JoinC (σ := Int × Unit) (fun J2 => Cb lone (J2 (9, ()) w) (J2 (15, ()) w)) (fun _ s2 w =>
  DoQ Tryz.prog (Instr.build 41 #[(0, .int .i64 2), (1, .int .i64 0), (2, .int .i64 ((listl : Nat) : Int))]) (At w) fun v21 => OpA 7 v21 fun cs8 => CallV Tryz.prog 16
  #[.pointer (some ⟨b1, o, none⟩), .int .i64 0, .int .i64 3, .agg cs8] w fun v22 w => OpA 3 v22 fun cs9 => Alc 34 (zc Tryz.prog 34) w fun b4 w => StA 3 b4 0 cs9 w fun w =>
  HeldR w fun S w => CallV Tryz.prog 50 #[.pointer (some ⟨b1, o, none⟩)] w fun v23 w => OpI .i64 v23 fun n11 => Hld (S w) (Cb (n11 == (IntKind.wrap .i64 (s1.1 +
  (IntKind.wrap .i64 (s2.1 * ((listl : Nat) : Int)))))) (LdV b3 0 S fun v24 => OpI .i64 v24 fun n12 => Cb (n12 == 1) (LdA 3 b3 0 (At w) fun cs10 => LdA 3 b4 0 (At w) fun
  cs11 => CallV Tryz.prog 66 #[.agg cs10, .agg cs11] w fun v25 w => OpB v25 fun g1 => Hld (S w) (Cb g1 (LdV b3 2 (At w) fun v26 => OpS v26 fun p l c => Cb (((l : Nat) : Int)
  == ((listl : Nat) : Int)) (LdV b3 2 (At w) fun v27 => OpS v27 fun p1 l1 c1 => IdxS p1 l1 (IntKind.wrap .i64 (((listl : Nat) : Int) - 1)) 16 fun b5 o1 => LdA 16 b5 o1 (At
  w) fun cs12 => IdxS listp listl (IntKind.wrap .i64 (((listl : Nat) : Int) - 1)) 16 fun b6 o2 => LdA 16 b6 o2 (At w) fun cs13 => EqB Tryz.prog .eql 37 (.tmp 152) (.tmp 158)
  (.agg cs12 : Value) (.agg cs13 : Value) (At w) fun g2 => Ret [] (R (.bool g2) w)) (Ret [] (R (.bool false) w))) (Ret [] (R (.bool false) w)))) (Hld (S w) (Ret [] (R (.bool
  false) w)))) (Hld (S w) (Ret [] (R (.bool false) w)))))))))))))))))))
theorem C_ravelinlaw20_ArraySteps {x : Int} {y : Int} {z : Int} {listp : Option Addr} {listl : Nat} {listc : Nat} {lone : Bool} {w : World} {R : Value → World → Prop} (h : F_ravelinlaw20_ArraySteps x y z listp listl listc lone w R) : CallV Tryz.prog 9 #[.int .u8 x, .int .u8 y, .int .u8 z, .slice listp listl listc, .bool lone] w R := by
  exact calls_of_F (args := [.int .u8 x, .int .u8 y, .int .u8 z, .slice listp listl listc, .bool lone]) (mkAnn [] [] [(8, [(14, (.int .i64))]), (21, [(17, (.int .i64))])] [] [119, 135, 100029]) Tryz_mixed Tryz.func9 rfl rfl (by kernel_rfl) h
end Go.Proofs

namespace Go.Proofs
open Go Go.Ev
set_option linter.unusedSimpArgs false
set_option linter.unusedVariables false
set_option maxRecDepth 100000
section calls
variable {w : World} {R : Value → World → Prop}
theorem ref_SameSecs20 {p q : Option Addr} {l m c d : Nat} {vs : List Sec} (h1 : SlL secLay w p l vs) (h2 : SlL secLay w q m vs) (hok : ∀ v ∈ vs, SecOk v) (hl : l ≤ 1000000) (hK : ∀ w', Keep (fun _ => False) w w' → R (.bool true) w') :
    CallV Tryz.prog 33 #[.slice p l c, .slice q m d] w R := by
  apply C_ravelinref09_SameSectors
  unfold F_ravelinref09_SameSectors
  have e : l = m := h1.1.trans h2.1.symm
  subst e
  have hlen := h1.1
  refine Cb_of (fun hc => by simp at hc) (fun _ => ?_)
  refine LoopC_of (σ := Int × Unit) (fun s w' => Keep (fun _ => False) w w' ∧ ∃ j : Nat, s.1 = j ∧ j ≤ l) (fun s _ => (l - s.1).toNat) ⟨Keep.refl _ _, 0, rfl, by omega⟩ ?_
  rintro _ ⟨i1, u⟩ w1 ⟨k1, j, hj, hjl⟩
  simp only at hj ⊢
  subst hj
  refine Cb_of (fun hc => ?_) (fun hc => ?_)
  · have hj : j < l := by simp only [decide_eq_true_eq] at hc; omega
    have ew : IntKind.wrap .i64 ((j : Int) + 1) = ((j + 1 : Nat) : Int) := by rw [wrapI (by omega) (by omega)]; omega
    rw [ew]
    have g' : vs[j]? = some (vs[j]'(by omega)) := by simp [show j < vs.length by omega]
    have g : vs[((j : Nat) : Int).toNat]? = some (vs[j]'(by omega)) := by rw [Int.toNat_natCast]; exact g'
    have hv := hok _ (List.mem_of_getElem? g')
    refine (h1.keepB k1 (by simp)).ldA rfl (by omega) g ?_
    refine (h2.keepB k1 (by simp)).ldA rfl (by omega) g ?_
    refine EqB_sec_ne hv hv fun r hr => ?_
    have hrf : r = false := by cases r <;> simp_all
    subst hrf
    intro d
    refine (Cb_false (p := _)).2 ?_
    exact ⟨_, by omega, ⟨k1.dr d, j + 1, rfl, hj⟩, rfl⟩
  · rw [Ret_nil]
    exact hK w1 k1
theorem ref_Same20 {a b : Int} {p q : Option Addr} {l m c d : Nat} {vs : List Sec} (h1 : SlL secLay w p l vs) (h2 : SlL secLay w q m vs) (hok : ∀ v ∈ vs, SecOk v) (hl : l ≤ 1000000) (hK : ∀ w', Keep (fun _ => False) w w' → R (.bool true) w') :
    CallV Tryz.prog 66 #[.agg (repC a b p l c), .agg (repC a b q m d)] w R := by
  apply C_ravelinref19_Same
  unfold F_ravelinref19_Same
  refine alc_fresh fun w1 hb1 k1 z1 => ?_
  refine alc_fresh fun w2 hb2 k2 z2 => ?_
  have hb := k2.has hb1 (by simp)
  have k02 := k1.trans k2
  refine LdV_has (v := .int .i64 a) hb rfl (OpI_int.2 ?_)
  refine LdV_has (v := .int .i64 a) hb2 rfl (OpI_int.2 ?_)
  rw [show (a == a) = true by simp]
  refine (Cb_true (q := _)).2 ?_
  refine LdV_has (v := .int .i64 b) hb rfl (OpI_int.2 ?_)
  refine LdV_has (v := .int .i64 b) hb2 rfl (OpI_int.2 ?_)
  rw [show (b == b) = true by simp]
  refine (Cb_true (q := _)).2 ?_
  refine LdV_has (v := .slice p l c) hb rfl (OpS_slice.2 ?_)
  refine LdV_has (v := .slice q m d) hb2 rfl (OpS_slice.2 ?_)
  exact ref_SameSecs20 (h1.keepB k02 (by simp)) (h2.keepB k02 (by simp)) hok hl fun w3 k3 => OpB_bool.2 (Ret_nil.2 (hK w3 (k02.trans k3)))
def smallG20 (a b c : Int) : Geo := ⟨a % 3 + 4, b % 2 + 1, c % 3 + 1⟩
theorem smallG20_ok {a b c : Int} : GeoOk (smallG20 a b c) := by
  have h1 := Int.emod_nonneg a (show (3 : Int) ≠ 0 by decide)
  have h2 := Int.emod_lt_of_pos a (show (0 : Int) < 3 by decide)
  have h3 := Int.emod_nonneg b (show (2 : Int) ≠ 0 by decide)
  have h4 := Int.emod_lt_of_pos b (show (0 : Int) < 2 by decide)
  have h5 := Int.emod_nonneg c (show (3 : Int) ≠ 0 by decide)
  have h6 := Int.emod_lt_of_pos c (show (0 : Int) < 3 by decide)
  exact ⟨⟨by show 4 ≤ a % 3 + 4; omega, by show a % 3 + 4 ≤ 32; omega⟩, ⟨by show 1 ≤ b % 2 + 1; omega, by show b % 2 + 1 ≤ 8; omega⟩, ⟨by show 1 ≤ c % 3 + 1; omega, by show c % 3 + 1 ≤ 64; omega⟩⟩
theorem w_small20 {a b c : Int} (ha : 0 ≤ a ∧ a ≤ 255) (hb : 0 ≤ b ∧ b ≤ 255) (hc : 0 ≤ c ∧ c ≤ 255) (hK : ∀ w', Keep (fun _ => False) w w' → R (.agg (geoV (smallG20 a b c))) w') : CallV Tryz.prog 65 #[.int .u8 a, .int .u8 b, .int .u8 c] w R := by
  apply C_ravelinlaw20_small
  unfold F_ravelinlaw20_small
  refine alc_fresh fun w1 hb1 k1 z1 => ?_
  refine ⟨by decide, by decide, by decide, ?_⟩
  have h1 := Int.emod_nonneg a (show (3 : Int) ≠ 0 by decide)
  have h2 := Int.emod_lt_of_pos a (show (0 : Int) < 3 by decide)
  have h3 := Int.emod_nonneg b (show (2 : Int) ≠ 0 by decide)
  have h4 := Int.emod_lt_of_pos b (show (0 : Int) < 2 by decide)
  have h5 := Int.emod_nonneg c (show (3 : Int) ≠ 0 by decide)
  have h6 := Int.emod_lt_of_pos c (show (0 : Int) < 3 by decide)
  rw [Int.tmod_eq_emod_of_nonneg ha.1, Int.tmod_eq_emod_of_nonneg hb.1, Int.tmod_eq_emod_of_nonneg hc.1, wrapI (x := a % 3) (by omega) (by omega), wrapI (x := b % 2) (by omega) (by omega), wrapI (x := c % 3) (by omega) (by omega), wrapI (x := a % 3 + 4) (by omega) (by omega), wrapI (x := b % 2 + 1) (by omega) (by omega), wrapI (x := c % 3 + 1) (by omega) (by omega)]
  refine DoQ_of (v := .agg (geoV (smallG20 a b c))) (fun _ => run_build _ _ _ _ (by kernel_rfl)) (OpA_agg.2 ⟨rfl, ?_⟩)
  refine StA_all hb1 rfl (by kernel_rfl) (one_geoV _) ?_
  refine LdA_all (hb1.upd_same _) rfl (Ret_nil.2 (hK _ ?_))
  exact k1.trans' ((Keep.refl (fun k => k = w.heap.size) _).upd (fun _ => rfl) _) fun i hi e => by omega
end calls
/-! ### what the array is, step by step -/
theorem gate_rw {cap init : Int} {c : Cmd} (hk : c.k = 2 ∨ c.k = 3) (h1 : 1 ≤ cntC c) (h2 : cntC c ≤ 4) (h3 : c.lba = 0) (h4 : 4 ≤ cap) (h5 : 0 ≤ init ∧ init < 16) : (gateD dk0 cap init c).2 = false := by
  unfold gateD
  have e : cdE c cap = 0 := by
    unfold cdE
    rw [if_neg (by omega), if_neg (by omega)]
  rw [if_neg (by rw [e]; omega), if_neg (by omega)]
  show (!mayD dk0 init (decide (c.k = 3))) = false
  have : mayD dk0 init (decide (c.k = 3)) = true := by
    unfold mayD
    rw [if_neg (by unfold inD; omega)]
    rfl
  rw [this]; rfl
theorem gate_sync {cap init : Int} {c : Cmd} (hk : c.k = 4) (h5 : 0 ≤ init ∧ init < 16) : (gateD dk0 cap init c).2 = false := by
  unfold gateD
  have e : cdE c cap = 0 := by unfold cdE; rw [if_pos hk]
  rw [if_neg (by rw [e]; omega), if_pos hk]
theorem gate_none {cap init : Int} {c : Cmd} (hk : c.k = 3) (h1 : cntC c < 1) : gateD dk0 cap init c = ((2, 5), true) := by
  unfold gateD
  have e : cdE c cap = 2 := by
    unfold cdE
    rw [if_neg (by omega), if_pos (Or.inl h1)]
  rw [if_pos (by rw [e]; exact Or.inr (Or.inr (by decide)))]
theorem reads_are {q : AB} {s : AS} {fin : Int → Sec} {ep : Int} (h : Qt q s fin ep) {xs : List Sec} (hx : ∀ (i : Nat) x, xs[i]? = some x → fin (i : Int) = x) (hn : (xs.length : Int) ≤ capG20 q.g) : readsA q s 0 xs.length = xs := by
  unfold readsA
  refine List.ext_getElem? fun i => ?_
  rw [List.getElem?_map]
  by_cases hi : i < xs.length
  · rw [List.getElem?_range hi]
    show some (readA q s (0 + (i : Int))).1 = _
    rw [Int.zero_add, h.read (by omega) (by omega), List.getElem?_eq_getElem hi]
    show some (fin (i : Int)) = _
    rw [hx i xs[i] (List.getElem?_eq_getElem hi)]
  · rw [List.getElem?_eq_none (by simp; omega), List.getElem?_eq_none (by omega)]
    rfl
/-- the array once the side stands as it will -/
structure Ready1 (q : AB) (s1 : AS) (m st : Int) : Prop where
  qt : Qt q s1 now0 (epA s1 false)
  es : s1.ps.es = []
  up : ((upS s1.ps false).length : Int) = m
  upf : s1.ps.ua = true
  steps : s1.ps.pw.steps = st
  alone : upA s1 (!false) = false ∨ (livesA s1 (!false) = true ∧ s1.split = false)
  live : livesA s1 false = true
  ep : 0 ≤ epA s1 false
  last : s1.ps.last = 0
  a : (s1.ps.xa.length : Int) ≤ 74
  b : (s1.ps.xb.length : Int) ≤ 74
  d : s1.d = dk0
/-- what stays as it was -/
structure Like (s1 s : AS) : Prop where
  ua : s.ps.ua = s1.ps.ua
  ub : s.ps.ub = s1.ps.ub
  rest : s = { s1 with ds := s.ds, ps := s.ps }
theorem Like.ep {s1 s : AS} (h : Like s1 s) (f : Bool) : epA s f = epA s1 f := by rw [h.rest]; cases f <;> rfl
theorem Like.upA {s1 s : AS} (h : Like s1 s) (f : Bool) : upA s f = upA s1 f := by rw [h.rest]; cases f <;> rfl
theorem Like.lives {s1 s : AS} (h : Like s1 s) (f : Bool) : livesA s f = livesA s1 f := by rw [h.rest]; cases f <;> rfl
theorem Like.split {s1 s : AS} (h : Like s1 s) : s.split = s1.split := by rw [h.rest]
theorem Like.d {s1 s : AS} (h : Like s1 s) : s.d = s1.d := by rw [h.rest]
theorem Like.upS {s1 s : AS} (h : Like s1 s) (f : Bool) : upS s.ps f = upS s1.ps f := by unfold Go.Proofs.upS; rw [h.ua, h.ub]
theorem Like.alone {s1 s : AS} (h : Like s1 s) (ha : Go.Proofs.upA s1 (!false) = false ∨ (livesA s1 (!false) = true ∧ s1.split = false)) : Go.Proofs.upA s (!false) = false ∨ (livesA s (!false) = true ∧ s.split = false) := by
  rw [h.upA, h.lives, h.split]; exact ha
/-- while the sectors are written -/
structure IvW (q : AB) (s1 : AS) (m st : Int) (xs : List Sec) (k : Nat) (s : AS) : Prop where
  qt : ∃ fin, Qt q s fin (epA s1 false) ∧ ∀ (i : Nat) x, i < k → xs[i]? = some x → fin (i : Int) = x
  len : s.ps.es.length = k
  free : ∀ l : Int, (k : Int) ≤ l → mlook s.ps.es l = none
  steps : s.ps.pw.steps = st + (k : Int) * m
  a : (s.ps.xa.length : Int) ≤ 74 + 74 * (k : Int)
  b : (s.ps.xb.length : Int) ≤ 74 + 74 * (k : Int)
  last : s.ps.last = (k : Int)
  like : Like s1 s
/-- while the cache is emptied -/
structure IvS (q : AB) (s1 : AS) (m tot : Int) (xs : List Sec) (s : AS) : Prop where
  qt : ∃ fin, Qt q s fin (epA s1 false) ∧ ∀ (i : Nat) x, xs[i]? = some x → fin (i : Int) = x
  len : s.ps.es.length ≤ 4
  steps : s.ps.pw.steps + (6 * m + 3) * (s.ps.es.length : Int) = tot
  a : (s.ps.xa.length : Int) + 444 * (s.ps.es.length : Int) ≤ 3000
  b : (s.ps.xb.length : Int) + 444 * (s.ps.es.length : Int) ≤ 3000
  last : s.ps.last + (s.ps.es.length : Int) ≤ 8
  like : Like s1 s
theorem room_ok {s : AS} (h1 : (s.ps.xa.length : Int) ≤ 3000) (h2 : (s.ps.xb.length : Int) ≤ 3000) (f : Bool) : 64 ≤ ((65536 : Int) - ((xsA s.ps f).length : Int)) / 37 := by
  cases f
  · show 64 ≤ ((65536 : Int) - (s.ps.xa.length : Int)) / 37; omega
  · show 64 ≤ ((65536 : Int) - (s.ps.xb.length : Int)) / 37; omega
theorem like_refl (s : AS) : Like s s := ⟨rfl, rfl, rfl⟩
theorem ivW_put {q : AB} {s1 s : AS} {m st : Int} {xs : List Sec} {k : Nat} {x : Sec} (hr : Ready1 q s1 m st) (h : IvW q s1 m st xs k s) (hx : xs[k]? = some x) (hxo : SecOk x) (hk : k < 4) (hq : q.pb.room = 8) (hz : q.pb.sz = 65536) (hcap : 4 ≤ capG20 q.g) (hcap2 : capG20 q.g ≤ 100000) (hst : 0 ≤ st ∧ st ≤ 1) (hm : 0 ≤ m ∧ m ≤ 2) :
    (putP q.pb.room q.pb.sz s.ps false (k : Int) x).1.2 = 0 ∧ IvW q s1 m st xs (k + 1) { s with ps := (putP q.pb.room q.pb.sz s.ps false (k : Int) x).2 } := by
  obtain ⟨fin, hqt, hfin⟩ := h.qt
  have hfr := h.free (k : Int) (by omega)
  have hl := h.len
  have hs := h.steps
  have ha := h.a
  have hb := h.b
  have hla := h.last
  have hmm : (k : Int) * m ≤ 4 * 2 := by
    have := Int.mul_le_mul (show (k : Int) ≤ 4 by omega) hm.2 hm.1 (by decide)
    exact this
  have hmm0 : 0 ≤ (k : Int) * m := Int.mul_nonneg (by omega) hm.1
  obtain ⟨p1, p2, p3, p4⟩ := hqt.put (f := false) (lba := (k : Int)) (d := x) hxo (by omega) (by omega) (by show s.ps.ua = true; rw [h.like.ua]; exact hr.upf) (fun _ => by rw [hq, hl]; omega) (by omega) (by omega) (by omega) (by omega) hcap2
  have hu := h.like.upS false
  rw [hu, hr.up] at p3
  refine ⟨p1, ⟨⟨_, p2, fun i y hi hy => ?_⟩, ?_, fun l hl' => ?_, ?_, ?_, ?_, ?_, ⟨?_, ?_, ?_⟩⟩⟩
  · unfold upd
    by_cases he : i = k
    · subst he
      rw [if_pos rfl]
      rw [hx] at hy
      cases hy
      rfl
    · rw [if_neg (by omega)]
      exact hfin i y (by omega) hy
  · show (putP q.pb.room q.pb.sz s.ps false (k : Int) x).2.es.length = k + 1
    rw [p4, look_new hfr]
    simp [hl]
  · show mlook (putP q.pb.room q.pb.sz s.ps false (k : Int) x).2.es l = none
    rw [p4, look_ins, if_neg (by omega)]
    exact h.free l (by omega)
  · rw [p3.steps, hs, Int.natCast_add, Int.add_mul]
    omega
  · have := p3.a
    omega
  · have := p3.b
    omega
  · rw [p3.last, hla]; omega
  · rw [p3.up.1]; exact h.like.ua
  · rw [p3.up.2]; exact h.like.ub
  · have := h.like.rest
    generalize putP q.pb.room q.pb.sz s.ps false (k : Int) x = z at *
    rw [this]
theorem ivS_of {q : AB} {s1 s : AS} {m st : Int} {xs : List Sec} (h : IvW q s1 m st xs xs.length s) (hn : xs.length ≤ 4) : IvS q s1 m (st + (xs.length : Int) * m + (6 * m + 3) * (xs.length : Int)) xs s := by
  obtain ⟨fin, hqt, hfin⟩ := h.qt
  have hl := h.len
  have ha := h.a
  have hb := h.b
  have hla := h.last
  refine ⟨⟨fin, hqt, fun i x hx => hfin i x (List.getElem?_eq_some_iff.1 hx).1 hx⟩, by omega, by rw [h.steps, hl], by rw [hl]; omega, by rw [hl]; omega, by rw [hl]; omega, h.like⟩
theorem del_len {es : List (Int × Ent)} (hn : (es.map (·.1)).Nodup) {p : Int × Ent} (hp : p ∈ es) : (del es p.1).length + 1 = es.length := by
  induction es with
  | nil => cases hp
  | cons e es ih =>
    simp only [List.map_cons, List.nodup_cons] at hn
    unfold del
    rw [List.filter_cons]
    rcases List.mem_cons.1 hp with rfl | h'
    · rw [show (!(p.1 == p.1)) = false by simp]
      have : es.filter (fun r => !(r.1 == p.1)) = es := by
        rw [List.filter_eq_self]
        intro r hr
        have : r.1 ≠ p.1 := fun e => hn.1 (List.mem_map.2 ⟨r, hr, e⟩)
        simpa using this
      rw [if_neg (by decide), this]
      rfl
    · have hne : e.1 ≠ p.1 := fun he => hn.1 (List.mem_map.2 ⟨p, h', he.symm⟩)
      rw [show (!(e.1 == p.1)) = true by simpa using hne, if_pos rfl]
      have := ih hn.2 h'
      unfold del at this
      simp only [List.length_cons]
      omega
theorem ivS_out {q : AB} {s1 s : AS} {m st tot : Int} {xs : List Sec} (hr : Ready1 q s1 m st) (h : IvS q s1 m tot xs s) {p : Int × Ent} (hp : p ∈ s.ps.es) (hz : q.pb.sz = 65536) (hm : 0 ≤ m ∧ m ≤ 2) (htot : tot ≤ 1000) :
    (outA q s false p).1 = 0 ∧ IvS q s1 m tot xs (outA q s false p).2 ∧ (outA q s false p).2.ps.es.length < s.ps.es.length := by
  obtain ⟨fin, hqt, hfin⟩ := h.qt
  have hl := h.len
  have hs := h.steps
  have ha := h.a
  have hb := h.b
  have hla := h.last
  have hnn : 0 ≤ (6 * m + 3) * (s.ps.es.length : Int) := Int.mul_nonneg (by omega) (by omega)
  rw [← h.like.ep false] at hqt
  obtain ⟨p1, p2, p3, p4, p5⟩ := hqt.out hp (by omega) (by omega) (by omega) (by omega)
  have hlt := del_lt hp
  have hone : (del s.ps.es p.1).length + 1 = s.ps.es.length := by
    have h2 := mem_look hqt.nd hp
    have := del_len hqt.nd hp
    omega
  rw [h.like.upS, hr.up] at p3
  have hc1 := p3.steps
  have hc2 := p3.a
  have hc3 := p3.b
  have hc4 := p3.last
  rw [p4]
  refine ⟨p1, ⟨⟨fin, by rw [← h.like.ep false]; exact p2, hfin⟩, ?_, ?_, ?_, ?_, ?_, ⟨by rw [p3.up.1]; exact h.like.ua, by rw [p3.up.2]; exact h.like.ub, ?_⟩⟩, hlt⟩
  · rw [p4]; omega
  · rw [hc1, p4, ← hs, show (s.ps.es.length : Int) = ((del s.ps.es p.1).length : Int) + 1 by omega, Int.mul_add]
    omega
  · rw [p4]; omega
  · rw [p4]; omega
  · rw [p4, hc4]; omega
  · have := h.like.rest
    generalize outA q s false p = z at *
    rw [p5, this]
end Go.Proofs

namespace Go.Proofs
open Go Go.Ev Go.RowKit
set_option linter.unusedSimpArgs false
set_option linter.unusedVariables false
set_option maxRecDepth 100000
theorem qt_new {q : AB} {g : Geo} (hg : GeoOk g) (hqg : q.g = g) : Qt q (arS0 g) now0 0 := by
  refine ⟨by rw [hqg]; exact newS_ok hg pw0, lit0, (show (0 : Int) ≤ 0 by decide), ⟨now0, by rw [hqg]; exact newS_inv hg pw0, now0_ok, fun _ _ => rfl⟩, fun l e h => absurd (show (none : Option Ent) = some e from h) (by simp), List.nodup_nil, (show (0 : Int) ≤ 0 by decide), now0_ok, fun i => Int.le_of_eq (newS_key g pw0 i), newS_dead g pw0, fun i a hi ha => ?_⟩
  rw [hqg] at hi ha
  have := newS_view (pw := pw0) hg hi ha
  intro hx
  have hx : viewS (newS g pw0) i a = none := hx
  rw [this] at hx
  cases hx
def st20 (g : Geo) (lone : Bool) : AS := cond lone (setLiveA (arS0 g) true false) (arS0 g)
theorem start20 {q : AB} {g : Geo} (hg : GeoOk g) (hqg : q.g = g) (hz : q.pb.sz = 65536) (lone : Bool) :
    readyA (st20 g lone) false = true ∧ (st20 g lone).d = dk0 ∧ ∃ s1, s1.d = (st20 g lone).d ∧ Ready1 q s1 (cond lone 1 2) (cond lone 1 0) ∧
      ∀ (w1 : World) (R1 : Value → World → Prop), ArAt w1 q 1 (st20 g lone) → (∀ w2, ArAt w2 q 1 s1 → Keep (ArF q w1) w1 w2 → R1 (.int .i64 0) w2) → CallV Tryz.prog 79 #[.pointer (some ⟨q.a, 0, none⟩), .int .i64 (sideN false)] w1 R1 := by
  have q0 := qt_new hg hqg
  cases lone with
  | false => exact ⟨ready0 g false, rfl, arS0 g, rfl, ⟨q0, rfl, rfl, rfl, rfl, Or.inr ⟨rfl, rfl⟩, rfl, (show (0 : Int) ≤ 0 by decide), rfl, (show (((([] : List Int).length : Nat) : Int)) ≤ 74 by decide), (show (((([] : List Int).length : Nat) : Int)) ≤ 74 by decide), rfl⟩, alone_none false (Or.inr ⟨rfl, rfl⟩)⟩
  | true =>
    have q1 : Qt q (st20 g true) now0 (epA (st20 g true) false) := ⟨q0.ss, q0.lit, q0.stp, q0.now, q0.es, q0.nd, q0.last, q0.fok, q0.key, q0.alive, q0.view⟩
    have hA := q1.alone rfl rfl (show (0 : Int) ≤ 0 by decide) (show (0 : Int) < 1000000 by decide) (show (0 : Int) < 10000000000 by decide) (by rw [hz]; show (100 : Int) ≤ 65536 - ((([] : List Int).length : Nat) : Int); decide) (by rw [hz]; show (100 : Int) ≤ 65536 - ((([] : List Int).length : Nat) : Int); decide)
    obtain ⟨a1, a2, a3, a4, a5, a6, a7, a8, a9, a10, a11, a12⟩ := hA
    have hua : (aloneA q (st20 g true) false).2.ps.ua = true := by
      cases hh : (aloneA q (st20 g true) false).2.ps.ua with
      | true => rfl
      | false =>
        unfold upS at a5
        rw [hh] at a5
        cases hb : (aloneA q (st20 g true) false).2.ps.ub <;> rw [hb] at a5 <;> simp at a5
    have hup : ((upS (aloneA q (st20 g true) false).2.ps false).length : Int) = 1 := by rw [a5]; rfl
    have hkey : keyS (st20 g true).ss = 0 := keyS_new g pw0
    refine ⟨q1.ready rfl (show (0 : Int) ≤ 0 by decide), rfl, (aloneA q (st20 g true) false).2, a8, ⟨a2, a4, hup, hua, a3, Or.inl a6, by rw [a9]; rfl, a10, a7, Int.le_trans a11 (show (((([] : List Int).length : Nat) : Int)) + 74 ≤ 74 by decide), Int.le_trans a12 (show (((([] : List Int).length : Nat) : Int)) + 74 ≤ 74 by decide), a8⟩, fun w1 R1 h1 hh => ?_⟩
    refine ar_alone1 h1 q1.ss.ok false rfl (fun h => by cases h.1) (show (0 : Int) ≤ 0 ∧ (0 : Int) ≤ 4294967295 by decide) (by rw [hkey]; decide) (fun f _ => by rw [hz]; exact room_ok (s := st20 g true) (show (((([] : List Int).length : Nat) : Int)) ≤ 3000 by decide) (show (((([] : List Int).length : Nat) : Int)) ≤ 3000 by decide) f) fun w2 h2 k2 => ?_
    have := hh w2 h2 k2
    rw [a1]
    exact this
section calls
variable {w : World} {R : Value → World → Prop}
theorem own_arF {w w' : World} {q : AB} {lk : Int} {s : AS} (h : ArAt w q lk s) (k : Keep (ArF q w) w w') {b : Nat} {p : Option Addr} {l c : Nat} {xs : List Sec} (o : OwnL secLay w b 37 p l c xs) : OwnL secLay w' b 37 p l c xs :=
  o.keep k fun b hb => by
    obtain ⟨_, cur, hh⟩ := own_has o b 0 hb
    exact ArF.not h hh (by decide) (by decide) (by decide) (by decide) (by decide) (by decide) (by decide)
theorem rep_arF {w w' : World} {q : AB} {lk : Int} {s : AS} (h : ArAt w q lk s) (k : Keep (ArF q w) w w') {b : Nat} {cs : Array Value} (hb : Has w b (.cells cs 34 (0, 0))) : Has w' b (.cells cs 34 (0, 0)) :=
  k.has hb (ArF.not h hb (by decide) (by decide) (by decide) (by decide) (by decide) (by decide) (by decide))
theorem steps20 {x y z : Int} {lp : Option Addr} {ll lc : Nat} {xs : List Sec} {lone : Bool} (hx : 0 ≤ x ∧ x ≤ 255) (hy : 0 ≤ y ∧ y ≤ 255) (hz : 0 ≤ z ∧ z ≤ 255) (hxs : SlL secLay w lp ll xs) (hok : ∀ f ∈ xs, SecOk f) (hll : ll ≤ 1048576)
    (hK : ∀ w', Keep (fun _ => False) w w' → R (.bool true) w') : CallV Tryz.prog 9 #[.int .u8 x, .int .u8 y, .int .u8 z, .slice lp ll lc, .bool lone] w R := by
  apply C_ravelinlaw20_ArraySteps
  unfold F_ravelinlaw20_ArraySteps
  obtain rfl : ll = xs.length := hxs.1
  refine w_small20 hx hy hz fun w1 k1 => OpA_agg.2 ⟨rfl, ?_⟩
  refine copy_of (by kernel_rfl) rfl (one_geoV _) fun w2 hb2 k2 z2 => ?_
  refine LdV_has (v := .int .i64 (smallG20 x y z).s) hb2 rfl (OpI_int.2 ?_)
  have hg0 := smallG20_ok (a := x) (b := y) (c := z)
  have hs0 := hg0.s
  have hs3 : (smallG20 x y z).s ≤ 3 := by
    have := Int.emod_lt_of_pos z (show (0 : Int) < 3 by decide)
    show z % 3 + 1 ≤ 3
    omega
  rw [wrapI (by omega) (by omega)]
  refine StV_of hb2 (by show 2 < 3; decide) rfl ?_
  have hset : (geoV (smallG20 x y z)).setIfInBounds 2 (.int .i64 ((smallG20 x y z).s + 1)) = geoV ⟨(smallG20 x y z).d, (smallG20 x y z).c, (smallG20 x y z).s + 1⟩ := rfl
  rw [hset]
  have hg : GeoOk ⟨(smallG20 x y z).d, (smallG20 x y z).c, (smallG20 x y z).s + 1⟩ := ⟨hg0.d, hg0.c, ⟨by show 1 ≤ (smallG20 x y z).s + 1; omega, by show (smallG20 x y z).s + 1 ≤ 64; omega⟩⟩
  have hsg : 2 ≤ (⟨(smallG20 x y z).d, (smallG20 x y z).c, (smallG20 x y z).s + 1⟩ : Geo).s := by show 2 ≤ (smallG20 x y z).s + 1; omega
  have hb3 := hb2.upd_same (.cells (geoV ⟨(smallG20 x y z).d, (smallG20 x y z).c, (smallG20 x y z).s + 1⟩) 24 (0, 0))
  have k03 : Keep (fun _ => False) w (w2.upd w1.heap.size (.cells (geoV ⟨(smallG20 x y z).d, (smallG20 x y z).c, (smallG20 x y z).s + 1⟩) 24 (0, 0))) := (k1.trans k2).upd (fun hi => absurd hi (by have := k1.size; omega)) _
  generalize (⟨(smallG20 x y z).d, (smallG20 x y z).c, (smallG20 x y z).s + 1⟩ : Geo) = g at *
  generalize w2.upd w1.heap.size (.cells (geoV g) 24 (0, 0)) = w3 at *
  clear hb2 k1 k2 hset
  have hcap : 4 ≤ capG20 g := by
    have h1 := hg.d
    have h2 := hg.c
    unfold capG20
    have a1 : 2 ≤ (g.d - 2) * g.c := by
      have := Int.mul_le_mul (show 2 ≤ g.d - 2 by omega) h2.1 (by decide) (by omega)
      omega
    have := Int.mul_le_mul a1 hsg (by decide) (by omega)
    omega
  have hcap2 : capG20 g ≤ 100000 := by have := hg.cap; unfold capG20; omega
  refine LdA_all hb3 rfl ?_
  refine ar_New hg (by decide) (by decide) fun q w4 hqg hqr hqs h4 hf k4 => T2_mk.2 (OpN_some.2 (OpI_int.2 ?_))
  have k04 := k03.trans k4
  have hlow : w.heap.size ≤ w3.heap.size := k03.size
  have lowK : ∀ {wa wb : World}, Keep (fun _ => False) w wa → Keep (ArF q wa) wa wb → Keep (fun _ => False) w wb := fun ka kb => ka.trans' kb fun i hi e => by have := ArF.low hf e; omega
  clear hb3 k4
  refine w_awake20 fun w5 k5 => OpB_bool.2 ⟨rfl, rfl, rfl, rfl, (Cb_false (p := _)).2 ?_⟩
  have h5 := h4.keep0 k5
  have k05 := k04.trans k5
  clear h4 k04 k5
  refine Cb_of (fun hc => ?_) (fun hc => ?_)
  · rw [hc]
    exact Ret_nil.2 (hK w5 k05)
  have hn : xs.length ≤ 4 := by simp at hc; omega
  obtain ⟨hrd0, hd0, s1, hd1, hr1, hal⟩ := start20 hg hqg hqs lone
  refine ⟨fun st w' => st.1 = cond lone ((xs.length : Int) + 1) (2 * (xs.length : Int)) ∧ ArAt w' q 0 (st20 g lone) ∧ Keep (fun _ => False) w w', ?_, ?_⟩
  · cases lone with
    | true =>
      refine (Cb_true (q := _)).2 ?_
      refine ar_Crash0 h5 true rfl rfl fun w6 h6 k6 => OpI_int.2 ((Cb_false (p := _)).2 ⟨?_, h6, lowK k05 k6⟩)
      exact wrapI (by omega) (by omega)
    | false => exact (Cb_false (p := _)).2 ⟨wrapI (by omega) (by omega), h5, k05⟩
  clear h5 k05
  rintro _ ⟨want, u⟩ w6 ⟨hw, h6, k06⟩
  simp only at hw ⊢
  generalize hs0e : st20 g lone = s0 at *
  refine DoQ_of (v := .agg (cmdC ⟨3, 0, 0, lp, xs.length, lc, 0, 0, false⟩)) (fun _ => run_build _ _ _ _ (by kernel_rfl)) (OpA_agg.2 ⟨rfl, ?_⟩)
  by_cases hn0 : xs.length = 0
  · have hgt : gateD s0.d ((q.g.d - 2) * q.g.c * q.g.s) 3 ⟨3, 0, 0, lp, xs.length, lc, 0, 0, false⟩ = ((2, 5), true) := by rw [hd0]; exact gate_none rfl (by show (xs.length : Int) < 1; omega)
    refine ar_DoOpen (c := ⟨3, 0, 0, lp, xs.length, lc, 0, 0, false⟩) h6 false (Or.inr (Or.inl rfl)) hrd0 hd1 hal (fun ht w7 h7 k7 => ?_) (fun hf => by rw [hgt] at hf; cases hf)
    rw [hgt]
    refine OpA_agg.2 ⟨rfl, ?_⟩
    refine copy_of (by rw [zc_rep]; rfl) rfl (one_repC _ _ _ _ _) fun w8 hb8 k8 z8 => ?_
    rw [show (((xs.length : Nat) : Int) == 0) = true by simpa using hn0]
    refine (Cb_true (q := _)).2 (LdV_has (v := .int .i64 2) hb8 rfl (OpI_int.2 ((Cb_true (q := _)).2 (LdV_has (v := .int .i64 5) hb8 rfl (OpI_int.2 (Ret_nil.2 ?_))))))
    exact hK w8 ((lowK k06 k7).trans k8)
  have hm : (0 : Int) ≤ cond lone 1 2 ∧ (cond lone 1 2 : Int) ≤ 2 := by cases lone <;> decide
  have hst : (0 : Int) ≤ cond lone 1 0 ∧ (cond lone 1 0 : Int) ≤ 1 := by cases lone <;> decide
  have hwant : want = (cond lone 1 0 : Int) + (xs.length : Int) * cond lone 1 2 := by
    rw [hw]
    cases lone
    · show 2 * (xs.length : Int) = 0 + (xs.length : Int) * 2; omega
    · show (xs.length : Int) + 1 = 1 + (xs.length : Int) * 1; omega
  have hcapq : 4 ≤ capG20 q.g := by rw [hqg]; exact hcap
  have hcapq2 : capG20 q.g ≤ 100000 := by rw [hqg]; exact hcap2
  refine ar_DoWrite (c := ⟨3, 0, 0, lp, xs.length, lc, 0, 0, false⟩) (xs := xs) h6 false rfl hrd0 hd1 hal (by rw [hd0]; exact gate_rw (Or.inr rfl) (by show 1 ≤ (xs.length : Int); omega) (by show (xs.length : Int) ≤ 4; omega) rfl hcapq (by decide)) rfl (fun w' k' => hxs.keepB (lowK k06 k') (by simp))
    (IvW q s1 (cond lone 1 2) (cond lone 1 0) xs) (fun _ => False) ?_ ?_ ?_ (fun _ _ h => h.elim)
  · exact ⟨⟨now0, hr1.qt, fun i x hi => absurd hi (by omega)⟩, by rw [hr1.es]; rfl, fun l _ => by rw [hr1.es]; rfl, by rw [hr1.steps]; simp, by have := hr1.a; omega, by have := hr1.b; omega, hr1.last, like_refl _⟩
  · intro k x s w7 R1 hxk hiv h7 hh
    have hk : k < 4 := by have := (List.getElem?_eq_some_iff.1 hxk).1; omega
    have e0 : (Cmd.mk 3 0 0 lp xs.length lc 0 0 false).lba + (k : Int) = (k : Int) := Int.zero_add _
    rw [e0]
    obtain ⟨p1, p2⟩ := ivW_put hr1 hiv hxk (hok x (List.mem_of_getElem? hxk)) hk hqr hqs hcapq hcapq2 hst hm
    have ha := hiv.a
    have hb := hiv.b
    refine ar_put0 h7 false (Or.inr (by rw [hqr, hiv.len]; omega)) (fun f _ => by rw [hqs]; exact room_ok (by omega) (by omega) f) fun w8 h8 k8 => ?_
    exact hh _ _ w8 h8 (k8.mono fun i e => PFoot.arF e) (Or.inl ⟨p1, p2⟩)
  intro s2 w7 hiv h7 k7
  have k07 := lowK k06 k7
  clear h6 k06 k7
  refine OpA_agg.2 ⟨rfl, ?_⟩
  refine copy_of (by rw [zc_rep]; rfl) rfl (one_repC _ _ _ _ _) fun w8 hb8 k8 z8 => ?_
  have h8 := h7.keep0 k8
  have k08 := k07.trans k8
  clear h7 k07 k8
  rw [show (((xs.length : Nat) : Int) == 0) = false by simpa using hn0]
  refine (Cb_false (p := _)).2 (LdV_has (v := .int .i64 1) hb8 rfl (OpI_int.2 ((Cb_false (p := _)).2 ?_)))
  have hsteps : s2.ps.pw.steps = want := by rw [hiv.steps, hwant]
  refine ar_Steps h8 (OpI_int.2 ?_)
  rw [hsteps, show (want != want) = false by simp]
  refine (Cb_false (p := _)).2 (ar_Dirty h8 (OpI_int.2 ?_))
  rw [hiv.len, show (((xs.length : Nat) : Int) != ((xs.length : Nat) : Int)) = false by simp]
  refine (Cb_false (p := _)).2 ?_
  refine DoQ_of (v := .agg (cmdC ⟨2, 0, (xs.length : Int), none, 0, 0, 0, 0, false⟩)) (fun _ => run_build _ _ _ _ (by kernel_rfl)) (OpA_agg.2 ⟨rfl, ?_⟩)
  obtain ⟨fin, hqt, hfin⟩ := hiv.qt
  have hqt2 := hqt
  rw [← hiv.like.ep false] at hqt2
  have hgr : ∀ {s : AS}, Like s1 s → (gateD s.d ((q.g.d - 2) * q.g.c * q.g.s) 3 ⟨2, 0, (xs.length : Int), none, 0, 0, 0, 0, false⟩).2 = false := fun hl => by
    rw [hl.d, hr1.d]
    exact gate_rw (Or.inl rfl) (by show 1 ≤ (xs.length : Int); omega) (by show (xs.length : Int) ≤ 4; omega) rfl hcapq (by decide)
  have hgood : ∀ {s : AS} {fin : Int → Sec} {ep : Int}, Qt q s fin ep → ∀ k : Nat, (k : Int) < (Cmd.mk 2 0 (xs.length : Int) none 0 0 0 0 false).n → (readA q s ((Cmd.mk 2 0 (xs.length : Int) none 0 0 0 0 false).lba + (k : Int))).2 = 0 := fun hq k hk => by
    have hk : (k : Int) < (xs.length : Int) := hk
    show (readA q _ (0 + (k : Int))).2 = 0
    rw [Int.zero_add, hq.read (by omega) (by omega)]
  have hne : (Cmd.mk 2 0 (xs.length : Int) none 0 0 0 0 false).n.toNat = xs.length := Int.toNat_natCast _
  refine ar_DoRead (c := ⟨2, 0, (xs.length : Int), none, 0, 0, 0, 0, false⟩) h8 false rfl (hqt2.ready (by rw [hiv.like.lives]; exact hr1.live) (by rw [hiv.like.ep]; exact hr1.ep)) rfl (alone_none false (hiv.like.alone hr1.alone)) (hgr hiv.like) hqt.ss.ok (hgood hqt) fun p cc w9 h9 k9 o9 => ?_
  rw [hne] at o9 ⊢
  have o9 : OwnL secLay w9 w8.heap.size 37 p xs.length cc (readsA q s2 0 xs.length) := o9
  rw [reads_are hqt (fun i x hix => hfin i x (List.getElem?_eq_some_iff.1 hix).1 hix) (by omega)] at o9
  have k09 := lowK k08 k9
  clear h8 k08 k9 hb8
  refine OpA_agg.2 ⟨rfl, ?_⟩
  refine copy_of (by rw [zc_rep]; rfl) rfl (one_repC _ _ _ _ _) fun w10 hb10 k10 z10 => ?_
  have h10 := h9.keep0 k10
  have k010 := k09.trans k10
  have o10 := o9.keep k10 (by simp)
  clear h9 k09 k10 o9
  refine ar_Steps h10 (OpI_int.2 ?_)
  rw [hsteps, show (want != want) = false by simp]
  refine (Cb_false (p := _)).2 ?_
  refine DoQ_of (v := .agg (cmdC ⟨4, 0, 0, none, 0, 0, 0, 0, false⟩)) (fun _ => run_build _ _ _ _ (by kernel_rfl)) (OpA_agg.2 ⟨rfl, ?_⟩)
  generalize htot : (cond lone 1 0 : Int) + (xs.length : Int) * cond lone 1 2 + (6 * cond lone 1 2 + 3) * (xs.length : Int) = tot
  have htl : tot ≤ 1000 := by
    rw [← htot]
    cases lone
    · show (0 : Int) + (xs.length : Int) * 2 + (6 * 2 + 3) * (xs.length : Int) ≤ 1000; omega
    · show (1 : Int) + (xs.length : Int) * 1 + (6 * 1 + 3) * (xs.length : Int) ≤ 1000; omega
  have hivs := ivS_of hiv hn
  rw [htot] at hivs
  refine ar_DoSync (c := ⟨4, 0, 0, none, 0, 0, 0, 0, false⟩) h10 false rfl (hqt2.ready (by rw [hiv.like.lives]; exact hr1.live) (by rw [hiv.like.ep]; exact hr1.ep)) rfl (alone_none false (hiv.like.alone hr1.alone)) (by rw [hiv.like.d, hr1.d]; exact gate_sync rfl (by decide)) (IvS q s1 (cond lone 1 2) tot xs) (fun _ => False) hivs ?_ ?_ (fun _ _ h => h.elim)
  · intro s w11 R1 hiv2 hne2 h11 hh
    obtain ⟨fin2, hq2, _⟩ := hiv2.qt
    have hl := hiv2.len
    have ha := hiv2.a
    have hb := hiv2.b
    refine ar_out0 h11 hq2.ss.ok false (by omega) hne2 (fun e he => ?_) (fun f _ => by rw [hqs]; exact room_ok (by omega) (by omega) f) fun p w12 hp _ h12 k12 => ?_
    · obtain ⟨e1, e2, _⟩ := hq2.es e.1 e.2 (mem_look hq2.nd he)
      exact ⟨e1.1, e1.2, by rw [e2]; exact hq2.fok _⟩
    · obtain ⟨p1, p2, p3⟩ := ivS_out hr1 hiv2 hp hqs hm htl
      exact hh _ _ w12 h12 k12 (Or.inl ⟨p1, p2, p3⟩)
  intro s3 w11 hiv3 hes3 h11 k11
  have k011 := lowK k010 k11
  have hb11 := rep_arF h10 k11 hb10
  have o11 := own_arF h10 k11 o10
  clear h10 k010 k11 hb10 o10
  refine OpA_agg.2 ⟨rfl, ?_⟩
  refine ⟨.int .i64 1, rfl, OpI_int.2 ((Cb_false (p := _)).2 ?_)⟩
  refine ar_Dirty h11 (OpI_int.2 ?_)
  rw [hes3]
  refine (Cb_false (p := _)).2 ?_
  refine ⟨fun st w' => st.1 = (cond lone 9 15 : Int) ∧ w' = w11, by cases lone <;> exact ⟨rfl, rfl⟩, ?_⟩
  rintro _ ⟨one, u2⟩ w12 ⟨hone, rfl⟩
  simp only at hone ⊢
  refine DoQ_of (v := .agg (cmdC ⟨2, 0, (xs.length : Int), none, 0, 0, 0, 0, false⟩)) (fun _ => run_build _ _ _ _ (by kernel_rfl)) (OpA_agg.2 ⟨rfl, ?_⟩)
  obtain ⟨fin3, hqt3, hfin3⟩ := hiv3.qt
  have hqt4 := hqt3
  rw [← hiv3.like.ep false] at hqt4
  refine ar_DoRead (c := ⟨2, 0, (xs.length : Int), none, 0, 0, 0, 0, false⟩) h11 false rfl (hqt4.ready (by rw [hiv3.like.lives]; exact hr1.live) (by rw [hiv3.like.ep]; exact hr1.ep)) rfl (alone_none false (hiv3.like.alone hr1.alone)) (hgr hiv3.like) hqt3.ss.ok (hgood hqt3) fun p' cc' w13 h13 k13 o13 => ?_
  rw [hne] at o13 ⊢
  have o13 : OwnL secLay w13 w12.heap.size 37 p' xs.length cc' (readsA q s3 0 xs.length) := o13
  rw [reads_are hqt3 hfin3 (by omega)] at o13
  have k013 := lowK k011 k13
  have hb13 := rep_arF h11 k13 hb11
  have o11' := own_arF h11 k13 o11
  clear h11 k011 k13 hb11 o11
  refine OpA_agg.2 ⟨rfl, ?_⟩
  refine copy_of (by rw [zc_rep]; rfl) rfl (one_repC _ _ _ _ _) fun w14 hb14 k14 z14 => ?_
  intro d
  have k14 := k14.dr d
  have h14 := h13.keep0 k14
  have k014 := k013.trans k14
  have hb14' := k14.has hb13 (by simp)
  have oA := o11'.keep k14 (by simp)
  have oB := o13.keep k14 (by simp)
  have hb14 : Has (w14.dr d) w13.heap.size _ := hb14
  clear h13 k013 k14 hb13 o11' o13
  generalize w14.dr d = w15 at *
  refine ⟨fun w' => Has w' w9.heap.size (.cells (repC 1 0 p xs.length cc) 34 (0, 0)), hb14', ?_⟩
  refine ar_Steps h14 (OpI_int.2 ⟨hb14', ?_⟩)
  have hfinal : s3.ps.pw.steps = IntKind.wrap .i64 (want + IntKind.wrap .i64 (one * ((xs.length : Nat) : Int))) := by
    have h3 := hiv3.steps
    rw [hes3] at h3
    have h3 : s3.ps.pw.steps + (6 * cond lone 1 2 + 3) * (0 : Int) = tot := h3
    rw [Int.mul_zero, Int.add_zero] at h3
    rw [h3, ← htot, hwant, hone]
    cases lone
    · show (0 : Int) + (xs.length : Int) * 2 + (6 * 2 + 3) * (xs.length : Int) = IntKind.wrap .i64 ((0 : Int) + (xs.length : Int) * 2 + IntKind.wrap .i64 (15 * (xs.length : Int)))
      rw [wrapI (x := 15 * (xs.length : Int)) (by omega) (by omega), wrapI (by omega) (by omega)]
      omega
    · show (1 : Int) + (xs.length : Int) * 1 + (6 * 1 + 3) * (xs.length : Int) = IntKind.wrap .i64 ((1 : Int) + (xs.length : Int) * 1 + IntKind.wrap .i64 (9 * (xs.length : Int)))
      rw [wrapI (x := 9 * (xs.length : Int)) (by omega) (by omega), wrapI (by omega) (by omega)]
      omega
  rw [← hfinal, show (s3.ps.pw.steps == s3.ps.pw.steps) = true by simp]
  refine (Cb_true (q := _)).2 ?_
  refine LdV_of (v := .int .i64 1) (fun w' hw => ⟨_, _, _, hw, rfl⟩) (OpI_int.2 ((Cb_true (q := _)).2 ?_))
  refine LdA_all hb14' rfl ?_
  refine LdA_all hb14 rfl ?_
  refine ref_Same20 oA.sl oB.sl hok (by omega) fun w16 k16 => OpB_bool.2 ⟨k16.has hb14' (by simp), (Cb_true (q := _)).2 ?_⟩
  have hb16 := k16.has hb14' (by simp)
  have k016 := k014.trans k16
  refine LdV_has (v := .slice p xs.length cc) hb16 rfl (OpS_slice.2 ?_)
  rw [show (((xs.length : Nat) : Int) == ((xs.length : Nat) : Int)) = true by simp]
  refine (Cb_true (q := _)).2 (LdV_has (v := .slice p xs.length cc) hb16 rfl (OpS_slice.2 ?_))
  rw [wrapI (by omega) (by omega)]
  obtain ⟨v, hv⟩ : ∃ v, xs[(((xs.length : Nat) : Int) - 1).toNat]? = some v := ⟨_, List.getElem?_eq_getElem (show (((xs.length : Nat) : Int) - 1).toNat < xs.length by omega)⟩
  have hvo := hok v (List.mem_of_getElem? hv)
  have ev : (secLay.row v).toArray = secV v := by simp [secLay]
  refine (oA.keep k16 (by simp)).ldA (x := v) rfl (by omega) hv ?_
  rw [ev]
  refine (hxs.keepB k016 (by simp)).ldA (x := v) rfl (by omega) hv ?_
  rw [ev]
  refine EqB_sec hvo hvo fun r hr => ?_
  rw [hr.2 rfl]
  exact Ret_nil.2 (hK w16 k016)
theorem steps_walk20 {W : World} {x y z : Int} {lp : Option Addr} {ll lc : Nat} {xs : List Sec} {lone : Bool} (hx : 0 ≤ x ∧ x ≤ 255) (hy : 0 ≤ y ∧ y ≤ 255) (hz : 0 ≤ z ∧ z ≤ 255) (hxs : SlL secLay W lp ll xs) (hok : ∀ f ∈ xs, SecOk f) (hll : ll ≤ 1048576) :
    CallV Tryz.prog 9 #[.int .u8 x, .int .u8 y, .int .u8 z, .slice lp ll lc, .bool lone] W fun v w' => v = .bool true ∧ Below W.heap.size W w' := steps20 hx hy hz hxs hok hll fun w' k => ⟨rfl, k.below⟩
end calls
end Go.Proofs

namespace Go.Proofs.YthhimblbnnafkaaGreat.arraySteps
open Go Go.Ev Go.RowKit Go.Proofs Go.ChangeShapes Go.WideShapes Go.ChangeAt
set_option linter.unusedVariables false
set_option maxRecDepth 100000
theorem own : ownKnob Tryz.prog.godebug = none := by kernel_rfl

theorem contract (H : Type) (enc : TypeId × Value → H) (W : World) (base : Nat) (args : Array Value) (ds gs : List (DataW H)) (before : List MemPlace) (hk : Rows.uptoSmall H (ds ++ gs) = true)
    (hval : ∀ (j : Nat) t v, Tryz.f9.params[j]? = some t → args[j]? = some v → Value.okWide Tryz.prog W .any base t v)
    (hW : DataW.Whole enc Tryz.prog Tryz.f9.params.toList Rows.arrayStepsSpec.vars false W args.toList ds gs before) :
    Calls Tryz.prog 9 args W fun e W' => ∃ v, e = .returned v ∧ Rows.arrayStepsSpec.post enc Tryz.prog Tryz.f9 false true false false W args v W' := by
  have hW' := hW
  obtain ⟨p, q, hA0, hV, rfl, hfz, hnd⟩ := hW
  have hA : DataW.TrodAll enc Tryz.prog W 0 (fun _ => true) true Tryz.f9.params.toList args.toList ds p := hA0
  rw [Tryz.params9] at hA hval
  obtain ⟨v0, vs0, d0, ds0, pp0, q0, hargs, rfl, rfl, h0, r0⟩ := trodAll_cons hA
  obtain ⟨v1, vs1, d1, ds1, pp1, q1, rfl, rfl, rfl, h1, r1⟩ := trodAll_cons r0
  obtain ⟨v2, vs2, d2, ds2, pp2, q2, rfl, rfl, rfl, h2, r2⟩ := trodAll_cons r1
  obtain ⟨v3, vs3, d3, ds3, pp3, q3, rfl, rfl, rfl, h3, r3⟩ := trodAll_cons r2
  obtain ⟨v4, vs4, d4, ds4, pp4, q4, rfl, rfl, rfl, h4, r4⟩ := trodAll_cons r3
  obtain ⟨rfl, rfl, rfl⟩ := trodAll_nil r4
  obtain rfl : args = #[v0, v1, v2, v3, v4] := by cases args; simp_all
  obtain ⟨a0, rfl, rfl, rfl, w0⟩ := open_int (t := 5) (k := .u8) (by kernel_rfl) (hval 0 5 v0 rfl rfl) h0
  obtain ⟨a1, rfl, rfl, rfl, w1⟩ := open_int (t := 5) (k := .u8) (by kernel_rfl) (hval 1 5 v1 rfl rfl) h1
  obtain ⟨a2, rfl, rfl, rfl, w2⟩ := open_int (t := 5) (k := .u8) (by kernel_rfl) (hval 2 5 v2 rfl rfl) h2
  obtain ⟨p3, l3, c3, g3, rfl, lc3, cm3, s3, f3, b3⟩ := sl_openB (t := 32) (e := 37) (ks := (List.replicate 16 (.int .u8))) (by kernel_rfl) (by kernel_rfl) (by kernel_rfl) (by decide) (hval 3 32 v3 rfl rfl) h3
  have hb3 := small_mem hk (d := d3) (by simp)
  obtain ⟨a4, rfl, rfl, rfl⟩ := open_bool (t := 4) (by kernel_rfl) (hval 4 4 v4 rfl rfl) h4
  refine Calls.mono (have r := fun (x : Int) (h : (Lit.wf (.int .u8 x)) = true) => (show 0 ≤ x ∧ x ≤ 255 by simp [Lit.wf, IntKind.min, IntKind.max, IntKind.signed, IntKind.bits] at h; omega); have ⟨fs, hfs, hfo⟩ := secs_list s3 f3; steps_walk20 (lc := c3) (r _ w0) (r _ w1) (r _ w2) hfs hfo (by omega)) fun e W' ⟨v, he, hv, hg⟩ => ?_
  subst he hv
  exact ⟨_, rfl, post_below hW' (by kernel_rfl) rfl (by kernel_rfl) rfl rfl (by decide +kernel) hg⟩

theorem lifted (os : Os) (started : os.Started) (H : Type) (enc : TypeId × Value → H) (F : Stop.Interp) :
    ReturnsInHanded {} Tryz.checked os 9 .any ((Rows.OpenSpec.upto Rows.arrayStepsSpec).pre6 enc Tryz.prog Tryz.f9 Rows.arrayStepsUptoRow.domain false) (((Rows.OpenSpec.upto Rows.arrayStepsSpec).at F).post enc Tryz.prog Tryz.f9 false true false false) := by
  refine returnsInHanded_of_cond (C := Tryz.checked) (s := Rows.OpenSpec.upto Rows.arrayStepsSpec) (k := Rows.uptoSmall) rfl own started (by kernel_rfl) Tryz.func9
    (OpenSpec.witness (enc := enc) (C := Tryz.checked) (s := Rows.OpenSpec.upto Rows.arrayStepsSpec) (k := Rows.uptoSmall) rfl false ⟨#[], #[.int .u8 0, .int .u8 0, .int .u8 0, .slice none 0 0, .bool false], []⟩ 8 (by kernel_rfl) (by kernel_rfl) (by kernel_rfl)
      (x := ([.lit (.int .u8 0), .lit (.int .u8 0), .lit (.int .u8 0), .nil, .lit (.bool false)], [], [])) (by kernel_rfl) rfl (by kernel_rfl)) ?_
  intro W base args ds gs before hval hW _ hk _
  exact contract H enc W base args ds gs before hk hval hW

theorem t1 : (Rows.arrayStepsUptoRow.inPlace == Tryz.prog.inPlace 9) = true := by kernel_rfl
theorem t2 : (Rows.arrayStepsUptoRow.unfollowed == Tryz.prog.unfollowed 9) = true := by kernel_rfl
theorem t4 : (Rows.arrayStepsUptoRow.named == Tryz.prog.varsNamed 9) = true := by kernel_rfl
theorem r1 : Tryz.prog.unfollowed 9 = true := by kernel_rfl
theorem t3 : (Rows.arrayStepsUptoRow.recurses == Tryz.prog.recurses 9) = true := by
  have : Tryz.prog.recurses 9 = true := by unfold Program.recurses; rw [r1]; rfl
  rw [this]; rfl
theorem closed : joinedFacts Tryz.pinned.checked.prog 9 Tryz.f9 (Rows.OpenSpec.upto Rows.arrayStepsSpec).bare Rows.arrayStepsUptoRow = true := by
  unfold joinedFacts
  simp only [Bool.and_eq_true]
  refine ⟨⟨⟨⟨⟨⟨⟨⟨⟨⟨⟨⟨⟨⟨⟨⟨⟨⟨⟨⟨⟨⟨⟨⟨⟨⟨⟨⟨⟨⟨⟨?_, ?_⟩, ?_⟩, ?_⟩, ?_⟩, ?_⟩, ?_⟩, ?_⟩, ?_⟩, t1⟩, t2⟩, t3⟩, t4⟩, ?_⟩, ?_⟩, ?_⟩, ?_⟩, ?_⟩, ?_⟩, ?_⟩, ?_⟩, ?_⟩, ?_⟩, ?_⟩, ?_⟩, ?_⟩, ?_⟩, ?_⟩, ?_⟩, ?_⟩, ?_⟩, ?_⟩
  all_goals kernel_rfl
theorem over : Rows.arrayStepsUptoRow.holds Tryz.pinned (Rows.OpenSpec.upto Rows.arrayStepsSpec) :=
  OpenClaim.holds_of_cond 9 Tryz.f9 rfl rfl rfl rfl rfl rfl rfl ⟨rfl, rfl, rfl, rfl, rfl⟩ rfl rfl rfl rfl rfl (by kernel_rfl) Tryz.func9 closed
    (of_decide_eq_true (by kernel_rfl)) (by unfold Func.isWrapper; first | (rw [if_pos (by decide +kernel)]; kernel_rfl) | (rw [if_neg (by decide +kernel)]; exact ⟨rfl, rfl⟩))
    (fun os started H enc _ F => lifted os started H enc F)

theorem proved : Rows.ArrayStepsUptoSaid :=
  over
end Go.Proofs.YthhimblbnnafkaaGreat.arraySteps

