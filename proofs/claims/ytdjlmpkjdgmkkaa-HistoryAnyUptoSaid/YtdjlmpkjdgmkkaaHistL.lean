/-
  HistoryChecks, the walk: the document's Orderly, the fixed fact, the law.
-/
import Derived.Test.YtdjlmpkjdgmkkaaRef21c
import Derived.Test.YtdjlmpkjdgmkkaaFLaw21
namespace Go.Proofs
open Go Go.Ev Go.RowKit
set_option linter.unusedSimpArgs false
set_option linter.unusedVariables false
set_option maxRecDepth 100000

section
variable {evs : List Evt} {start : Sec} {w : World} {p : Option Addr} {l c : Nat} {R : Value → World → Prop}
theorem chk_len (hc : chk evs = true) : evs.length ≤ 10 := by
  unfold chk at hc
  simp only [Bool.and_eq_true, decide_eq_true_eq] at hc
  exact hc.1
theorem chkN_ne : (chkN evs != 0) = !(chk evs) := by unfold chkN; cases chk evs <;> rfl
theorem ref_Orderly21 (h : SlL evLay w p l evs) (hok : ∀ x ∈ evs, EvOk x) (hst : SecOk start)
    (hK : ∀ (g : Bool) w', (g = true ↔ chk evs = true ∧ Ord evs start) → Keep (fun _ => False) w w' → R (.tuple #[.bool g, .int .i64 (chkN evs)]) w') :
    CallV Try.prog 13 #[.agg (secV start), .slice p l c] w R := by
  apply C_ravelinref21_Orderly
  unfold F_ravelinref21_Orderly
  refine alc_new fun w1 hb1 k1 _ => ?_
  refine ref_Check21 (h.keepB k1 (by simp)) fun w2 k2 => ?_
  simp only [OpI_int]
  rw [chkN_ne]
  have k12 := k1.trans k2
  refine Cb_of (fun hc => ?_) (fun hc => ?_)
  · have hc : chk evs = false := by simpa using hc
    rw [Ret_nil]
    have := hK false w2 (by rw [hc]; simp) k12
    have e : chkN evs = 1 := by unfold chkN; rw [hc]; rfl
    rw [e] at this
    exact this
  have hc : chk evs = true := by simpa using hc
  have hl := chk_len hc
  have hlen := h.1
  refine LdA_all (k2.has hb1 (by simp)) rfl ?_
  refine ref_Ends (h.keepB k12 (by simp)) (by omega) hok hst fun be E w3 hbe he hE k3 => ?_
  simp only [OpS_slice]
  have e0 : chkN evs = 0 := by unfold chkN; rw [if_pos hc]
  refine LoopC_of (σ := Bool × Int × Unit) (fun st w' => w' = w3 ∧ ∃ j : Nat, st.2.1 = j ∧ j ≤ l + 1 ∧ (st.1 = true ↔ ∃ k, k < j ∧ E k = true)) (fun st _ => (((l + 1 : Nat) : Int) - st.2.1).toNat) ⟨rfl, 0, rfl, by omega, by simp⟩ ?_
  rintro _ ⟨W, i1, u⟩ w4 ⟨rfl, j, hj, hjl, hW⟩
  simp only at hj hW ⊢
  subst hj
  refine Cb_of (fun hc2 => ?_) (fun hc2 => ?_)
  · have hj : j < l + 1 := by simp only [decide_eq_true_eq] at hc2; omega
    have ew : IntKind.wrap .i64 ((j : Int) + 1) = ((j + 1 : Nat) : Int) := by rw [wrapI (by omega) (by omega)]; omega
    rw [ew]
    refine Cb_of (fun hw => ?_) (fun hw => ?_)
    · refine ⟨_, by omega, ⟨by trivial, j + 1, rfl, hj, ?_⟩, rfl⟩
      obtain ⟨k, h1, h2⟩ := hW.1 hw
      exact ⟨fun _ => ⟨k, by omega, h2⟩, fun _ => by trivial⟩
    · refine (ld_own he (by omega) (by omega)).2 ?_
      simp only [OpB_bool, Int.toNat_natCast]
      refine ⟨_, by omega, ⟨by trivial, j + 1, rfl, hj, ?_⟩, rfl⟩
      constructor
      · intro h; exact ⟨j, by omega, h⟩
      · rintro ⟨k, h1, h2⟩
        by_cases hk : k = j
        · subst hk; exact h2
        · have := hW.2 ⟨k, by omega, h2⟩
          rw [hw] at this; cases this
  · have hj : j = l + 1 := by simp only [decide_eq_false_iff_not] at hc2; omega
    subst hj
    rw [Ret_nil]
    have := hK W w4 ?_ (k12.trans k3)
    · rw [e0] at this; exact this
    rw [hW, hc]
    simp only [true_and]
    unfold Ord
    constructor
    · rintro ⟨k, h1, h2⟩
      obtain ⟨s, h3, h4, _⟩ := (hE k (by omega)).1 h2
      exact ⟨s, h3, h4⟩
    · rintro ⟨s, h1, h2⟩
      have hp : pos l s.2 ≤ l := pos_le (by have := h1.small; omega)
      exact ⟨_, by omega, (hE _ hp).2 ⟨s, h1, h2, rfl⟩⟩
end

/-! ### the fixed fact -/
def mayB (evs : List Evt) (start : Sec) (s : Stt) (i : Nat) : Bool :=
  !s.1.testBit i && ((evs.getD i default).wr || (decide (0 ≤ (evs.getD i default).to) && decide (∀ k, (evs.getD i default).val k = cur evs start s.2 k))) &&
    (List.range evs.length).all fun j => !(!s.1.testBit j && decide (0 ≤ (evs.getD j default).to) && decide ((evs.getD j default).to < (evs.getD i default).fr))
theorem mayB_iff {evs : List Evt} {start : Sec} {s : Stt} {i : Nat} (hi : i < evs.length) : mayB evs start s i = true ↔ May evs start s i := by
  unfold mayB May Blk
  simp only [Bool.and_eq_true, Bool.not_eq_true', Bool.or_eq_true, decide_eq_true_eq, List.all_eq_true, List.mem_range, Bool.and_eq_false_iff, decide_eq_false_iff_not]
  constructor
  · rintro ⟨⟨h1, h2⟩, h3⟩
    refine ⟨_, at_lt hi, h1, ?_, ?_⟩
    · rcases h2 with h2 | ⟨h2, h4⟩
      · exact Or.inl h2
      · exact Or.inr ⟨h2, funext h4⟩
    · rintro ⟨j, x, hx, h5, h6, h7⟩
      have hj := (List.getElem?_eq_some_iff.1 hx).1
      rw [at_lt hj] at hx
      cases hx
      have := h3 j hj
      rcases this with (h | h) | h
      · simp [h5] at h
      · exact h h6
      · exact h h7
  · rintro ⟨x, hx, h1, h2, h3⟩
    rw [at_lt hi] at hx
    cases hx
    refine ⟨⟨h1, ?_⟩, fun j hj => ?_⟩
    · rcases h2 with h2 | ⟨h2, h4⟩
      · exact Or.inl h2
      · exact Or.inr ⟨h2, fun k => by rw [h4]⟩
    · apply Classical.byContradiction
      intro hn
      simp only [not_or, Classical.not_not] at hn
      exact h3 ⟨j, _, at_lt hj, by simpa using hn.1.1, hn.1.2, hn.2⟩
def aw0 : Evt := ⟨true, sec [1], 0, 2⟩
def aw1 : Evt := ⟨false, sec [1], 1, 1⟩
def aw2 (f : Int) : Evt := ⟨false, sec [], f, 3⟩
theorem aw_ok (f : Int) (h1 : 0 ≤ f) (h2 : f ≤ 3) : ∀ x ∈ [aw0, aw1, aw2 f], EvOk x := by
  intro x hx
  simp only [List.mem_cons, List.not_mem_nil, or_false] at hx
  rcases hx with rfl | rfl | rfl
  · exact ⟨sec_ok (by decide), by decide, by decide⟩
  · exact ⟨sec_ok (by decide), by decide, by decide⟩
  · exact ⟨show SecOk (sec []) from sec_ok (by simp), ⟨by show -9223372036854775808 ≤ f; omega, by show f ≤ 9223372036854775807; omega⟩, show (-9223372036854775808 : Int) ≤ 3 ∧ (3 : Int) ≤ 9223372036854775807 by decide⟩
theorem aw_not : ¬ Ord [aw0, aw1, aw2 2] (sec []) := by
  rintro ⟨s, hr, hc⟩
  have hm : s ∈ [(0, -1), (1, 0), ((3, 0) : Stt)] := by
    refine reach_all (by simp) (fun t ht i hmy => ?_) hr
    have hi : i < 3 := by obtain ⟨x, hx, _⟩ := hmy; exact (List.getElem?_eq_some_iff.1 hx).1
    have hb := (mayB_iff (evs := [aw0, aw1, aw2 2]) hi).2 hmy
    have key : ∀ t ∈ [(0, -1), (1, 0), ((3, 0) : Stt)], ∀ i, i < 3 → mayB [aw0, aw1, aw2 2] (sec []) t i = true → nxt [aw0, aw1, aw2 2] t i ∈ [(0, -1), (1, 0), ((3, 0) : Stt)] := by decide +kernel
    exact key t ht i hi hb
  have := hc 2 (aw2 2) rfl (by decide)
  simp only [List.mem_cons, List.not_mem_nil, or_false] at hm
  rcases hm with rfl | rfl | rfl <;> simp at this <;> exact absurd this (by decide)
theorem aw_yes : Ord [aw0, aw1, aw2 1] (sec []) := by
  have step : ∀ (s : Stt) (i : Nat), i < 3 → Reach [aw0, aw1, aw2 1] (sec []) s → mayB [aw0, aw1, aw2 1] (sec []) s i = true → Reach [aw0, aw1, aw2 1] (sec []) (nxt [aw0, aw1, aw2 1] s i) :=
    fun s i hi h hm => h.step ((mayB_iff (evs := [aw0, aw1, aw2 1]) hi).1 hm)
  have h1 := step _ 2 (by decide) Reach.start (by decide +kernel)
  have h2 := step _ 0 (by decide) h1 (by decide +kernel)
  have h3 := step _ 1 (by decide) h2 (by decide +kernel)
  refine ⟨_, h3, cmpB_iff.1 (by decide +kernel)⟩
theorem bsl_evs (f : Int) (w : World) : (Instr.buildSlice 24 3 #[(0, .agg (evC aw0)), (1, .agg (evC aw1)), (2, .agg (evC (aw2 f)))]).run Try.prog w = .ok (.slice (some ⟨w.heap.size, 0, none⟩) 3 3) (w.alloc (.cells (evC aw0 ++ evC aw1 ++ evC (aw2 f)) 31)) :=
  run_buildSlice w 24 31 3 _ (evC aw0 ++ evC aw1 ++ evC (aw2 f)) ((Try.prog.info? 31).get (by kernel_rfl)) (((Try.prog.info? 31).get (by kernel_rfl)).zero.get (by kernel_rfl)) (by kernel_rfl) (by kernel_rfl) (by kernel_rfl) (by decide +kernel) (by decide +kernel) (by kernel_rfl)
theorem law21_awake {w : World} {R : Value → World → Prop} (hK : ∀ w', Keep (fun _ => False) w w' → R (.bool true) w') : CallV Try.prog 14 #[] w R := by
  apply C_ravelinlaw21_awake
  unfold F_ravelinlaw21_awake
  refine DoQ_of (fun d => bld_sec1 1 _) ?_
  simp only [OpA_agg]
  refine ⟨rfl, ?_⟩
  refine DoQ_of (v := .agg (evC aw0)) (fun d => run_build _ _ _ _ (by kernel_rfl)) ?_
  simp only [OpA_agg]
  refine ⟨rfl, ?_⟩
  refine DoQ_of (fun d => bld_sec1 1 _) ?_
  simp only [OpA_agg]
  refine ⟨rfl, ?_⟩
  refine DoQ_of (v := .agg (evC aw1)) (fun d => run_build _ _ _ _ (by kernel_rfl)) ?_
  simp only [OpA_agg]
  refine ⟨rfl, ?_⟩
  refine DoQ_of (v := .agg (evC (aw2 2))) (fun d => run_build _ _ _ _ (by kernel_rfl)) ?_
  simp only [OpA_agg]
  refine ⟨rfl, ?_⟩
  refine ⟨_, _, bsl_evs 2 w, ?_⟩
  simp only [OpS_slice]
  have k1 : Keep (fun _ => False) w (w.alloc (.cells (evC aw0 ++ evC aw1 ++ evC (aw2 2)) 31)) := Keep.new _ _ _
  have o1 : OwnL evLay (w.alloc (.cells (evC aw0 ++ evC aw1 ++ evC (aw2 2)) 31)) w.heap.size 31 (some ⟨w.heap.size, 0, none⟩) 3 3 [aw0, aw1, aw2 2] := OwnL.new (xs := [aw0, aw1, aw2 2]) (by decide) rfl
  generalize w.alloc (.cells (evC aw0 ++ evC aw1 ++ evC (aw2 2)) 31) = w1 at *
  refine DoQ_of (fun d => bld_sec0 _) ?_
  simp only [OpA_agg]
  refine ⟨rfl, ?_⟩
  have c1 : chk [aw0, aw1, aw2 2] = true := by decide
  have c2 : chk [aw0, aw1, aw2 1] = true := by decide
  refine run_Orderly o1.sl (aw_ok 2 (by decide) (by decide)) (sec_ok (by simp)) fun g w2 hg k2 => ?_
  have hg : g = false := by
    cases g
    · rfl
    · exact absurd (hg.1 rfl).2 aw_not
  subst hg
  have e1 : chkN [aw0, aw1, aw2 2] = 0 := by unfold chkN; rw [if_pos c1]
  rw [e1]
  simp only [T2_mk, OpB_bool, OpI_int]
  have o2 := o1.keep k2 (by simp)
  refine o2.stF (i := 2) (n := 19) (t := 17) (x := aw2 2) (y := aw2 1) rfl (by decide) rfl (by decide) rfl rfl fun w3 o3 k3 _ => ?_
  refine DoQ_of (fun d => bld_sec0 _) ?_
  simp only [OpA_agg]
  refine ⟨rfl, ?_⟩
  have es : ([aw0, aw1, aw2 2] : List Evt).set (2 : Int).toNat (aw2 1) = [aw0, aw1, aw2 1] := rfl
  rw [es] at o3
  refine run_Orderly o3.sl (aw_ok 1 (by decide) (by decide)) (sec_ok (by simp)) fun g w4 hg k4 => ?_
  have hg : g = true := hg.2 ⟨c2, aw_yes⟩
  subst hg
  have e2 : chkN [aw0, aw1, aw2 1] = 0 := by unfold chkN; rw [if_pos c2]
  rw [e2]
  simp only [T2_mk, OpB_bool, OpI_int]
  refine ⟨by trivial, by trivial, by trivial, by trivial, by trivial, ?_⟩
  rw [Ret_nil]
  refine hK w4 ?_
  refine ((k1.trans k2).trans' k3 fun k hk e => ?_).trans k4
  cases e
  omega

/-! ### HistoryChecks -/
theorem evLayT : LayT Try.prog evLay 24 31 40 := ⟨by kernel_rfl, ⟨(Try.prog.info? 31).get (by kernel_rfl), ((Try.prog.info? 31).get (by kernel_rfl)).zero.get (by kernel_rfl), by kernel_rfl, by kernel_rfl, by kernel_rfl, by kernel_rfl, by kernel_rfl⟩⟩
theorem bsl_ev0 (w : World) : (Instr.buildSlice 24 0 #[]).run Try.prog w = .ok (.slice (some ⟨w.heap.size, 0, none⟩) 0 0) (w.alloc (.cells #[] 31)) := by kernel_rfl
theorem checks_walk {evs : List Evt} {start : Sec} {w : World} {p : Option Addr} {l c : Nat} (h : SlL evLay w p l evs) (hb : l ≤ 1048576) (hok : ∀ x ∈ evs, EvOk x) (hst : SecOk start) :
    CallV Try.prog 3 #[.agg (secV start), .slice p l c] w fun v w' => v = .bool true ∧ Below w.heap.size w w' := by
  apply C_ravelinlaw21_HistoryChecks
  unfold F_ravelinlaw21_HistoryChecks
  have hlen := h.1
  refine alc_new fun w1 hb1 k1 _ => ?_
  refine ⟨_, _, bsl_ev0 w1, ?_⟩
  simp only [OpS_slice]
  have k2 : Keep (fun _ => False) w1 (w1.alloc (.cells #[] 31)) := Keep.new _ _ _
  have o2 : OwnL evLay (w1.alloc (.cells #[] 31)) w1.heap.size 31 (some ⟨w1.heap.size, 0, none⟩) 0 0 [] := OwnL.new (xs := []) (by decide) rfl
  have hs2 := k1.size
  generalize w1.alloc (.cells #[] 31) = w2 at *
  have k02 := k1.trans k2
  obtain ⟨p3, c3, w3, hr, o3, k3⟩ := run_appendL evLayT o2 (h.keepB k02 (by simp)) (ty := 24) (c2 := c) (by omega) (by simp only [maxLen]; omega) k2.size
  refine ⟨_, _, hr, ?_⟩
  simp only [OpS_slice]
  rw [List.nil_append, Nat.zero_add] at o3
  rw [Nat.zero_add]
  have k03 : Keep (fun _ => False) w w3 := k02.trans' k3 fun k hk e => by
    have : w1.heap.size = k := by simpa using e
    omega
  have hb3 := k3.has (k2.has hb1 (by simp)) (fun e => by
    have := hb1.lt
    have : w1.heap.size = w.heap.size := by simpa using e
    omega)
  refine LdA_all hb3 rfl ?_
  refine run_Orderly o3.sl hok hst fun g w4 hg k4 => ?_
  simp only [T2_mk, OpB_bool, OpI_int]
  refine LdA_all (k4.has hb3 (by simp)) rfl ?_
  have k04 := k03.trans k4
  refine ref_Orderly21 (h.keepB k04 (by simp)) hok hst fun g1 w5 hg1 k5 => ?_
  simp only [T2_mk, OpB_bool, OpI_int]
  have hgg : g = g1 := by rw [Bool.eq_iff_iff, hg, hg1]
  subst hgg
  refine law21_awake fun w6 k6 => ?_
  simp only [OpB_bool]
  refine (Cb_false (p := _)).2 ?_
  have k36 := (k4.trans k5).trans k6
  have o6 := o3.keep k36 (by simp)
  refine run_Check o6.sl fun w7 k7 => ?_
  simp only [OpI_int]
  have k07 := (k03.trans k36).trans k7
  refine ref_Check21 (h.keepB k07 (by simp)) fun w8 k8 => ?_
  simp only [OpI_int]
  have k08 := k07.trans k8
  have o8 := o6.keep (k7.trans k8) (by simp)
  have h8 := h.keepB k08 (by simp)
  refine ⟨by trivial, by trivial, by trivial, by trivial, by trivial, by trivial, ?_⟩
  have e1 : (cond (cond (chkN evs != chkN evs) true (!(g == g))) true (chkN evs != chkN evs)) = false := by simp
  rw [e1]
  refine (Cb_false (p := _)).2 ?_
  refine LoopC_of (σ := Int × Unit) (fun st w' => Keep (fun _ => False) w8 w' ∧ ∃ j : Nat, st.1 = j ∧ j ≤ l) (fun st _ => (l - st.1).toNat) ⟨Keep.refl _ _, 0, rfl, by omega⟩ ?_
  rintro _ ⟨i1, u⟩ w9 ⟨k9, j, hj, hjl⟩
  simp only at hj ⊢
  subst hj
  refine Cb_of (fun hc => ?_) (fun hc => ?_)
  · have hj : j < l := by simp only [decide_eq_true_eq] at hc; omega
    have ew : IntKind.wrap .i64 ((j : Int) + 1) = ((j + 1 : Nat) : Int) := by rw [wrapI (by omega) (by omega)]; omega
    rw [ew]
    have g' := at_lt (evs := evs) (i := j) (by omega)
    have gi : evs[((j : Nat) : Int).toNat]? = some (evs.getD j default) := by rw [Int.toNat_natCast]; exact g'
    have hx : EvOk (evs.getD j default) := hok _ (List.mem_of_getElem? g')
    refine (o8.keep k9 (by simp)).ldA rfl (by omega) gi ?_
    refine (h8.keepB k9 (by simp)).ldA rfl (by omega) gi ?_
    refine EqB_ev_ne hx hx fun r hr => ?_
    have hrf : r = false := by cases r <;> simp_all
    subst hrf
    intro d
    refine (Cb_false (p := _)).2 ?_
    exact ⟨_, by omega, ⟨k9.dr d, j + 1, rfl, hj⟩, rfl⟩
  · rw [Ret_nil]
    exact ⟨by trivial, (k08.trans k9).below⟩
end Go.Proofs
