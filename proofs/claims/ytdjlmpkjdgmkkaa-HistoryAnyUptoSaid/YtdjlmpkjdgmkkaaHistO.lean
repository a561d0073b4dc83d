/-
  search and Orderly: what they answer.
-/
import Derived.Test.YtdjlmpkjdgmkkaaHistX
namespace Go.Proofs
open Go Go.Ev Go.RowKit
set_option linter.unusedSimpArgs false
set_option linter.unusedVariables false
set_option maxRecDepth 100000

section search
variable {evs : List Evt} {start : Sec} {p : Option Addr} {l c : Nat} {w : World} {R : Value → World → Prop}
theorem zc_map : zc Try.prog 98 = #[.map none] := by kernel_rfl
theorem zc_sts : zc Try.prog 71 = #[.slice none 0 0] := by kernel_rfl
theorem zc_int : zc Try.prog 3 = #[.int .i64 0] := by kernel_rfl
theorem zc_fn : (zc Try.prog 99).size = 1 := by kernel_rfl
theorem StV_one {w : World} {b : Nat} {u v : Value} {t : TypeId} {K : World → Prop} (h : Has w b (.cells #[u] t (0, 0))) (h1 : oneV v = true) (hK : K (w.upd b (.cells #[v] t (0, 0)))) : StV b 0 v w K :=
  StV_of h (by show 0 < 1; decide) h1 hK
theorem bits_snoc {a j : Nat} (ha : a < 2 ^ j) : a ||| 2 ^ j < 2 ^ (j + 1) := Nat.or_lt_two_pow (Nat.lt_of_lt_of_le ha (Nat.pow_le_pow_right (by decide) (by omega))) (Nat.pow_lt_pow_right (by decide) (by omega))
theorem run_search (h : SlL evLay w p l evs) (hl : l ≤ 10) (hok : ∀ x ∈ evs, EvOk x) (hst : SecOk start)
    (hK : ∀ (ks : List Stt) ep el ec w', OwnL stLay w' w.heap.size 93 ep el ec (ks.filter (cmpB evs)) → (∀ t, t ∈ ks ↔ Reach evs start t) → ks.Nodup → Keep (fun _ => False) w w' → R (.slice ep el ec) w') :
    CallV Try.prog 46 #[.agg (secV start), .slice p l c] w R := by
  apply C_history_search
  unfold F_history_search
  have hlen := h.1
  refine alc_new fun w1 hb1 k1 z1 => ?_
  refine alc_new fun w2 hb2 k2 z2 => ?_
  refine ⟨_, _, run_makeMap, ?_⟩
  simp only [OpM_map]
  have hset3 := SetAt.new stK w2
  have k3 : Keep (fun _ => False) w2 (w2.alloc (.map #[] 0)) := Keep.new _ _ _
  have z3 : (w2.alloc (.map #[] 0)).heap.size = w2.heap.size + 1 := by simp
  generalize w2.alloc (.map #[] 0) = w3 at *
  refine alc_new fun w4 hb4 k4 z4 => ?_
  rw [zc_map] at hb4
  refine StV_one hb4 rfl ?_
  have k5 : Keep (fun _ => False) w3 (w4.upd w3.heap.size (.cells #[.map (some w2.heap.size)] 98 (0, 0))) := k4.upd (by omega) _
  have hb5 := hb4.upd_same (.cells #[.map (some w2.heap.size)] 98 (0, 0))
  have z5 : (w4.upd w3.heap.size (.cells #[.map (some w2.heap.size)] 98 (0, 0))).heap.size = w3.heap.size + 1 := by simp [z4]
  generalize w4.upd w3.heap.size (.cells #[.map (some w2.heap.size)] 98 (0, 0)) = w5 at *
  refine alc_new fun w6 hb6 k6 z6 => ?_
  rw [zc_sts] at hb6
  refine alc_new fun w7 hb7 k7 z7 => ?_
  rw [zc_int] at hb7
  refine StV_one hb7 rfl ?_
  have k8 : Keep (fun _ => False) w6 (w7.upd w6.heap.size (.cells #[.int .i64 0] 3 (0, 0))) := k7.upd (by omega) _
  have hb8 := hb7.upd_same (.cells #[.int .i64 0] 3 (0, 0))
  have z8 : (w7.upd w6.heap.size (.cells #[.int .i64 0] 3 (0, 0))).heap.size = w6.heap.size + 1 := by simp [z7]
  generalize w7.upd w6.heap.size (.cells #[.int .i64 0] 3 (0, 0)) = w8 at *
  -- what stands at w8
  have k28 := ((k3.trans k5).trans k6).trans k8
  have g5 := k28.has hb2 (by simp)
  have g4 := (k2.trans k28).has hb1 (by simp)
  have g1 := (k6.trans k8).has hb5 (by simp)
  have g3 := k8.has hb6 (by simp)
  have gm := hset3.keep ((k5.trans k6).trans k8) (by simp)
  have k08 : Keep (fun _ => False) w w8 := (k1.trans k2).trans k28
  have h8 := h.keepB k08 (by simp)
  generalize hq4 : w.heap.size = q4 at *
  generalize hq5 : w1.heap.size = q5 at *
  generalize hm : w2.heap.size = m at *
  generalize hq1 : w3.heap.size = q1 at *
  generalize hq3 : w5.heap.size = q3 at *
  generalize hq2 : w6.heap.size = q2 at *
  refine LdV_has (v := .slice p l c) g5 rfl ?_
  simp only [OpS_slice]
  refine LoopC_of (σ := Int × Unit) (fun st w' => ∃ (j a : Nat), st.1 = j ∧ j ≤ l ∧ Keep (fun k => k = q2) w8 w' ∧ Has w' q2 (.cells #[.int .i64 (a : Int)] 3 (0, 0)) ∧ a < 2 ^ j ∧ ∀ i, a.testBit i = true ↔ i < j ∧ ∃ x, evs[i]? = some x ∧ 0 ≤ x.to)
    (fun st _ => (l - st.1).toNat) ⟨0, 0, rfl, by omega, Keep.refl _ _, hb8, by decide, fun i => by simp⟩ ?_
  rintro _ ⟨i1, u⟩ w9 ⟨j, a, hj, hjl, k9, ha, hlt, hbits⟩
  simp only at hj ⊢
  subst hj
  have h9 := h.keepB (k08.trans' k9 (S := fun _ => False) fun k hk e => by omega) (by simp)
  refine Cb_of (fun hc => ?_) (fun hc => ?_)
  · have hj : j < l := by simp only [decide_eq_true_eq] at hc; omega
    have ew : IntKind.wrap .i64 ((j : Int) + 1) = ((j + 1 : Nat) : Int) := by rw [wrapI (by omega) (by omega)]; omega
    rw [ew]
    have g' := at_lt (evs := evs) (i := j) (by omega)
    have g : evs[((j : Nat) : Int).toNat]? = some (evs.getD j default) := by rw [Int.toNat_natCast]; exact g'
    generalize hx : evs.getD j default = x at *
    refine h9.ldA rfl (by omega) g ?_
    refine copy_of zc_ev rfl (one_evC x) fun w10 hb10 k10 _ => ?_
    have ha10 := k10.has ha (by simp)
    have k910 := k9.trans (k10.mono (S' := fun k => k = q2) (by simp))
    refine LdV_has (v := .int .i64 x.to) hb10 rfl ?_
    simp only [OpI_int]
    refine Cb_of (fun hto => ?_) (fun hto => ?_)
    · have hto : 0 ≤ x.to := by simpa using hto
      intro d _
      refine LdV_has (v := .int .i64 (a : Int)) (ha10.dr d) rfl ?_
      simp only [OpI_int]
      refine ⟨by omega, ?_⟩
      have ha60 : a < 2 ^ 60 := Nat.lt_of_lt_of_le hlt (Nat.pow_le_pow_right (by decide) (by omega))
      rw [bit_set ha60 (by omega)]
      refine StV_of (ha10.dr d) (by show 0 < 1; decide) rfl ?_
      refine ⟨_, by omega, ⟨j + 1, a ||| 2 ^ j, rfl, hj, (k910.dr d).upd (fun _ => rfl) _, (ha10.dr d).upd_same _, bits_snoc hlt, fun i => ?_⟩, rfl⟩
      rw [Nat.testBit_or, Nat.testBit_two_pow, Bool.or_eq_true, hbits i, decide_eq_true_eq]
      constructor
      · rintro (⟨h1, h2⟩ | h1)
        · exact ⟨by omega, h2⟩
        · subst h1; exact ⟨by omega, x, g', hto⟩
      · rintro ⟨h1, h2⟩
        by_cases hij : j = i
        · exact Or.inr hij
        · exact Or.inl ⟨by omega, h2⟩
    · have hto : ¬ 0 ≤ x.to := by simpa using hto
      refine ⟨_, by omega, ⟨j + 1, a, rfl, hj, k910, ha10, Nat.lt_of_lt_of_le hlt (Nat.pow_le_pow_right (by decide) (by omega)), fun i => ?_⟩, rfl⟩
      rw [hbits i]
      constructor
      · rintro ⟨h1, h2⟩; exact ⟨by omega, h2⟩
      · rintro ⟨h1, y, h2, h3⟩
        refine ⟨?_, y, h2, h3⟩
        by_cases hij : j = i
        · subst hij; rw [g'] at h2; cases h2; exact absurd h3 hto
        · omega
  · have hj : j = l := by simp only [decide_eq_false_iff_not] at hc; omega
    subst hj
    have hA : Ans evs a := ⟨Nat.lt_of_lt_of_le hlt (Nat.pow_le_pow_right (by decide) (by omega)), fun i => by
      rw [hbits i]
      exact ⟨fun h => h.2, fun ⟨x, h1, h2⟩ => ⟨by have := (List.getElem?_eq_some_iff.1 h1).1; omega, x, h1, h2⟩⟩⟩
    refine alc_new fun w10 hb10 k10 z10 => ?_
    have ks10 := k9.trans (k10.mono (S' := fun k => k = q2) (by simp))
    have e10 : w9.heap.size ≥ w8.heap.size := k9.size
    generalize hq6 : w9.heap.size = q6 at *
    refine StV_of hb10 (by rw [zc_fn]; decide) rfl ?_
    have hset : (zc Try.prog 99).setIfInBounds 0 (.func (.func 62) #[] (wkP q1 q2 q3 q4 q5 q6)) = #[.func (.func 62) #[] (wkP q1 q2 q3 q4 q5 q6)] := by
      have := zc_fn
      apply Array.ext_getElem?
      intro i
      match i with
      | 0 => rw [Array.getElem?_setIfInBounds]; simp [this]
      | i + 1 => rw [Array.getElem?_setIfInBounds, if_neg (by omega), Array.getElem?_eq_none (by omega)]; simp
    have e11 : (#[.pointer (some ⟨q1, 0, none⟩), .pointer (some ⟨q2, 0, none⟩), .pointer (some ⟨q3, 0, none⟩), .pointer (some ⟨q4, 0, none⟩), .pointer (some ⟨q5, 0, none⟩), .pointer (some ⟨q6, 0, none⟩)] : Array Value) = wkP q1 q2 q3 q4 q5 q6 := rfl
    rw [e11, hset]
    have hb11 := hb10.upd_same (.cells #[.func (.func 62) #[] (wkP q1 q2 q3 q4 q5 q6)] 99 (0, 0))
    have k11 : Keep (fun k => k = q2) w8 (w10.upd q6 (.cells #[.func (.func 62) #[] (wkP q1 q2 q3 q4 q5 q6)] 99 (0, 0))) := ks10.upd (by omega) _
    have ha11 : Has (w10.upd q6 (.cells #[.func (.func 62) #[] (wkP q1 q2 q3 q4 q5 q6)] 99 (0, 0))) q2 (.cells #[.int .i64 (a : Int)] 3 (0, 0)) := (k10.has ha (by simp)).upd (by omega)
    generalize w10.upd q6 (.cells #[.func (.func 62) #[] (wkP q1 q2 q3 q4 q5 q6)] 99 (0, 0)) = w11 at *
    refine LdV_has (v := .func (.func 62) #[] (wkP q1 q2 q3 q4 q5 q6)) hb11 rfl ?_
    refine ⟨_, rfl, ?_⟩
    refine DoQ_of (fun d => bld_st _ _ _) ?_
    simp only [OpA_agg]
    refine ⟨rfl, ?_⟩
    have H : Hst evs start w p j c a q1 q2 q3 q4 q5 q6 m w11 [] none 0 0 :=
      ⟨k11.has g1 (by omega), ha11, k11.has g3 (by omega), k11.has g4 (by omega), k11.has g5 (by omega), hb11, gm.keep k11 (by omega), OwnL.nil, (k08.mono (by simp)).trans' k11 (fun k hk e => by omega), by omega, by omega, by simp, by simp, by simp⟩
    have hs0 : (#[.int .i64 0, .int .i64 (-1)] : Array Value) = stC (0, -1) := rfl
    rw [hs0]
    refine walk_run h hl hA hok hst 1024 w11 [] (0, -1) none 0 0 _ (by omega) H Reach.start fun w12 hp => ?_
    obtain ⟨ks, ep, el, ec, H12, f12, _, hin, hcl⟩ := hp
    refine LdV_has (v := .slice ep el ec) H12.h3 rfl ?_
    simp only [OpS_slice, Ret_nil]
    have hb := H12.hb
    have he := H12.he
    rw [hq4] at hb he
    refine hK ks ep el ec w12 he (fun t => ⟨H12.rc t, fun ht => reach_all hin (fun t ht i hm => hcl t ht (by simp) i hm) ht⟩) H12.nd ?_
    exact ⟨hb.os, hb.tape, hb.output, hb.size, fun k hk _ => hb.block k hk (by omega)⟩
theorem run_Orderly (h : SlL evLay w p l evs) (hok : ∀ x ∈ evs, EvOk x) (hst : SecOk start)
    (hK : ∀ (g : Bool) w', (g = true ↔ chk evs = true ∧ Ord evs start) → Keep (fun _ => False) w w' → R (.tuple #[.bool g, .int .i64 (chkN evs)]) w') :
    CallV Try.prog 12 #[.agg (secV start), .slice p l c] w R := by
  apply C_history_Orderly
  unfold F_history_Orderly
  refine alc_new fun w1 hb1 k1 _ => ?_
  refine run_Check (h.keepB k1 (by simp)) fun w2 k2 => ?_
  simp only [OpI_int]
  have hn : (chkN evs != 0) = !(chk evs) := by unfold chkN; cases chk evs <;> rfl
  rw [hn]
  have k12 := k1.trans k2
  refine Cb_of (fun hc => ?_) (fun hc => ?_)
  · have hc : chk evs = false := by simpa using hc
    rw [Ret_nil]
    refine hK false w2 ?_ k12
    rw [hc]; simp
  have hc : chk evs = true := by simpa using hc
  have hl : l ≤ 10 := by
    have := h.1
    unfold chk at hc
    simp only [Bool.and_eq_true, decide_eq_true_eq] at hc
    omega
  refine LdA_all (k2.has hb1 (by simp)) rfl ?_
  refine run_search (h.keepB k12 (by simp)) hl hok hst fun ks ep el ec w3 ho hks hnd k3 => ?_
  simp only [OpS_slice, Ret_nil]
  have e0 : (0 : Int) = chkN evs := by unfold chkN; rw [if_pos hc]
  have := hK (decide (((el : Nat) : Int) > 0)) w3 ?_ (k12.trans k3)
  · rw [← e0] at this; exact this
  · have hel := ho.length
    simp only [decide_eq_true_eq, hc, true_and]
    unfold Ord
    constructor
    · intro h0
      cases hf : ks.filter (cmpB evs) with
      | nil => rw [hf] at hel; simp at hel; omega
      | cons s t =>
        have hm : s ∈ ks.filter (cmpB evs) := by rw [hf]; simp
        rw [List.mem_filter] at hm
        exact ⟨s, (hks s).1 hm.1, cmpB_iff.1 hm.2⟩
    · rintro ⟨s, h1, h2⟩
      have hm : s ∈ ks.filter (cmpB evs) := List.mem_filter.2 ⟨(hks s).2 h1, cmpB_iff.2 h2⟩
      have := List.length_pos_of_mem hm
      omega
end search
end Go.Proofs
