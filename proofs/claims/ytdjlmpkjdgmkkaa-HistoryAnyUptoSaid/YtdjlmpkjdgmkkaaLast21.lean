/-
  The program's Last: the sectors that may be held, by their bytes, each once.
-/
import Derived.Test.YtdjlmpkjdgmkkaaSecs
namespace Go.Proofs
open Go Go.Ev
set_option linter.unusedSimpArgs false
set_option linter.unusedVariables false
set_option maxRecDepth 100000

def seLay : Lay Sec := ⟨16, fun f => (secV f).toList, fun _ => rfl, one_secV, by decide⟩
theorem seLay_rows (vs : List Sec) : seLay.rows vs = vs.flatMap seL := rfl
/-- by the bytes, each once -/
def Srt (vs : List Sec) : Prop := vs.Pairwise fun r s => cmpS r s < 0
theorem Srt.ext : ∀ {xs ys : List Sec}, Srt xs → Srt ys → (∀ v, v ∈ xs ↔ v ∈ ys) → xs = ys
  | [], [], _, _, _ => rfl
  | [], y :: ys, _, _, h => by have := (h y).2 (by simp); simp at this
  | x :: xs, [], _, _, h => by have := (h x).1 (by simp); simp at this
  | x :: xs, y :: ys, h1, h2, h => by
    obtain ⟨a1, a2⟩ := List.pairwise_cons.1 h1
    obtain ⟨b1, b2⟩ := List.pairwise_cons.1 h2
    have irr : ∀ v : Sec, ¬ cmpS v v < 0 := fun v => by rw [cmpS_self]; omega
    have e : x = y := by
      rcases List.mem_cons.1 ((h x).1 (by simp)) with hx | hx
      · exact hx
      · rcases List.mem_cons.1 ((h y).2 (by simp)) with hy | hy
        · exact hy.symm
        · exact absurd (cmpS_trans (a1 y hy) (b1 x hx)) (irr x)
    subst e
    refine congrArg (x :: ·) (Srt.ext a2 b2 fun v => ⟨fun hv => ?_, fun hv => ?_⟩)
    · rcases List.mem_cons.1 ((h v).1 (by simp [hv])) with e | e
      · subst e; exact absurd (a1 v hv) (irr v)
      · exact e
    · rcases List.mem_cons.1 ((h v).2 (by simp [hv])) with e | e
      · subst e; exact absurd (b1 v hv) (irr v)
      · exact e
theorem srt_of {vs : List Sec} (hn : vs.Nodup) (hok : ∀ v ∈ vs, SecOk v) (h : vs.Pairwise fun r s => ¬ cmpS s r < 0) : Srt vs := by
  induction vs with
  | nil => exact List.Pairwise.nil
  | cons x xs ih =>
    obtain ⟨n1, n2⟩ := List.nodup_cons.1 hn
    obtain ⟨a1, a2⟩ := List.pairwise_cons.1 h
    refine List.pairwise_cons.2 ⟨fun y hy => ?_, ih n2 (fun v hv => hok v (by simp [hv])) a2⟩
    have h1 := a1 y hy
    have h2 := cmpS_anti x y
    have h3 : cmpS x y ≠ 0 := fun e => by
      have := cmpS_zero (hok x (by simp)) (hok y (by simp [hy])) e
      subst this
      exact n1 hy
    omega

section calls
variable {w : World} {p : Option Addr} {l c : Nat} {vs : List Sec} {R : Value → World → Prop}
theorem run_Index (h : SlL seLay w p l vs) (hok : ∀ v ∈ vs, SecOk v) {v : Sec} (hv : SecOk v) (hl : l ≤ 1000000) (hK : ∀ (n : Int) w', (0 ≤ n ↔ v ∈ vs) → Keep (fun _ => False) w w' → R (.int .i64 n) w') :
    CallV Try.prog 66 #[.slice p l c, .agg (secV v)] w R := by
  apply C_slices_Index_Sector
  unfold F_slices_Index_Sector
  have hlen := h.1
  refine alc_new fun w1 hb k1 _ => ?_
  refine LoopC_of (σ := Int × Unit) (fun s w' => Keep (fun _ => False) w1 w' ∧ ∃ j : Nat, s.1 = j ∧ j ≤ l ∧ ∀ (i : Nat) u, i < j → vs[i]? = some u → u ≠ v) (fun s _ => (l - s.1).toNat) ⟨Keep.refl _ _, 0, rfl, by omega, fun i u hi => by omega⟩ ?_
  rintro _ ⟨i1, u⟩ w2 ⟨k2, j, hj, hjl, hno⟩
  simp only at hj ⊢
  subst hj
  refine Cb_of (fun hc => ?_) (fun hc => ?_)
  · have hj : j < l := by simp only [decide_eq_true_eq] at hc; omega
    have ew : IntKind.wrap .i64 ((j : Int) + 1) = ((j + 1 : Nat) : Int) := by rw [wrapI (by omega) (by omega)]; omega
    rw [ew]
    refine LdA_all (k2.has hb (by simp)) rfl ?_
    have g' : vs[j]? = some (vs[j]'(by omega)) := by simp [show j < vs.length by omega]
    have g : vs[((j : Nat) : Int).toNat]? = some (vs[j]'(by omega)) := by rw [Int.toNat_natCast]; exact g'
    refine (h.keepB (k1.trans k2) (by simp)).ldA rfl (by omega) g ?_
    refine EqB_sec hv (hok _ (List.mem_of_getElem? g')) fun r hr => ?_
    intro d
    refine Cb_of (fun h1 => ?_) (fun h1 => ?_)
    · rw [Ret_nil]
      refine hK j _ ⟨fun _ => ?_, fun _ => by omega⟩ ((k1.trans k2).dr d)
      rw [hr.1 h1]; exact List.mem_of_getElem? g'
    · refine ⟨_, by omega, ⟨k2.dr d, j + 1, rfl, hj, fun i u hi hu => ?_⟩, rfl⟩
      rcases Nat.lt_succ_iff_lt_or_eq.1 hi with h | h
      · exact hno i u h hu
      · subst h
        rw [g'] at hu; cases hu
        intro e
        rw [hr.2 e.symm] at h1; cases h1
  · have hj : j = l := by simp only [decide_eq_false_iff_not] at hc; omega
    subst hj
    rw [Ret_nil]
    refine hK (-1) _ ⟨fun h => by omega, fun hm => ?_⟩ (k1.trans k2)
    obtain ⟨i, hi⟩ := List.mem_iff_getElem?.1 hm
    exact absurd rfl (hno i v (by have := (List.getElem?_eq_some_iff.1 hi).1; omega) hi)
theorem run_Contains (h : SlL seLay w p l vs) (hok : ∀ v ∈ vs, SecOk v) {v : Sec} (hv : SecOk v) (hl : l ≤ 1000000) (hK : ∀ (g : Bool) w', (g = true ↔ v ∈ vs) → Keep (fun _ => False) w w' → R (.bool g) w') :
    CallV Try.prog 57 #[.slice p l c, .agg (secV v)] w R := by
  apply C_slices_Contains_Sector
  unfold F_slices_Contains_Sector
  refine alc_new fun w1 hb k1 _ => ?_
  refine LdA_all hb rfl ?_
  refine run_Index (h.keepB k1 (by simp)) hok hv hl fun n w2 hn k2 => ?_
  simp only [OpI_int, Ret_nil]
  exact hK _ _ (by rw [decide_eq_true_eq]; exact hn) (k1.trans k2)
theorem bsl_s1 (f : Sec) (w : World) : (Instr.buildSlice 63 1 #[(0, .agg (secV f))]).run Try.prog w = .ok (.slice (some ⟨w.heap.size, 0, none⟩) 1 1) (w.alloc (.cells (secV f) 23)) :=
  run_buildSlice w 63 23 1 _ (secV f) ((Try.prog.info? 23).get (by kernel_rfl)) (((Try.prog.info? 23).get (by kernel_rfl)).zero.get (by kernel_rfl)) (by kernel_rfl) (by kernel_rfl) (by kernel_rfl) (by decide +kernel) (by decide +kernel) (by kernel_rfl)
theorem seLayT : LayT Try.prog seLay 63 23 16 := ⟨by kernel_rfl, ⟨(Try.prog.info? 23).get (by kernel_rfl), ((Try.prog.info? 23).get (by kernel_rfl)).zero.get (by kernel_rfl), by kernel_rfl, by kernel_rfl, by kernel_rfl, by kernel_rfl, by kernel_rfl⟩⟩
/-- the end of the loop's body, as it is printed -/
def LTail (b3 : Nat) (p : Option Addr) (l c : Nat) (i : Int) (w : World) (K1 : (Option Addr × Nat × Nat) × Int × Unit → World → Prop) : Prop :=
  LdA 16 b3 0 (At w) fun cs4 => CallV Try.prog 57 #[.slice p l c, .agg cs4] w fun v4 w => OpB v4 fun g => Cb (!g) (LdA 16 b3 0 (At w) fun cs5 => DoV Try.prog (Instr.buildSlice 63 1 #[(0, .agg cs5)]) w fun v5 w => OpS v5 fun p1 l1 c1 => DoV Try.prog (Builtin.append_ #[63, 63] 63 #[.slice p l c, .slice p1 l1 c1]) w fun v6 w => OpS v6 fun p2 l2 c2 => K1 ((p2, l2, c2), (IntKind.wrap .i64 (i + 1), ())) w) (K1 ((p, l, c), (IntKind.wrap .i64 (i + 1), ())) w)
theorem ltail {b3 base : Nat} {i : Int} {v : Sec} {K1 : (Option Addr × Nat × Nat) × Int × Unit → World → Prop} (ho : OwnL seLay w base 23 p l c vs) (hn : vs.Nodup) (hok : ∀ v ∈ vs, SecOk v) (hv : SecOk v) (hl : l ≤ 100000) (hb : base ≤ w.heap.size) (h3 : Has w b3 (.cells (secV v) 23 (0, 0)))
    (hK : ∀ p' l' c' vs' w', OwnL seLay w' base 23 p' l' c' vs' → vs'.Nodup → (∀ u, u ∈ vs' ↔ u ∈ vs ∨ u = v) → l' ≤ l + 1 → Keep (fun k => p = some ⟨k, 0, none⟩) w w' → K1 ((p', l', c'), (IntKind.wrap .i64 (i + 1), ())) w') : LTail b3 p l c i w K1 := by
  unfold LTail
  refine LdA_all h3 rfl ?_
  refine run_Contains ho.sl hok hv (by omega) fun g w1 hg k1 => ?_
  simp only [OpB_bool]
  have o1 := ho.keep k1 (by simp)
  have kk : Keep (fun k => p = some ⟨k, 0, none⟩) w w1 := k1.mono (by simp)
  refine Cb_of (fun h => ?_) (fun h => ?_)
  · have hnot : v ∉ vs := fun hm => by rw [hg.2 hm] at h; cases h
    refine LdA_all (k1.has h3 (by simp)) rfl ?_
    refine ⟨_, _, bsl_s1 v w1, ?_⟩
    simp only [OpS_slice]
    have k2 : Keep (fun _ => False) w1 (w1.alloc (.cells (secV v) 23)) := Keep.new _ _ _
    have h2 : Has (w1.alloc (.cells (secV v) 23)) w1.heap.size (.cells (secV v) 23 (0, 0)) := Has.new _ _
    generalize w1.alloc (.cells (secV v) 23) = w2 at *
    obtain ⟨p', c', w3, hr, o3, k3⟩ := run_appendL1 seLayT (o1.keep k2 (by simp)) (y := v) h2 rfl (ty := 63) (by omega) (by simp only [maxLen]; omega) (Nat.le_trans (Nat.le_trans hb k1.size) k2.size) (c2 := 1)
    refine ⟨_, _, hr, ?_⟩
    simp only [OpS_slice]
    refine hK p' (l + 1) c' (vs ++ [v]) w3 o3 ?_ (fun u => by simp) (Nat.le_refl _) ((kk.trans (k2.mono (by simp))).trans k3)
    rw [List.nodup_append]
    refine ⟨hn, by simp, fun a ha b hb e => ?_⟩
    simp only [List.mem_singleton] at hb
    subst hb; subst e
    exact hnot ha
  · have hin : v ∈ vs := hg.1 (by simpa using h)
    exact hK p l c vs w1 o1 hn (fun u => ⟨Or.inl, fun h => by rcases h with h | h; exact h; rw [h]; exact hin⟩) (by omega) kk
end calls

section last
variable {evs : List Evt} {start : Sec} {w : World} {p : Option Addr} {l c : Nat} {R : Value → World → Prop}
theorem cur_ok (hok : ∀ x ∈ evs, EvOk x) (hst : SecOk start) {k : Int} (hk : k < evs.length) : SecOk (cur evs start k) := by
  unfold cur
  split
  · have hlt : k.toNat < evs.length := by omega
    exact (hok _ (List.mem_of_getElem? (at_lt hlt))).sec
  · exact hst
theorem enter59 (args : Array Value) (w : World) : (callFunc 59 args).run Try.prog w = .ok (.enter 59 args) w := okCall_run (by kernel_rfl) args w
theorem run_Last (h : SlL evLay w p l evs) (hok : ∀ x ∈ evs, EvOk x) (hst : SecOk start)
    (hK : ∀ q d vs w', OwnL seLay w' w.heap.size 23 q vs.length d vs → Srt vs → (∀ v, v ∈ vs ↔ chk evs = true ∧ Holds21 evs start v) → (∀ v ∈ vs, SecOk v) → Keep (fun _ => False) w w' → R (.tuple #[.slice q vs.length d, .int .i64 (chkN evs)]) w') :
    CallV Try.prog 43 #[.agg (secV start), .slice p l c] w R := by
  apply C_history_Last
  unfold F_history_Last
  have hlen := h.1
  refine alc_new fun w1 hb1 k1 _ => ?_
  refine run_Check (h.keepB k1 (by simp)) fun w2 k2 => ?_
  simp only [OpI_int]
  rw [chkN_ne]
  have k12 := k1.trans k2
  refine Cb_of (fun hc => ?_) (fun hc => ?_)
  · have hc : chk evs = false := by simpa using hc
    rw [Ret_nil]
    exact hK none 0 [] w2 OwnL.nil List.Pairwise.nil (fun v => by simp [hc]) (by simp) k12
  have hc : chk evs = true := by simpa using hc
  have hl := chk_len hc
  have hb2 := k2.has hb1 (by simp)
  refine LdA_all hb2 rfl ?_
  refine run_search (h.keepB k12 (by simp)) (by omega) hok hst fun ks ep el ec w3 ho hks hnd k3 => ?_
  simp only [OpS_slice]
  have k03 := k12.trans k3
  have hb3 := k3.has hb2 (by simp)
  have hel := ho.length
  have hcount : el ≤ 12000 := by rw [hel]; exact Nat.le_trans (List.length_filter_le _ _) (reach_count hnd (fun t ht => (hks t).1 ht) (by omega))
  have hes : ∀ t, t ∈ ks.filter (cmpB evs) ↔ Reach evs start t ∧ Cmp evs t := fun t => by rw [List.mem_filter, hks, cmpB_iff]
  generalize ks.filter (cmpB evs) = es at *
  generalize hq : w3.heap.size = q at *
  have hbl := hb3.lt
  refine LoopC_of (σ := (Option Addr × Nat × Nat) × Int × Unit) (fun st w' => ∃ (j : Nat) (vs : List Sec), st.2.1 = j ∧ j ≤ el ∧ OwnL seLay w' q 23 st.1.1 st.1.2.1 st.1.2.2 vs ∧ vs.Nodup ∧ st.1.2.1 ≤ j ∧ (∀ v, v ∈ vs ↔ ∃ (i : Nat) (s : Stt), i < j ∧ es[i]? = some s ∧ v = cur evs start s.2) ∧ Keep (fun k => q ≤ k) w3 w')
    (fun st _ => (el - st.2.1).toNat) ⟨0, [], rfl, by omega, OwnL.nil, by simp, by simp, fun v => by simp, Keep.refl _ _⟩ ?_
  rintro _ ⟨⟨p4, l4, c4⟩, i1, u⟩ w4 ⟨j, vs, hj, hjl, o4, hn4, hl4, hm4, k4⟩
  simp only at hj o4 hl4 ⊢
  subst hj
  have k04 : Keep (fun _ => False) w w4 := k03.trans' k4 fun k hk e => by have := k03.size; omega
  have hb4 := k4.has hb3 (by omega)
  have hvok : ∀ v ∈ vs, SecOk v := by
    intro v hv
    obtain ⟨i, s, _, hs, rfl⟩ := (hm4 v).1 hv
    exact cur_ok hok hst ((hes s).1 (List.mem_of_getElem? hs)).1.small.2.2
  refine Cb_of (fun hcd => ?_) (fun hcd => ?_)
  · have hj : j < el := by simp only [decide_eq_true_eq] at hcd; omega
    have g' : es[j]? = some (es[j]'(by omega)) := by simp [show j < es.length by omega]
    have gi : es[((j : Nat) : Int).toNat]? = some (es[j]'(by omega)) := by rw [Int.toNat_natCast]; exact g'
    generalize hs : es[j]'(by omega) = s at *
    have hsr := (hes s).1 (List.mem_of_getElem? g')
    have hsm := hsr.1.small
    have ho4 : OwnL stLay w4 _ 93 ep el ec es := ho.keep k4 fun k hp => by have := (ho.lt hp).2; omega
    refine ho4.ldA rfl (by omega) gi ?_
    refine copy_of zc_st rfl (one_stC s) fun w5 h5 k5 z5 => ?_
    have hb5 := k5.has hb4 (by simp)
    refine LdA_all hb5 rfl ?_
    refine copy_of zc_se rfl (one_secV start) fun w6 h6 k6 z6 => ?_
    have h56 := k6.has h5 (by simp)
    have k46 := k5.trans k6
    have o6 := o4.keep k46 (by simp)
    generalize hb3n : w5.heap.size = b3 at *
    have hqb : q ≤ b3 := by have := k4.size; have := k5.size; omega
    have hnp : p4 ≠ some ⟨b3, 0, none⟩ := fun e => by have := (o4.lt e).2; have := k5.size; omega
    have fin : ∀ w7, Keep (fun k => k = b3) w6 w7 → Has w7 b3 (.cells (secV (cur evs start s.2)) 23 (0, 0)) → LTail b3 p4 l4 c4 (j : Int) w7 (fun st w' => ∃ m', m' < ((el : Int) - (j : Int)).toNat ∧ ((∃ (j : Nat) (vs : List Sec), st.2.1 = j ∧ j ≤ el ∧ OwnL seLay w' q 23 st.1.1 st.1.2.1 st.1.2.2 vs ∧ vs.Nodup ∧ st.1.2.1 ≤ j ∧ (∀ v, v ∈ vs ↔ ∃ (i : Nat) (s : Stt), i < j ∧ es[i]? = some s ∧ v = cur evs start s.2) ∧ Keep (fun k => q ≤ k) w3 w') ∧ ((el : Int) - st.2.1).toNat = m')) := by
      intro w7 k7 h7
      have ew : IntKind.wrap .i64 ((j : Int) + 1) = ((j + 1 : Nat) : Int) := by rw [wrapI (by omega) (by omega)]; omega
      refine ltail (o6.keep k7 fun k hp e => hnp (by rw [← e]; exact hp)) hn4 hvok (cur_ok hok hst hsm.2.2) (by omega) (by have := k7.size; have := k46.size; have := k4.size; omega) h7 fun p8 l8 c8 vs8 w8 o8 hn8 hm8 hl8 k8 => ?_
      refine ⟨_, by show ((el : Int) - IntKind.wrap .i64 ((j : Int) + 1)).toNat < _; rw [ew]; omega, ⟨j + 1, vs8, ew, hj, o8, hn8, by show l8 ≤ j + 1; omega, fun v => ?_, ?_⟩, rfl⟩
      · rw [hm8, hm4]
        constructor
        · rintro (⟨i, t, hi, ht, e⟩ | e)
          · exact ⟨i, t, by omega, ht, e⟩
          · exact ⟨j, s, by omega, g', e⟩
        · rintro ⟨i, t, hi, ht, e⟩
          rcases Nat.lt_succ_iff_lt_or_eq.1 hi with h | h
          · exact Or.inl ⟨i, t, h, ht, e⟩
          · subst h
            rw [g'] at ht; cases ht
            exact Or.inr e
      · refine ((k4.trans (k46.mono (by simp))).trans (k7.mono fun k hk => by rw [hk]; exact hqb)).trans (k8.mono fun k hk => ?_)
        exact (o4.lt hk).1
    refine LdV_has (v := .int .i64 s.2) h56 rfl ?_
    simp only [OpI_int]
    refine Cb_of (fun h0 => ?_) (fun h0 => ?_)
    · have h0 : 0 ≤ s.2 := by simpa using h0
      refine LdV_has (v := .int .i64 s.2) h56 rfl ?_
      simp only [OpI_int]
      have hlt : s.2.toNat < evs.length := by omega
      refine SlL.ldP (h.keepB (k04.trans k46) (by simp)) (t := 1) (m := 16) (cs := secV (evs.getD s.2.toNat default).val) rfl h0 (at_lt hlt) (by decide) rfl ?_ ?_
      · intro j hj
        show _ = (evC _).toList[1 + j]?
        rw [← evC_sec, Array.getElem?_extract, Array.getElem?_toList]
        have : (evC (evs.getD s.2.toNat default)).size = 19 := rfl
        rw [if_pos (by rw [this]; omega)]
      · refine StA_all h6 rfl rfl (one_secV _) ?_
        refine fin (w6.upd b3 (.cells (secV (evs.getD s.2.toNat default).val) 23 (0, 0))) (Keep.one _ _ _) ?_
        have : cur evs start s.2 = (evs.getD s.2.toNat default).val := by unfold cur; rw [if_pos h0]
        rw [this]
        exact h6.upd_same _
    · have h0 : ¬ 0 ≤ s.2 := by simpa using h0
      refine fin w6 (Keep.refl _ _) ?_
      have : cur evs start s.2 = start := by unfold cur; rw [if_neg h0]
      rw [this]; exact h6
  · have hj : j = el := by simp only [decide_eq_false_iff_not] at hcd; omega
    subst hj
    refine sort_srow cmp_last enter59 o4 (by omega) fun rs' w5 hperm hsort o5 k5 => ?_
    have hmem : ∀ v, v ∈ rs' ↔ v ∈ vs := fun v => hperm.mem_iff
    have hrl : rs'.length = l4 := by rw [hperm.length_eq]; exact o4.length.symm
    rw [Ret_nil]
    have e0 : chkN evs = 0 := by unfold chkN; rw [if_pos hc]
    have hres := hK p4 c4 rs' w5 ?_ ?_ ?_ ?_ ?_
    · rw [e0, hrl] at hres; exact hres
    · have o5' : OwnL seLay w5 q 23 p4 l4 c4 rs' := o5
      rw [← hrl] at o5'
      exact o5'.rebase (by have := k03.size; omega)
    · exact srt_of (hperm.nodup_iff.2 hn4) (fun v hv => hvok v ((hmem v).1 hv)) hsort
    · intro v
      rw [hmem, hm4, hc]
      simp only [true_and]
      constructor
      · rintro ⟨i, s, _, hs, e⟩
        obtain ⟨h1, h2⟩ := (hes s).1 (List.mem_of_getElem? hs)
        exact ⟨s, h1, h2, e⟩
      · rintro ⟨s, h1, h2, e⟩
        obtain ⟨i, hi⟩ := List.mem_iff_getElem?.1 ((hes s).2 ⟨h1, h2⟩)
        exact ⟨i, s, by have := (List.getElem?_eq_some_iff.1 hi).1; omega, hi, e⟩
    · exact fun v hv => hvok v ((hmem v).1 hv)
    · exact k04.trans' k5 fun k hk e => by
        have := (o4.lt e).1
        have := k03.size
        omega
end last
end Go.Proofs
