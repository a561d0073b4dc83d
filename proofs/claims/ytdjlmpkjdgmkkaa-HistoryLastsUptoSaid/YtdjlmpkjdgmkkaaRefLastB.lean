/-
  The document's Last, the call; HistoryLasts, the walk.
-/
import Derived.Test.YtdjlmpkjdgmkkaaRefLast
namespace Go.Proofs
open Go Go.Ev Go.RowKit
set_option linter.unusedSimpArgs false
set_option linter.unusedVariables false
set_option maxRecDepth 100000

/-! ### putting a sector into its place -/
theorem srt_put {A B : List Sec} {v : Sec} (h : Srt (A ++ B)) (hB : ∀ b ∈ B, cmpS v b < 0) (hA : ∀ x, A.getLast? = some x → cmpS x v < 0) : Srt (A ++ v :: B) := by
  unfold Srt at h ⊢
  rw [List.pairwise_append] at h ⊢
  obtain ⟨h1, h2, h3⟩ := h
  refine ⟨h1, List.pairwise_cons.2 ⟨hB, h2⟩, fun a ha b hb => ?_⟩
  rcases List.mem_cons.1 hb with e | e
  · subst e
    rcases List.eq_nil_or_concat A with e | ⟨A', x, e⟩
    · subst e; simp at ha
    · subst e
      have hx := hA x (by simp)
      simp only [List.concat_eq_append] at ha h1
      rcases List.mem_append.1 ha with h | h
      · rw [List.pairwise_append] at h1
        exact cmpS_trans (h1.2.2 a h x (by simp)) hx
      · rw [List.mem_singleton.1 h]; exact hx
  · exact h3 a ha b e
theorem set_mid {A B : List Sec} {x v : Sec} : ((A ++ [x] ++ v :: B).set (A.length + 1) x).set A.length v = A ++ v :: x :: B := by
  rw [List.set_append_right _ _ (by simp)]
  simp only [List.length_append, List.length_cons, List.length_nil, Nat.zero_add, Nat.sub_self, List.set_cons_zero]
  rw [List.append_assoc, List.set_append_right _ _ (by simp)]
  simp
section calls
variable {w : World} {base : Nat}
def RIns (p3 : Option Addr) (l3 : Nat) (w : World) (KK : World → Prop) : Prop :=
  LoopC (σ := Int × Unit) (fun _ s3 w K3 => HeldR w fun S w => Cb (decide (s3.1 > 0)) (IdxS p3 l3 s3.1 16 fun b5 o3 => LdA 16 b5 o3 (At w) fun cs6 => IdxS p3 l3 (IntKind.wrap .i64 (s3.1 - 1)) 16 fun b6 o4 => LdA 16 b6 o4 (At w) fun cs7 => CallV Try.prog 61 #[.agg cs6, .agg cs7] w fun v6 w => OpB v6 fun g2 => Hld (S w) (Cb g2 (HeldR w fun S w => IdxS p3 l3 (IntKind.wrap .i64 (s3.1 - 1)) 16 fun b7 o5 => LdA 16 b7 o5 (At w) fun cs8 => IdxS p3 l3 s3.1 16 fun b8 o6 => LdA 16 b8 o6 (At w) fun cs9 => IdxS p3 l3 s3.1 16 fun b9 o7 => StA 16 b9 o7 cs8 w fun w => Hld (S w) (IdxS p3 l3 (IntKind.wrap .i64 (s3.1 - 1)) 16 fun b10 o8 => StA 16 b10 o8 cs9 w fun w => Hld (S w) (K3 (IntKind.wrap .i64 (s3.1 - 1), ()) w))) (KK w))) (Hld (S w) (KK w))) (IntKind.wrap .i64 (((l3 : Nat) : Int) - 1), ()) w
theorem rins {p : Option Addr} {l c : Nat} {vs : List Sec} {v : Sec} {KK : World → Prop} (ho : OwnL seLay w base 23 p (l + 1) c (vs ++ [v])) (hl : l ≤ 100000) (hs : Srt vs) (hn : v ∉ vs) (hok : ∀ u ∈ vs, SecOk u) (hv : SecOk v)
    (hK : ∀ ws w', OwnL seLay w' base 23 p (l + 1) c ws → Srt ws → (∀ u, u ∈ ws ↔ u ∈ vs ∨ u = v) → Keep (fun k => p = some ⟨k, 0, none⟩) w w' → KK w') : RIns p (l + 1) w KK := by
  unfold RIns
  have hlen := ho.length
  have e0 : IntKind.wrap .i64 (((l + 1 : Nat) : Int) - 1) = (l : Int) := by rw [wrapI (by omega) (by omega)]; omega
  rw [e0]
  refine LoopC_of (σ := Int × Unit) (fun st w' => ∃ A B, st.1 = (A.length : Int) ∧ vs = A ++ B ∧ (∀ b ∈ B, cmpS v b < 0) ∧ OwnL seLay w' base 23 p (l + 1) c (A ++ v :: B) ∧ Keep (fun k => p = some ⟨k, 0, none⟩) w w')
    (fun st _ => st.1.toNat) ⟨vs, [], by simp at hlen; show (l : Int) = (vs.length : Int); omega, by simp, by simp, ho, Keep.refl _ _⟩ ?_
  rintro _ ⟨i1, u⟩ w1 ⟨A, B, hi, hvs, hB, o1, k1⟩
  simp only at hi ⊢
  subst hi
  have fin : (∀ x, A.getLast? = some x → cmpS x v < 0) → ∀ w', Keep (fun _ => False) w1 w' → KK w' := by
    intro hA w' k
    refine hK (A ++ v :: B) w' (o1.keep k (by simp)) (srt_put (by rw [← hvs]; exact hs) hB hA) (fun u => ?_) (k1.trans (k.mono (by simp)))
    rw [hvs]
    simp only [List.mem_append, List.mem_cons]
    constructor
    · rintro (h | h | h)
      · exact Or.inl (Or.inl h)
      · exact Or.inr h
      · exact Or.inl (Or.inr h)
    · rintro ((h | h) | h)
      · exact Or.inl h
      · exact Or.inr (Or.inr h)
      · exact Or.inr (Or.inl h)
  intro d
  have kd : Keep (fun _ => False) w1 (w1.dr d) := Keep.drew _ _ d
  have od := o1.keep kd (by simp)
  refine ⟨fun _ => True, trivial, ?_⟩
  refine Cb_of (fun hc => ?_) (fun hc => ?_)
  · have hpos : 0 < A.length := by simp only [decide_eq_true_eq] at hc; omega
    rcases List.eq_nil_or_concat A with e | ⟨A', x, e⟩
    · subst e; simp at hpos
    rw [List.concat_eq_append] at e
    subst e
    have hla : (A' ++ [x]).length = A'.length + 1 := by simp
    have hlen1 := o1.length
    have hsmall : A'.length + 1 ≤ 100001 := by simp only [List.length_append, List.length_cons, List.length_nil] at hlen1; omega
    have ew : IntKind.wrap .i64 (((A' ++ [x]).length : Int) - 1) = (A'.length : Int) := by rw [hla, wrapI (by omega) (by omega)]; omega
    rw [ew, hla]
    have gj : (A' ++ [x] ++ v :: B)[((A'.length + 1 : Nat) : Int).toNat]? = some v := by
      rw [Int.toNat_natCast, List.getElem?_append_right (by simp)]; simp
    have gi : (A' ++ [x] ++ v :: B)[((A'.length : Nat) : Int).toNat]? = some x := by
      rw [Int.toNat_natCast, List.append_assoc, List.getElem?_append_right (by simp)]; simp
    refine od.ldA rfl (by omega) gj ?_
    refine od.ldA rfl (by omega) gi ?_
    have hx : x ∈ vs := by rw [hvs]; simp
    refine ref_less hv (hok x hx) fun w2 k2 => ?_
    rw [OpB_bool]
    refine ⟨trivial, ?_⟩
    have o2 := od.keep k2 (by simp)
    refine Cb_of (fun hg => ?_) (fun hg => ?_)
    · have hg : cmpS v x < 0 := by simpa using hg
      intro d2
      have o2d := o2.keep (Keep.drew (fun _ => False) w2 d2) (by simp)
      refine ⟨fun _ => True, trivial, ?_⟩
      refine o2d.ldA rfl (by omega) gi ?_
      refine o2d.ldA rfl (by omega) gj ?_
      refine o2d.stA rfl (by omega) (by have := o1.length; simp only [List.length_append, List.length_cons, List.length_nil] at this; omega) x rfl fun w3 o3 k3 _ => ?_
      refine ⟨trivial, ?_⟩
      refine o3.stA rfl (by omega) (by have := o1.length; simp only [List.length_append, List.length_cons, List.length_nil] at this; omega) v rfl fun w4 o4 k4 _ => ?_
      refine ⟨trivial, ?_⟩
      rw [Int.toNat_natCast, Int.toNat_natCast, set_mid] at o4
      refine ⟨A'.length, by show A'.length < ((A'.length + 1 : Nat) : Int).toNat; omega, ⟨A', x :: B, rfl, by rw [hvs]; simp, fun b hb => ?_, o4, ?_⟩, by simp⟩
      · rcases List.mem_cons.1 hb with e | e
        · rw [e]; exact hg
        · exact hB b e
      · exact (((k1.trans (kd.mono (by simp))).trans (k2.mono (by simp))).trans ((Keep.drew (fun k => p = some ⟨k, 0, none⟩) w2 d2).trans k3)).trans k4
    · have hg : ¬ cmpS v x < 0 := by simpa using hg
      refine fin (fun y hy => ?_) w2 (kd.trans k2)
      simp only [List.getLast?_append, List.getLast?_singleton, Option.some_or, Option.some.injEq] at hy
      subst hy
      have h1 := cmpS_anti v x
      have h2 : cmpS v x ≠ 0 := fun e => by
        have := cmpS_zero hv (hok x hx) e
        subst this
        exact hn hx
      omega
  · refine ⟨trivial, fin (fun y hy => ?_) _ kd⟩
    have : A.length = 0 := by simp only [decide_eq_false_iff_not] at hc; omega
    have : A = [] := List.eq_nil_of_length_eq_zero this
    subst this
    simp at hy
def RRest (b1 : Nat) (p : Option Addr) (l : Nat) (i : Int) (q : Option Addr) (ql qc : Nat) (w : World) (K1 : (Option Addr × Nat × Nat) × Int × Unit → World → Prop) : Prop :=
  IdxS p l i 1 fun b3 o1 => LdV b3 o1 (At w) fun v3 => OpB v3 fun g => LoopC (σ := Bool × Int × Unit) (fun _ s2 w K2 => Cb (decide (s2.2.1 < ((ql : Nat) : Int))) (Cb s2.1 (Drw w fun w => K2 (true, (IntKind.wrap .i64 (s2.2.1 + 1), ())) w) (IdxS q ql s2.2.1 16 fun b4 o2 => LdA 16 b4 o2 (At w) fun cs3 => LdA 16 b1 0 (At w) fun cs4 => EqB Try.prog .eql 23 (.tmp 52) (.tmp 53) (.agg cs3 : Value) (.agg cs4 : Value) (At w) fun g1 => Drw w fun w => K2 (g1, (IntKind.wrap .i64 (s2.2.1 + 1), ())) w)) (Cb s2.1 (K1 ((q, ql, qc), (IntKind.wrap .i64 (i + 1), ())) w) (LdA 16 b1 0 (At w) fun cs5 => DoV Try.prog (Instr.buildSlice 63 1 #[(0, .agg cs5)]) w fun v4 w => OpS v4 fun p2 l2 c2 => DoV Try.prog (Builtin.append_ #[63, 63] 63 #[.slice q ql qc, .slice p2 l2 c2]) w fun v5 w => OpS v5 fun p3 l3 c3 => RIns p3 l3 w fun w => K1 ((p3, l3, c3), (IntKind.wrap .i64 (i + 1), ())) w))) (!g, (0, ())) w
theorem rrest {b1 be n i : Nat} {E : Nat → Bool} {q : Option Addr} {ql qc : Nat} {vs : List Sec} {v : Sec} {K1 : (Option Addr × Nat × Nat) × Int × Unit → World → Prop} (hE : Has w be (.cells (ofF (n + 1) fun k => .bool (E k)) 4 (0, 0))) (hi : i ≤ n)
    (ho : OwnL seLay w base 23 q ql qc vs) (hl : ql ≤ 1000) (hs : Srt vs) (hok : ∀ u ∈ vs, SecOk u) (hv : SecOk v) (h1 : Has w b1 (.cells (secV v) 23 (0, 0))) (hb : base ≤ w.heap.size)
    (hK : ∀ q' ql' qc' ws w', OwnL seLay w' base 23 q' ql' qc' ws → ql' ≤ ql + 1 → Srt ws → (∀ u, u ∈ ws ↔ u ∈ vs ∨ (E i = true ∧ u = v)) → Keep (fun k => base ≤ k) w w' → K1 ((q', ql', qc'), (IntKind.wrap .i64 ((i : Int) + 1), ())) w') :
    RRest b1 (some ⟨be, 0, none⟩) (n + 1) (i : Int) q ql qc w K1 := by
  unfold RRest
  have hlen := ho.length
  refine (ld_own hE (by omega) (by omega)).2 ?_
  rw [Int.toNat_natCast, OpB_bool]
  refine LoopC_of (σ := Bool × Int × Unit) (fun st w' => Keep (fun _ => False) w w' ∧ ∃ j : Nat, st.2.1 = j ∧ j ≤ ql ∧ (st.1 = true ↔ E i = false ∨ ∃ k u, k < j ∧ vs[k]? = some u ∧ u = v)) (fun st _ => (ql - st.2.1).toNat)
    ⟨Keep.refl _ _, 0, rfl, by omega, by simp⟩ ?_
  rintro _ ⟨W, i1, u⟩ w1 ⟨k1, j, hj, hjl, hW⟩
  simp only at hj hW ⊢
  subst hj
  have o1 := ho.keep k1 (by simp)
  refine Cb_of (fun hc => ?_) (fun hc => ?_)
  · have hj : j < ql := by simp only [decide_eq_true_eq] at hc; omega
    have ew : IntKind.wrap .i64 ((j : Int) + 1) = ((j + 1 : Nat) : Int) := by rw [wrapI (by omega) (by omega)]; omega
    rw [ew]
    refine Cb_of (fun hw => ?_) (fun hw => ?_)
    · intro d
      refine ⟨_, by show ((ql : Int) - ((j + 1 : Nat) : Int)).toNat < _; omega, ⟨k1.dr d, j + 1, rfl, hj, ?_⟩, rfl⟩
      show True ↔ _
      rcases hW.1 hw with h | ⟨k, u, h1, h2, h3⟩
      · exact ⟨fun _ => Or.inl h, fun _ => trivial⟩
      · exact ⟨fun _ => Or.inr ⟨k, u, by omega, h2, h3⟩, fun _ => trivial⟩
    · have g' : vs[j]? = some (vs[j]'(by omega)) := by simp [show j < vs.length by omega]
      have g : vs[((j : Nat) : Int).toNat]? = some (vs[j]'(by omega)) := by rw [Int.toNat_natCast]; exact g'
      refine o1.ldA rfl (by omega) g ?_
      refine LdA_all (k1.has h1 (by simp)) rfl ?_
      refine EqB_sec (hok _ (List.mem_of_getElem? g')) hv fun r hr => ?_
      intro d
      refine ⟨_, by show ((ql : Int) - ((j + 1 : Nat) : Int)).toNat < _; omega, ⟨k1.dr d, j + 1, rfl, hj, ?_⟩, rfl⟩
      show r = true ↔ _
      rw [hr]
      constructor
      · intro h; exact Or.inr ⟨j, _, by omega, g', h⟩
      · intro h
        apply Classical.byContradiction
        intro hne
        have : W = true := hW.2 (by
          rcases h with h | ⟨k, u, h1, h2, h3⟩
          · exact Or.inl h
          · by_cases hk : k = j
            · subst hk; rw [g'] at h2; cases h2; exact absurd h3 hne
            · exact Or.inr ⟨k, u, by omega, h2, h3⟩)
        rw [hw] at this; cases this
  · have hj : j = ql := by simp only [decide_eq_false_iff_not] at hc; omega
    subst hj
    have hWm : W = true ↔ E i = false ∨ v ∈ vs := by
      rw [hW]
      constructor
      · rintro (h | ⟨k, u, _, h2, rfl⟩)
        · exact Or.inl h
        · exact Or.inr (List.mem_of_getElem? h2)
      · rintro (h | h)
        · exact Or.inl h
        · obtain ⟨k, hk⟩ := List.mem_iff_getElem?.1 h
          exact Or.inr ⟨k, v, by have := (List.getElem?_eq_some_iff.1 hk).1; omega, hk, rfl⟩
    refine Cb_of (fun hw => ?_) (fun hw => ?_)
    · refine hK q j qc vs w1 o1 (by omega) hs (fun u => ?_) (k1.mono (by simp))
      constructor
      · exact Or.inl
      · rintro (h | ⟨h1, h2⟩)
        · exact h
        · rcases hWm.1 hw with h | h
          · rw [h1] at h; cases h
          · rw [h2]; exact h
    · have hE1 : E i = true := by
        cases h : E i
        · have := hWm.2 (Or.inl h); rw [hw] at this; cases this
        · rfl
      have hn : v ∉ vs := fun h => by have := hWm.2 (Or.inr h); rw [hw] at this; cases this
      refine LdA_all (k1.has h1 (by simp)) rfl ?_
      refine ⟨_, _, bsl_s1 v w1, ?_⟩
      simp only [OpS_slice]
      have k2 : Keep (fun _ => False) w1 (w1.alloc (.cells (secV v) 23)) := Keep.new _ _ _
      have h2 : Has (w1.alloc (.cells (secV v) 23)) w1.heap.size (.cells (secV v) 23 (0, 0)) := Has.new _ _
      generalize w1.alloc (.cells (secV v) 23) = w2 at *
      obtain ⟨p', c', w3, hr, o3, k3⟩ := run_appendL1 seLayT (o1.keep k2 (by simp)) (y := v) h2 rfl (ty := 63) (by omega) (by simp only [maxLen]; omega) (Nat.le_trans (Nat.le_trans hb k1.size) k2.size) (c2 := 1)
      refine ⟨_, _, hr, ?_⟩
      simp only [OpS_slice]
      refine rins o3 (by omega) hs hn hok hv fun ws w4 o4 s4 m4 k4 => ?_
      refine hK p' (j + 1) c' ws w4 o4 (Nat.le_refl _) s4 (fun u => by rw [m4]; simp [hE1]) ?_
      have kk : Keep (fun k => base ≤ k) w w3 := ((k1.trans k2).mono (by simp)).trans (k3.mono fun k hk => (ho.lt hk).1)
      exact kk.trans (k4.mono fun k hk => (o3.lt hk).1)
end calls
section last
variable {evs : List Evt} {start : Sec} {w : World} {p : Option Addr} {l c : Nat} {R : Value → World → Prop}
theorem bsl_s0 (w : World) : (Instr.buildSlice 63 0 #[]).run Try.prog w = .ok (.slice (some ⟨w.heap.size, 0, none⟩) 0 0) (w.alloc (.cells #[] 23)) := by kernel_rfl
theorem ref_Last (h : SlL evLay w p l evs) (hok : ∀ x ∈ evs, EvOk x) (hst : SecOk start)
    (hK : ∀ q d vs w', OwnL seLay w' w.heap.size 23 q vs.length d vs → Srt vs → (∀ v, v ∈ vs ↔ chk evs = true ∧ Holds21 evs start v) → Keep (fun _ => False) w w' → R (.tuple #[.slice q vs.length d, .int .i64 (chkN evs)]) w') :
    CallV Try.prog 44 #[.agg (secV start), .slice p l c] w R := by
  apply C_ravelinref21_Last
  unfold F_ravelinref21_Last
  have hlen := h.1
  refine alc_new fun w1 hb1 k1 _ => ?_
  refine ref_Check21 (h.keepB k1 (by simp)) fun w2 k2 => ?_
  simp only [OpI_int]
  rw [chkN_ne]
  have k12 := k1.trans k2
  refine Cb_of (fun hc => ?_) (fun hc => ?_)
  · have hc : chk evs = false := by simpa using hc
    rw [Ret_nil]
    have := hK none 0 [] w2 OwnL.nil List.Pairwise.nil (fun v => by simp [hc]) k12
    have e : chkN evs = 1 := by unfold chkN; rw [hc]; rfl
    rw [e] at this
    exact this
  have hc : chk evs = true := by simpa using hc
  have hl := chk_len hc
  have hb2 := k2.has hb1 (by simp)
  refine LdA_all hb2 rfl ?_
  refine ref_Ends (h.keepB k12 (by simp)) (by omega) hok hst fun be E w3 hbe he hE k3 => ?_
  simp only [OpS_slice]
  have k03 := k12.trans k3
  have hb3 := k3.has hb2 (by simp)
  refine ⟨_, _, bsl_s0 w3, ?_⟩
  simp only [OpS_slice]
  have k4 : Keep (fun _ => False) w3 (w3.alloc (.cells #[] 23)) := Keep.new _ _ _
  have o4 : OwnL seLay (w3.alloc (.cells #[] 23)) w3.heap.size 23 (some ⟨w3.heap.size, 0, none⟩) 0 0 [] := OwnL.new (xs := []) (by decide) rfl
  generalize w3.alloc (.cells #[] 23) = w4 at *
  generalize hq : w3.heap.size = q at *
  have hlt1 := hb3.lt
  have hlt2 := he.lt
  refine LoopC_of (σ := (Option Addr × Nat × Nat) × Int × Unit) (fun st w' => ∃ (j : Nat) (vs : List Sec), st.2.1 = j ∧ j ≤ l + 1 ∧ OwnL seLay w' q 23 st.1.1 st.1.2.1 st.1.2.2 vs ∧ Srt vs ∧ st.1.2.1 ≤ j ∧ (∀ v, v ∈ vs ↔ ∃ k, k < j ∧ E k = true ∧ v = cur evs start (lastOf l k)) ∧ Keep (fun k => q ≤ k) w3 w')
    (fun st _ => (((l + 1 : Nat) : Int) - st.2.1).toNat) ⟨0, [], rfl, by omega, o4, List.Pairwise.nil, by simp, fun v => by simp, k4.mono (by simp)⟩ ?_
  rintro _ ⟨⟨p5, l5, c5⟩, i1, u⟩ w5 ⟨j, vs, hj, hjl, o5, s5, hl5, hm5, k5⟩
  simp only at hj o5 hl5 ⊢
  subst hj
  have k05 : Keep (fun _ => False) w w5 := k03.trans' k5 fun k hk e => by have := k03.size; omega
  have hlast : ∀ k, k ≤ l → lastOf l k < evs.length := fun k hk => by unfold lastOf; split <;> omega
  have hvok : ∀ v ∈ vs, SecOk v := by
    intro v hv
    obtain ⟨k, hk, _, rfl⟩ := (hm5 v).1 hv
    exact cur_ok hok hst (hlast k (by omega))
  refine Cb_of (fun hcd => ?_) (fun hcd => ?_)
  · have hj : j < l + 1 := by simp only [decide_eq_true_eq] at hcd; omega
    refine LdA_all (k5.has hb3 (by omega)) rfl ?_
    refine copy_of zc_se rfl (one_secV start) fun w6 h6 k6 z6 => ?_
    generalize hb6 : w5.heap.size = b6 at *
    have o6 := o5.keep k6 (by simp)
    have fin : ∀ w7, Keep (fun k => k = b6) w6 w7 → Has w7 b6 (.cells (secV (cur evs start (lastOf l j))) 23 (0, 0)) → RRest b6 (some ⟨be, 0, none⟩) (l + 1) (j : Int) p5 l5 c5 w7 (fun st w' => ∃ m', m' < (((l + 1 : Nat) : Int) - (j : Int)).toNat ∧ ((∃ (j : Nat) (vs : List Sec), st.2.1 = j ∧ j ≤ l + 1 ∧ OwnL seLay w' q 23 st.1.1 st.1.2.1 st.1.2.2 vs ∧ Srt vs ∧ st.1.2.1 ≤ j ∧ (∀ v, v ∈ vs ↔ ∃ k, k < j ∧ E k = true ∧ v = cur evs start (lastOf l k)) ∧ Keep (fun k => q ≤ k) w3 w') ∧ (((l + 1 : Nat) : Int) - st.2.1).toNat = m')) := by
      intro w7 k7 h7
      have hq6 : q ≤ b6 := by have := k5.size; omega
      have ew : IntKind.wrap .i64 ((j : Int) + 1) = ((j + 1 : Nat) : Int) := by rw [wrapI (by omega) (by omega)]; omega
      have he7 := k7.has (k6.has (k5.has he (by omega)) (by simp)) (by have := k5.size; omega)
      refine rrest he7 (by omega) (o6.keep k7 fun k hp e => by have := (o5.lt hp).2; omega) (by omega) s5 hvok (cur_ok hok hst (hlast j (by omega))) h7 (by have := k7.size; have := k6.size; omega) fun p8 l8 c8 ws w8 o8 hl8 s8 m8 k8 => ?_
      refine ⟨_, by show (((l + 1 : Nat) : Int) - IntKind.wrap .i64 ((j : Int) + 1)).toNat < _; rw [ew]; omega, ⟨j + 1, ws, ew, hj, o8, s8, by show l8 ≤ j + 1; omega, fun v => ?_, ?_⟩, rfl⟩
      · rw [m8, hm5]
        constructor
        · rintro (⟨k, h1, h2, h3⟩ | ⟨h2, h3⟩)
          · exact ⟨k, by omega, h2, h3⟩
          · exact ⟨j, by omega, h2, h3⟩
        · rintro ⟨k, h1, h2, h3⟩
          by_cases hk : k = j
          · subst hk; exact Or.inr ⟨h2, h3⟩
          · exact Or.inl ⟨k, by omega, h2, h3⟩
      · exact ((k5.trans (k6.mono (by simp))).trans (k7.mono fun k hk => by rw [hk]; exact hq6)).trans k8
    refine Cb_of (fun h0 => ?_) (fun h0 => ?_)
    · have h0 : j < l := by simp only [decide_eq_true_eq] at h0; omega
      have hlt : j < evs.length := by omega
      refine SlL.ldP (h.keepB (k05.trans k6) (by simp)) (t := 1) (m := 16) (cs := secV (evs.getD j default).val) (x := evs.getD j default) rfl (by omega) (by rw [Int.toNat_natCast]; exact at_lt hlt) (by decide) rfl ?_ ?_
      · intro t ht
        show _ = (evC _).toList[1 + t]?
        rw [← evC_sec, Array.getElem?_extract, Array.getElem?_toList]
        have : (evC (evs.getD j default)).size = 19 := rfl
        rw [if_pos (by rw [this]; omega)]
      · refine StA_all h6 rfl rfl (one_secV _) ?_
        refine fin (w6.upd b6 (.cells (secV (evs.getD j default).val) 23 (0, 0))) (Keep.one _ _ _) ?_
        have : cur evs start (lastOf l j) = (evs.getD j default).val := by unfold cur lastOf; rw [if_pos h0, if_pos (by omega)]; simp
        rw [this]
        exact h6.upd_same _
    · have h0 : ¬ j < l := by simp only [decide_eq_false_iff_not] at h0; omega
      refine fin w6 (Keep.refl _ _) ?_
      have : cur evs start (lastOf l j) = start := by unfold cur lastOf; rw [if_neg h0, if_neg (by omega)]
      rw [this]; exact h6
  · have hj : j = l + 1 := by simp only [decide_eq_false_iff_not] at hcd; omega
    subst hj
    have hvl := o5.length
    subst hvl
    rw [Ret_nil]
    have e0 : chkN evs = 0 := by unfold chkN; rw [if_pos hc]
    have hres := hK p5 c5 vs w5 (o5.rebase (by have := k03.size; omega)) s5 ?_ k05
    · rw [e0] at hres; exact hres
    · intro v
      rw [hm5, hc]
      simp only [true_and]
      constructor
      · rintro ⟨k, hk, h2, e⟩
        obtain ⟨s, h3, h4, h5⟩ := (hE k (by omega)).1 h2
        refine ⟨s, h3, h4, ?_⟩
        rw [e, ← h5, last_pos (by have := h3.small; omega) (by have := h3.small; omega)]
      · rintro ⟨s, h3, h4, e⟩
        have hsm := h3.small
        have hp : pos l s.2 ≤ l := pos_le (by omega)
        refine ⟨pos l s.2, by omega, (hE _ hp).2 ⟨s, h3, h4, rfl⟩, ?_⟩
        rw [last_pos (by omega) (by omega)]; exact e
theorem lasts_run (h : SlL evLay w p l evs) (hok : ∀ x ∈ evs, EvOk x) (hst : SecOk start) (hR : ∀ w', Keep (fun _ => False) w w' → R (.bool true) w') :
    CallV Try.prog 8 #[.agg (secV start), .slice p l c] w R := by
  apply C_ravelinlaw21_HistoryLasts
  unfold F_ravelinlaw21_HistoryLasts
  refine alc_new fun w1 hb1 k1 _ => ?_
  refine LdA_all hb1 rfl ?_
  refine run_Last (h.keepB k1 (by simp)) hok hst fun q d vs w2 o2 s2 m2 hvs k2 => ?_
  rw [T2_mk, OpS_slice, OpI_int]
  refine LdA_all (k2.has hb1 (by simp)) rfl ?_
  refine ref_Last (h.keepB (k1.trans k2) (by simp)) hok hst fun q3 d3 ws w3 o3 s3 m3 k3 => ?_
  rw [T2_mk, OpS_slice, OpI_int]
  have e : vs = ws := Srt.ext s2 s3 fun v => by rw [m2, m3]
  subst e
  refine law21_awake fun w4 k4 => ?_
  rw [OpB_bool]
  refine (Cb_true (q := _)).2 ?_
  have o24 := o2.keep (k3.trans k4) (by simp)
  have o34 := o3.keep k4 (by simp)
  have hbig : vs.length ≤ 1000000 := by
    by_cases hc : chk evs = true
    · have hl := chk_len hc
      have hn : vs.Nodup := s2.imp fun {a b} h e => by rw [e, cmpS_self] at h; omega
      have := @nodup_len Sec (fun a b => Classical.propDecidable (a = b)) vs ((List.range 11).map fun k : Nat => cur evs start ((k : Int) - 1)) hn fun v hv => by
          obtain ⟨_, s, h1, _, e⟩ := (m2 v).1 hv
          have := h1.small
          refine List.mem_map.2 ⟨(s.2 + 1).toNat, List.mem_range.2 (by omega), ?_⟩
          rw [e]; congr 1; omega
      simp at this
      omega
    · have : vs = [] := by
        cases vs with
        | nil => rfl
        | cons v vs => exact absurd ((m2 v).1 (by simp)).1 hc
      rw [this]; simp
  refine ref_SameSectors o24.sl o34.sl hvs hbig fun w5 k5 => ?_
  rw [OpB_bool]
  refine ⟨rfl, rfl, rfl, Ret_nil.2 ?_⟩
  have := hR w5 ((((k1.trans k2).trans k3).trans k4).trans k5)
  simpa using this
theorem lasts_walk (h : SlL evLay w p l evs) (hok : ∀ x ∈ evs, EvOk x) (hst : SecOk start) :
    CallV Try.prog 8 #[.agg (secV start), .slice p l c] w fun v w' => v = .bool true ∧ Below w.heap.size w w' :=
  lasts_run h hok hst fun w' k => ⟨rfl, k.below⟩
end last
end Go.Proofs
