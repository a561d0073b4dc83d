/-
  The document's history: Ends and Orderly, the calls.
-/
import Derived.Test.YtdjlmpkjdgmkkaaRef21b
namespace Go.Proofs
open Go Go.Ev Go.RowKit
set_option linter.unusedSimpArgs false
set_option linter.unusedVariables false
set_option maxRecDepth 100000

section ends
variable {evs : List Evt} {start : Sec} {w : World} {p : Option Addr} {n c : Nat} {R : Value → World → Prop}
theorem reach_at {S a : Nat} {C : Nat → Bool} (hn : evs.length = n) (ha : a ≤ n) (hS : S < 2 ^ n) (hs : Snd evs start n C) (h0 : C n = true)
    (hd : ∀ s, Reach evs start s → s.1 < S → ∀ i, May evs start s i → C (idx n (nxt evs s i)) = true) : C (S * (n + 1) + a) = true ↔ Reach evs start (S, lastOf n a) := by
  refine ⟨hs S a hS ha, fun hr => ?_⟩
  have key : ∀ t, Reach evs start t → t.1 = S → C (idx n t) = true := by
    intro t ht
    cases ht with
    | start =>
      intro e
      subst e
      show C (0 * (n + 1) + pos n (-1)) = true
      rw [Nat.zero_mul, Nat.zero_add]
      exact h0
    | step hs hm =>
      rename_i s i
      intro e
      obtain ⟨_, _, h2, _⟩ := id hm
      have := nxt_gt (evs := evs) h2
      exact hd s hs (by omega) i hm
  have := key _ hr rfl
  unfold idx at this
  simp only [pos_last ha] at this
  exact this
theorem ref_Ends (h : SlL evLay w p n evs) (hl : n ≤ 10) (hok : ∀ x ∈ evs, EvOk x) (hst : SecOk start)
    (hK : ∀ (be : Nat) (E : Nat → Bool) w', w.heap.size ≤ be → Has w' be (.cells (ofF (n + 1) fun k => .bool (E k)) 4 (0, 0)) → (∀ k, k ≤ n → (E k = true ↔ ∃ s, Reach evs start s ∧ Cmp evs s ∧ pos n s.2 = k)) → Keep (fun _ => False) w w' → R (.slice (some ⟨be, 0, none⟩) (n + 1) (n + 1)) w') :
    CallV Try.prog 47 #[.agg (secV start), .slice p n c] w R := by
  apply C_ravelinref21_Ends
  unfold F_ravelinref21_Ends
  have hlen := h.1
  have hp := small_pow hl
  have ht := small_tab hl
  have hp0 : 0 < 2 ^ n := Nat.two_pow_pos n
  have hw : IntKind.wrap .i64 ((n : Int) + 1) = ((n + 1 : Nat) : Int) := by rw [wrapI (by omega) (by omega)]; omega
  have hsh : ishl .i64 1 (n : Int) = ((2 ^ n : Nat) : Int) := ishl_one (by omega)
  refine alc_new fun w1 hb1 k1 z1 => ?_
  refine ⟨by omega, ?_⟩
  have hN : IntKind.wrap .i64 ((ishl .i64 1 (n : Int)) * (IntKind.wrap .i64 ((n : Int) + 1))) = ((2 ^ n * (n + 1) : Nat) : Int) := by
    have em : ((2 ^ n : Nat) : Int) * ((n + 1 : Nat) : Int) = ((2 ^ n * (n + 1) : Nat) : Int) := (Int.natCast_mul _ _).symm
    rw [hsh, hw, em]
    generalize 2 ^ n * (n + 1) = q at *
    rw [wrapI (by omega) (by omega)]
  rw [hN]
  have hn1 : n < 2 ^ n * (n + 1) := by
    have : 1 * (n + 1) ≤ 2 ^ n * (n + 1) := Nat.mul_le_mul_right _ hp0
    omega
  refine ⟨_, _, mk_bools _ (by omega) w1, ?_⟩
  simp only [OpS_slice]
  have k2 : Keep (fun _ => False) w1 (w1.alloc (.cells (ofF (2 ^ n * (n + 1)) fun _ => .bool false) 4)) := Keep.new _ _ _
  have hc2 : Has (w1.alloc (.cells (ofF (2 ^ n * (n + 1)) fun _ => .bool false) 4)) w1.heap.size (.cells (ofF (2 ^ n * (n + 1)) fun _ => .bool false) 4 (0, 0)) := Has.new _ _
  have z2 : (w1.alloc (.cells (ofF (2 ^ n * (n + 1)) fun _ => .bool false) 4)).heap.size = w1.heap.size + 1 := by simp
  generalize w1.alloc (.cells (ofF (2 ^ n * (n + 1)) fun _ => .bool false) 4) = w2 at *
  generalize hbc : w1.heap.size = bc at *
  refine (st_own hc2 (by omega) (by omega)).2 ⟨rfl, ?_⟩
  rw [Int.toNat_natCast, put_cells (C := fun _ => false)]
  have hc3 := hc2.upd_same (.cells (ofF (2 ^ n * (n + 1)) fun j => .bool (putT (fun _ => false) n j)) 4 (0, 0))
  have k3 : Keep (fun _ => False) w1 (w2.upd bc (.cells (ofF (2 ^ n * (n + 1)) fun j => .bool (putT (fun _ => false) n j)) 4 (0, 0))) := k2.upd (by omega) _
  have z3 : (w2.upd bc (.cells (ofF (2 ^ n * (n + 1)) fun j => .bool (putT (fun _ => false) n j)) 4 (0, 0))).heap.size = bc + 1 := by simp [z2]
  generalize w2.upd bc (.cells (ofF (2 ^ n * (n + 1)) fun j => .bool (putT (fun _ => false) n j)) 4 (0, 0)) = w3 at *
  refine ⟨_, _, (by rw [hw]; exact mk_bools (n + 1) (by omega) w3), ?_⟩
  simp only [OpS_slice]
  have k4 : Keep (fun _ => False) w3 (w3.alloc (.cells (ofF (n + 1) fun _ => .bool false) 4)) := Keep.new _ _ _
  have he4 : Has (w3.alloc (.cells (ofF (n + 1) fun _ => .bool false) 4)) w3.heap.size (.cells (ofF (n + 1) fun _ => .bool false) 4 (0, 0)) := Has.new _ _
  generalize w3.alloc (.cells (ofF (n + 1) fun _ => .bool false) 4) = w4 at *
  generalize hbe : w3.heap.size = be at *
  have hc4 := k4.has hc3 (by simp)
  have k04 : Keep (fun _ => False) w w4 := (k1.trans k3).trans k4
  have hb4 := (k3.trans k4).has hb1 (by simp)
  generalize hq : w.heap.size = q at *
  -- the table's first entry
  have hs0 : Snd evs start n (putT (fun _ => false) n) := by
    have := (show Snd evs start n (fun _ => false) from fun S a _ _ h => by cases h).put (Reach.start (evs := evs) (start := start)) hlen.symm
    have e : idx n ((0, -1) : Stt) = n := by show 0 * (n + 1) + n = n; omega
    rw [e] at this
    exact this
  refine LoopC_of (σ := Int × Unit) (fun st w' => ∃ (S : Nat) (C E : Nat → Bool), st.1 = S ∧ S ≤ 2 ^ n ∧ Keep (fun k => k = bc ∨ k = be) w4 w' ∧ Has w' bc (.cells (ofF (2 ^ n * (n + 1)) fun k => .bool (C k)) 4 (0, 0)) ∧ Has w' be (.cells (ofF (n + 1) fun k => .bool (E k)) 4 (0, 0)) ∧
      Snd evs start n C ∧ C n = true ∧ (∀ s, Reach evs start s → s.1 < S → ∀ i, May evs start s i → C (idx n (nxt evs s i)) = true) ∧ (∀ k, k ≤ n → (E k = true ↔ ∃ s, Reach evs start s ∧ Cmp evs s ∧ s.1 < S ∧ pos n s.2 = k)))
    (fun st _ => (((2 ^ n : Nat) : Int) - st.1).toNat) ⟨0, putT (fun _ => false) n, fun _ => false, rfl, by omega, Keep.refl _ _, hc4, he4, hs0, put_at, fun s _ h => by omega, fun k _ => ⟨fun h => (by cases h), fun ⟨s, _, _, h, _⟩ => by omega⟩⟩ ?_
  rintro _ ⟨S1, u⟩ w5 ⟨S, C, E, hS, hSle, k5, hc5, he5, hs5, h05, hd5, hE5⟩
  simp only at hS ⊢
  subst hS
  refine ⟨by omega, ?_⟩
  refine Cb_of (fun hcond => ?_) (fun hcond => ?_)
  · rw [hsh] at hcond
    have hSl : S < 2 ^ n := by simp only [decide_eq_true_eq] at hcond; omega
    refine LoopC_of (σ := Int × Unit) (fun st w' => ∃ (a : Nat) (C E : Nat → Bool), st.1 = a ∧ a ≤ n + 1 ∧ Keep (fun k => k = bc ∨ k = be) w4 w' ∧ Has w' bc (.cells (ofF (2 ^ n * (n + 1)) fun k => .bool (C k)) 4 (0, 0)) ∧ Has w' be (.cells (ofF (n + 1) fun k => .bool (E k)) 4 (0, 0)) ∧
      Snd evs start n C ∧ C n = true ∧ (∀ s, Reach evs start s → (s.1 < S ∨ s.1 = S ∧ pos n s.2 < a) → ∀ i, May evs start s i → C (idx n (nxt evs s i)) = true) ∧ (∀ k, k ≤ n → (E k = true ↔ ∃ s, Reach evs start s ∧ Cmp evs s ∧ (s.1 < S ∨ s.1 = S ∧ pos n s.2 < a) ∧ pos n s.2 = k)))
      (fun st _ => (((n + 1 : Nat) : Int) - st.1).toNat) ⟨0, C, E, rfl, by omega, k5, hc5, he5, hs5, h05, fun s hs h => hd5 s hs (by omega), fun k hk => by
        rw [hE5 k hk]
        exact ⟨fun ⟨s, h1, h2, h3, h4⟩ => ⟨s, h1, h2, Or.inl h3, h4⟩, fun ⟨s, h1, h2, h3, h4⟩ => ⟨s, h1, h2, by omega, h4⟩⟩⟩ ?_
    rintro _ ⟨a1, u⟩ w6 ⟨a, C6, E6, ha, hale, k6, hc6, he6, hs6, h06, hd6, hE6⟩
    simp only at ha ⊢
    subst ha
    refine Cb_of (fun hcond2 => ?_) (fun hcond2 => ?_)
    · rw [hw] at hcond2
      have ha : a ≤ n := by simp only [decide_eq_true_eq] at hcond2; omega
      have hlt := idx_lt hSl ha
      have e1 : IntKind.wrap .i64 ((IntKind.wrap .i64 ((S : Int) * (IntKind.wrap .i64 ((n : Int) + 1)))) + (a : Int)) = ((S * (n + 1) + a : Nat) : Int) := by
        have em : (S : Int) * ((n + 1 : Nat) : Int) = ((S * (n + 1) : Nat) : Int) := (Int.natCast_mul _ _).symm
        rw [hw, em]
        generalize S * (n + 1) = qq at *
        generalize 2 ^ n * (n + 1) = tt at *
        rw [wrapI (x := (qq : Int)) (by omega) (by omega), wrapI (by omega) (by omega)]
        omega
      rw [e1]
      refine (ld_own hc6 (by omega) (by omega)).2 ?_
      rw [Int.toNat_natCast]
      simp only [OpB_bool]
      have hra := reach_at (a := a) hlen.symm ha hSl hs6 h06 fun s hs h i hm => hd6 s hs (Or.inl h) i hm
      have ew : IntKind.wrap .i64 ((a : Int) + 1) = ((a + 1 : Nat) : Int) := by rw [wrapI (by omega) (by omega)]; omega
      refine Cb_of (fun hg => ?_) (fun hg => ?_)
      · rw [ew]
        have hno : ¬ Reach evs start (S, lastOf n a) := fun hr => by rw [hra.2 hr] at hg; cases hg
        have hnop : ∀ s, Reach evs start s → ¬ (s.1 = S ∧ pos n s.2 = a) := by
          rintro s hs ⟨h1, h2⟩
          have hsm := hs.small
          apply hno
          rw [← h1, ← h2, last_pos (by omega) (by omega)]
          exact hs
        refine ⟨_, by show (((n + 1 : Nat) : Int) - ((a + 1 : Nat) : Int)).toNat < _; omega, ⟨a + 1, C6, E6, rfl, by omega, k6, hc6, he6, hs6, h06, fun s hs h => hd6 s hs ?_, fun k hk => ?_⟩, rfl⟩
        · have := hnop s hs; omega
        · rw [hE6 k hk]
          exact ⟨fun ⟨s, h1, h2, h3, h4⟩ => ⟨s, h1, h2, by omega, h4⟩, fun ⟨s, h1, h2, h3, h4⟩ => ⟨s, h1, h2, by have := hnop s h1; omega, h4⟩⟩
      have hr : Reach evs start (S, lastOf n a) := hra.1 (by simpa using hg)
      have hb6 := k6.has hb4 (by have := hb4.lt; have := hb1.lt; omega)
      refine LdA_all hb6 rfl ?_
      refine copy_of zc_se rfl (one_secV start) fun w7 hb7 k7 _ => ?_
      generalize hb3 : w6.heap.size = b3 at *
      have hb3c : b3 ≠ bc := by have := hc6.lt; omega
      have done : ∀ w8, Keep (fun _ => False) w6 w8 → Has w8 b3 (.cells (secV (cur evs start (lastOf n a))) 23 (0, 0)) → ELoop (some ⟨bc, 0, none⟩) (2 ^ n * (n + 1)) (some ⟨be, 0, none⟩) (n + 1) p n c (S : Int) (a : Int) b3 w8 (fun st w' => ∃ m', m' < (((n + 1 : Nat) : Int) - (a : Int)).toNat ∧ ((∃ (a : Nat) (C E : Nat → Bool), st.1 = a ∧ a ≤ n + 1 ∧ Keep (fun k => k = bc ∨ k = be) w4 w' ∧ Has w' bc (.cells (ofF (2 ^ n * (n + 1)) fun k => .bool (C k)) 4 (0, 0)) ∧ Has w' be (.cells (ofF (n + 1) fun k => .bool (E k)) 4 (0, 0)) ∧
          Snd evs start n C ∧ C n = true ∧ (∀ s, Reach evs start s → (s.1 < S ∨ s.1 = S ∧ pos n s.2 < a) → ∀ i, May evs start s i → C (idx n (nxt evs s i)) = true) ∧ (∀ k, k ≤ n → (E k = true ↔ ∃ s, Reach evs start s ∧ Cmp evs s ∧ (s.1 < S ∨ s.1 = S ∧ pos n s.2 < a) ∧ pos n s.2 = k))) ∧ (((n + 1 : Nat) : Int) - st.1).toNat = m')) := by
        intro w8 k8 hb8
        have kB : Keep (fun k => w.heap.size ≤ k) w w8 := by
          have hz : q ≤ bc := by rw [← hbc]; have := z1; omega
          have hz2 : q ≤ be := by omega
          refine ((k04.mono (S' := fun k => w.heap.size ≤ k) (by simp)).trans (k6.mono fun k hk => ?_)).trans (k8.mono (by simp))
          rcases hk with h | h <;> omega
        refine eloop h kB (by rw [hq, ← hbc]; omega) hl hok hst hSl ha hr (k8.has hc6 (by simp)) (k8.has he6 (by simp)) (by omega) hb8 hb3c hs6 fun C9 w9 hc9 he9 hs9 hge hin k9 => ?_
        refine ⟨_, by show (((n + 1 : Nat) : Int) - ((a + 1 : Nat) : Int)).toNat < _; omega, ⟨a + 1, C9, _, rfl, by omega, (k6.trans (k8.mono (by simp))).trans k9, hc9, he9, hs9, hge _ h06, fun s hs h i hm => ?_, fun k hk => ?_⟩, rfl⟩
        · by_cases hsa : s.1 = S ∧ pos n s.2 = a
          · have hsm := hs.small
            have : s = (S, lastOf n a) := by
              refine Prod.ext hsa.1 ?_
              show s.2 = lastOf n a
              rw [← hsa.2, last_pos (by omega) (by omega)]
            subst this
            exact hin i hm
          · exact hge _ (hd6 s hs (by omega) i hm)
        · show (if k = a then E6 a || cmpB evs (S, lastOf n a) else E6 k) = true ↔ _
          by_cases hka : k = a
          · subst hka
            rw [if_pos rfl, Bool.or_eq_true, hE6 k hk, cmpB_iff]
            constructor
            · rintro (⟨s, h1, h2, h3, h4⟩ | h1)
              · exact ⟨s, h1, h2, by omega, h4⟩
              · exact ⟨_, hr, h1, Or.inr ⟨rfl, by show pos n (lastOf n k) < k + 1; rw [pos_last hk]; omega⟩, pos_last hk⟩
            · rintro ⟨s, h1, h2, h3, h4⟩
              by_cases hs : s.1 = S
              · right
                have hsm := h1.small
                have : s = (S, lastOf n k) := by
                  refine Prod.ext hs ?_
                  show s.2 = lastOf n k
                  rw [← h4, last_pos (by omega) (by omega)]
                rw [← this]; exact h2
              · exact Or.inl ⟨s, h1, h2, by omega, h4⟩
          · rw [if_neg hka, hE6 k hk]
            exact ⟨fun ⟨s, h1, h2, h3, h4⟩ => ⟨s, h1, h2, by omega, h4⟩, fun ⟨s, h1, h2, h3, h4⟩ => ⟨s, h1, h2, by omega, h4⟩⟩
      refine Cb_of (fun hlast => ?_) (fun hlast => ?_)
      · have hlast : a < n := by simp only [decide_eq_true_eq] at hlast; omega
        have h7 : SlL evLay w7 p n evs := by
          have hz : q ≤ bc := by rw [← hbc]; have := z1; omega
          have hz2 : q ≤ be := by omega
          refine h.keepB (((k04.mono (S' := fun k => w.heap.size ≤ k) (by simp)).trans (k6.mono fun k hk => ?_)).trans (k7.mono (by simp))) (by intro k hk; omega)
          rcases hk with h | h <;> omega
        have g' := at_lt (evs := evs) (i := a) (by omega)
        have gi : evs[((a : Nat) : Int).toNat]? = some (evs.getD a default) := by rw [Int.toNat_natCast]; exact g'
        refine SlL.ldP h7 (t := 1) (m := 16) (cs := secV (evs.getD a default).val) rfl (by omega) gi (by decide) rfl ?_ ?_
        · intro j hj
          show _ = (evC _).toList[1 + j]?
          rw [← evC_sec, Array.getElem?_extract, Array.getElem?_toList]
          have : (evC (evs.getD a default)).size = 19 := rfl
          rw [if_pos (by rw [this]; omega)]
        · refine StA_all hb7 rfl rfl (one_secV _) ?_
          refine done (w7.upd b3 _) (Keep.upd k7 (k := b3) (by omega) _) ?_
          have : cur evs start (lastOf n a) = (evs.getD a default).val := by
            unfold cur lastOf
            rw [if_pos hlast, if_pos (by omega)]; simp
          rw [this]
          exact hb7.upd_same _
      · have hlast : ¬ a < n := by simp only [decide_eq_false_iff_not] at hlast; omega
        refine done w7 k7 ?_
        have : cur evs start (lastOf n a) = start := by
          unfold cur lastOf
          rw [if_neg hlast, if_neg (by omega)]
        rw [this]
        exact hb7
    · rw [hw] at hcond2
      have ha : a = n + 1 := by simp only [decide_eq_false_iff_not] at hcond2; omega
      subst ha
      have ew : IntKind.wrap .i64 ((S : Int) + 1) = ((S + 1 : Nat) : Int) := by rw [wrapI (by omega) (by omega)]; omega
      rw [ew]
      have hple : ∀ s, Reach evs start s → pos n s.2 ≤ n := fun s hs => pos_le (by have := hs.small; omega)
      refine ⟨_, by show (((2 ^ n : Nat) : Int) - ((S + 1 : Nat) : Int)).toNat < _; omega, ⟨S + 1, C6, E6, rfl, by omega, k6, hc6, he6, hs6, h06, fun s hs h => hd6 s hs (by have := hple s hs; omega), fun k hk => ?_⟩, rfl⟩
      rw [hE6 k hk]
      exact ⟨fun ⟨s, h1, h2, h3, h4⟩ => ⟨s, h1, h2, by omega, h4⟩, fun ⟨s, h1, h2, h3, h4⟩ => ⟨s, h1, h2, by have := hple s h1; omega, h4⟩⟩
  · rw [hsh] at hcond
    have hSe : S = 2 ^ n := by simp only [decide_eq_false_iff_not] at hcond; omega
    subst hSe
    rw [Ret_nil]
    refine hK be E w5 (by omega) he5 (fun k hk => ?_) ?_
    · rw [hE5 k hk]
      exact ⟨fun ⟨s, h1, h2, h3, h4⟩ => ⟨s, h1, h2, h4⟩, fun ⟨s, h1, h2, h4⟩ => ⟨s, h1, h2, by have := h1.small.1; rw [← hlen] at this; exact this, h4⟩⟩
    · exact k04.trans' k5 fun k hk h => by
        rcases h with h | h <;> omega
end ends
end Go.Proofs
