/-
  The document's history: Ends and Orderly.
-/
import Derived.Test.YtdjlmpkjdgmkkaaRef21
namespace Go.Proofs
open Go Go.Ev Go.RowKit
set_option linter.unusedSimpArgs false
set_option linter.unusedVariables false
set_option maxRecDepth 100000

/-! ### places in the table -/
def lastOf (n li : Nat) : Int := if li < n then (li : Int) else -1
def pos (n : Nat) (l : Int) : Nat := if l < 0 then n else l.toNat
def idx (n : Nat) (s : Stt) : Nat := s.1 * (n + 1) + pos n s.2
theorem pos_last {n li : Nat} (h : li ≤ n) : pos n (lastOf n li) = li := by
  unfold pos lastOf
  by_cases h1 : li < n
  · rw [if_pos h1, if_neg (by omega)]; simp
  · rw [if_neg h1, if_pos (by omega)]; omega
theorem last_pos {n : Nat} {l : Int} (h1 : -1 ≤ l) (h2 : l < n) : lastOf n (pos n l) = l := by
  unfold pos lastOf
  by_cases h : l < 0
  · rw [if_pos h, if_neg (by omega)]; omega
  · rw [if_neg h, if_pos (by omega)]; omega
theorem pos_le {n : Nat} {l : Int} (h2 : l < n) : pos n l ≤ n := by
  unfold pos; split <;> omega
theorem pos_inj {n : Nat} {k l : Int} (h1 : -1 ≤ l) (h2 : l < n) (h3 : -1 ≤ k) (h4 : k < n) (h : pos n k = pos n l) : k = l := by
  rw [← last_pos h1 h2, ← last_pos h3 h4, h]
theorem idx_inj {n S S' a b : Nat} (ha : a ≤ n) (hb : b ≤ n) (h : S * (n + 1) + a = S' * (n + 1) + b) : S = S' ∧ a = b := by
  have h1 : (S * (n + 1) + a) / (n + 1) = S := by
    rw [Nat.add_comm, Nat.add_mul_div_right _ _ (by omega), Nat.div_eq_of_lt (by omega)]; omega
  have h2 : (S' * (n + 1) + b) / (n + 1) = S' := by
    rw [Nat.add_comm, Nat.add_mul_div_right _ _ (by omega), Nat.div_eq_of_lt (by omega)]; omega
  have : S = S' := by rw [← h1, ← h2, h]
  subst this
  exact ⟨rfl, by omega⟩
theorem idx_lt {n S a : Nat} (hS : S < 2 ^ n) (ha : a ≤ n) : S * (n + 1) + a < 2 ^ n * (n + 1) := by
  have : (S + 1) * (n + 1) ≤ 2 ^ n * (n + 1) := Nat.mul_le_mul_right _ hS
  rw [Nat.add_mul] at this
  omega
theorem small_pow {n : Nat} (h : n ≤ 10) : 2 ^ n ≤ 1024 := Nat.le_trans (Nat.pow_le_pow_right (by decide) h) (by decide)
theorem small_tab {n : Nat} (h : n ≤ 10) : 2 ^ n * (n + 1) ≤ 11264 := Nat.le_trans (Nat.mul_le_mul (small_pow h) (show n + 1 ≤ 11 by omega)) (by decide)

section ends
variable {evs : List Evt} {start : Sec} {w : World}
/-- what stands in the table was reached -/
def Snd (evs : List Evt) (start : Sec) (n : Nat) (C : Nat → Bool) : Prop := ∀ S a, S < 2 ^ n → a ≤ n → C (S * (n + 1) + a) = true → Reach evs start (S, lastOf n a)
def putT (C : Nat → Bool) (k : Nat) : Nat → Bool := fun j => if j = k then true else C j
theorem Snd.put {n : Nat} {C : Nat → Bool} (h : Snd evs start n C) {s : Stt} (hs : Reach evs start s) (hn : evs.length = n) : Snd evs start n (putT C (idx n s)) := by
  have hsm := hs.small
  intro S a hS ha hc
  unfold putT at hc
  split at hc
  · rename_i e
    obtain ⟨e1, e2⟩ := idx_inj ha (pos_le (n := n) (l := s.2) (by omega)) e
    subst e1 e2
    rw [last_pos (by omega) (by omega)]
    exact hs
  · exact h S a hS ha hc
theorem put_ge {C : Nat → Bool} {k j : Nat} (h : C j = true) : putT C k j = true := by
  unfold putT
  split
  · rfl
  · exact h
theorem put_at {C : Nat → Bool} {k : Nat} : putT C k k = true := by unfold putT; simp
theorem put_cells {N k : Nat} {C : Nat → Bool} : (ofF N fun j => if j = k then Value.bool true else .bool (C j)) = ofF N fun j => .bool (putT C k j) :=
  ofF_congr fun i _ => by unfold putT; split <;> rfl

/-- the end of the inner loop's body, as it is printed -/
def ETail (p : Option Addr) (l : Nat) (eventsp : Option Addr) (eventsl eventsc : Nat) (set last i : Int) (b3 : Nat) (W : Bool) (w : World) (K3 : Bool × Int × Unit → World → Prop) : Prop :=
  LdA 16 b3 0 (At w) fun cs2 => CallV Try.prog 65 #[.slice eventsp eventsl eventsc, .int .i64 set, .int .i64 i, .agg cs2] w fun v4 w => OpB v4 fun g2 => Cb (!g2) (K3 (W, (IntKind.wrap .i64 (i + 1), ())) w) (IdxS eventsp eventsl i 19 fun b5 o3 => LdV b5 o3 (At w) fun v5 => OpB v5 fun g3 => Cb g3 (Req (0 ≤ i) (IdxS p l (IntKind.wrap .i64 ((IntKind.wrap .i64 ((ibits .or .i64 set (ishl .i64 1 i)) * (IntKind.wrap .i64 (((eventsl : Nat) : Int) + 1)))) + i)) 1 fun b6 o4 => StV b6 o4 (.bool true) w fun w => K3 (W, (IntKind.wrap .i64 (i + 1), ())) w)) (Req (0 ≤ i) (IdxS p l (IntKind.wrap .i64 ((IntKind.wrap .i64 ((ibits .or .i64 set (ishl .i64 1 i)) * (IntKind.wrap .i64 (((eventsl : Nat) : Int) + 1)))) + last)) 1 fun b7 o5 => StV b7 o5 (.bool true) w fun w => K3 (W, (IntKind.wrap .i64 (i + 1), ())) w)))
def ELoop (p : Option Addr) (l : Nat) (p1 : Option Addr) (l1 : Nat) (eventsp : Option Addr) (eventsl eventsc : Nat) (set last : Int) (b3 : Nat) (w : World) (K2 : Int × Unit → World → Prop) : Prop :=
  LoopC (σ := Bool × Int × Unit) (fun _ s3 w K3 => Cb (decide (s3.2.1 < ((eventsl : Nat) : Int))) (Cb s3.1 (CallV Try.prog 64 #[.int .i64 set, .int .i64 s3.2.1] w fun v3 w => OpB v3 fun g1 => Cb g1 (ETail p l eventsp eventsl eventsc set last s3.2.1 b3 true w K3) (IdxS eventsp eventsl s3.2.1 19 fun b8 o6 => LdV b8 (o6 + 18) (At w) fun v6 => OpI .i64 v6 fun n => ETail p l eventsp eventsl eventsc set last s3.2.1 b3 (decide (n < 0)) w K3)) (ETail p l eventsp eventsl eventsc set last s3.2.1 b3 false w K3)) (IdxS p1 l1 last 1 fun b15 o13 => LdV b15 o13 (At w) fun v11 => OpB v11 fun g8 => Req True (IdxS p1 l1 last 1 fun b16 o14 => StV b16 o14 (.bool (cond g8 true s3.1)) w fun w => K2 (IntKind.wrap .i64 (last + 1), ()) w))) (true, (0, ())) w

variable {ep : Option Addr} {n ec : Nat} {bc be b3 : Nat} {bt bt2 : TypeId}
theorem etail (h : SlL evLay w ep n evs) (hl : n ≤ 10) (hok : ∀ x ∈ evs, EvOk x) (hst : SecOk start) {S li i : Nat} (hS : S < 2 ^ n) (hli : li ≤ n) (hi : i < n) (hr : Reach evs start (S, lastOf n li)) {C : Nat → Bool}
    (hc : Has w bc (.cells (ofF (2 ^ n * (n + 1)) fun k => .bool (C k)) bt (0, 0))) (h3 : Has w b3 (.cells (secV (cur evs start (lastOf n li))) 23 (0, 0))) (hs : Snd evs start n C) {W : Bool} {K3 : Bool × Int × Unit → World → Prop}
    (hK : ∀ C' w', Has w' bc (.cells (ofF (2 ^ n * (n + 1)) fun k => .bool (C' k)) bt (0, 0)) → Snd evs start n C' → (∀ k, C k = true → C' k = true) → (May evs start (S, lastOf n li) i → C' (idx n (nxt evs (S, lastOf n li) i)) = true) →
      Keep (fun k => k = bc) w w' → K3 (W, (((i + 1 : Nat) : Int), ())) w') : ETail (some ⟨bc, 0, none⟩) (2 ^ n * (n + 1)) ep n ec (S : Int) (li : Int) (i : Int) b3 W w K3 := by
  unfold ETail
  have hlen := h.1
  have hp := small_pow hl
  have ht := small_tab hl
  have ew : IntKind.wrap .i64 ((i : Int) + 1) = ((i + 1 : Nat) : Int) := by rw [wrapI (by omega) (by omega)]; omega
  rw [ew]
  refine LdA_all h3 rfl ?_
  have hsm := hr.small
  refine ref_may (s := (S, lastOf n li)) h hl hok hst (by show S < 2 ^ 60; omega) hi hsm.2.2 fun g w1 hg k1 => ?_
  simp only [OpB_bool]
  have hc1 := k1.has hc (by simp)
  refine Cb_of (fun hg1 => ?_) (fun hg1 => ?_)
  · exact hK C w1 hc1 hs (fun _ h => h) (fun hm => by rw [hg.2 hm] at hg1; cases hg1) (k1.mono (by simp))
  have hmay : May evs start (S, lastOf n li) i := hg.1 (by simpa using hg1)
  have hn := hr.step hmay
  have g' := at_lt (evs := evs) (i := i) (by omega)
  have gi : evs[((i : Nat) : Int).toNat]? = some (evs.getD i default) := by rw [Int.toNat_natCast]; exact g'
  refine (h.keepB k1 (by simp)).ld0 rfl (by omega) gi (v := .bool (evs.getD i default).wr) rfl ?_
  simp only [OpB_bool]
  have hw : IntKind.wrap .i64 ((n : Int) + 1) = ((n + 1 : Nat) : Int) := by rw [wrapI (by omega) (by omega)]; omega
  have hS2 : S ||| 2 ^ i < 2 ^ n := Nat.or_lt_two_pow hS (Nat.pow_lt_pow_right (by decide) hi)
  have put : ∀ a : Nat, a ≤ n → idx n (nxt evs (S, lastOf n li) i) = (S ||| 2 ^ i) * (n + 1) + a → Req (0 ≤ (i : Int)) (IdxS (some ⟨bc, 0, none⟩) (2 ^ n * (n + 1)) (IntKind.wrap .i64 ((IntKind.wrap .i64 ((ibits .or .i64 (S : Int) (ishl .i64 1 (i : Int))) * (IntKind.wrap .i64 ((n : Int) + 1)))) + (a : Int))) 1 fun b6 o4 => StV b6 o4 (.bool true) w1 fun w => K3 (W, (((i + 1 : Nat) : Int), ())) w) := by
    intro a ha hidx
    refine ⟨by omega, ?_⟩
    have hlt := idx_lt hS2 ha
    have e1 : IntKind.wrap .i64 ((IntKind.wrap .i64 ((ibits .or .i64 (S : Int) (ishl .i64 1 (i : Int))) * (IntKind.wrap .i64 ((n : Int) + 1)))) + (a : Int)) = (((S ||| 2 ^ i) * (n + 1) + a : Nat) : Int) := by
      have em : ((S ||| 2 ^ i : Nat) : Int) * ((n + 1 : Nat) : Int) = (((S ||| 2 ^ i) * (n + 1) : Nat) : Int) := (Int.natCast_mul _ _).symm
      rw [bit_set (by omega) (by omega), hw, em]
      generalize (S ||| 2 ^ i) * (n + 1) = q at *
      generalize 2 ^ n * (n + 1) = tt at *
      rw [wrapI (x := (q : Int)) (by omega) (by omega), wrapI (by omega) (by omega)]
      omega
    rw [e1]
    refine (st_own hc1 (by omega) (by omega)).2 ⟨rfl, ?_⟩
    rw [Int.toNat_natCast, put_cells]
    refine hK (putT C _) _ (hc1.upd_same _) ?_ (fun k hk => put_ge hk) (fun _ => by rw [hidx]; exact put_at) ((k1.mono (S' := fun k => k = bc) (by simp)).upd (fun _ => rfl) _)
    rw [← hidx]
    exact hs.put hn hlen.symm
  refine Cb_of (fun hwr => ?_) (fun hwr => ?_)
  · refine put i (by omega) ?_
    unfold idx nxt
    rw [if_pos hwr]
    unfold pos
    rw [if_neg (by omega)]; simp
  · refine put li hli ?_
    unfold idx nxt
    rw [if_neg (by rw [hwr]; simp)]
    rw [pos_last hli]
theorem eloop {wB : World} (hB : SlL evLay wB ep n evs) (kB : Keep (fun k => wB.heap.size ≤ k) wB w) (hbc : wB.heap.size ≤ bc) (hl : n ≤ 10) (hok : ∀ x ∈ evs, EvOk x) (hst : SecOk start) {S li : Nat} (hS : S < 2 ^ n) (hli : li ≤ n) (hr : Reach evs start (S, lastOf n li)) {C E : Nat → Bool}
    (hc : Has w bc (.cells (ofF (2 ^ n * (n + 1)) fun k => .bool (C k)) bt (0, 0))) (he : Has w be (.cells (ofF (n + 1) fun k => .bool (E k)) bt2 (0, 0))) (hne : bc ≠ be) (h3 : Has w b3 (.cells (secV (cur evs start (lastOf n li))) 23 (0, 0))) (h3c : b3 ≠ bc) (hs : Snd evs start n C)
    {K2 : Int × Unit → World → Prop}
    (hK : ∀ C' w', Has w' bc (.cells (ofF (2 ^ n * (n + 1)) fun k => .bool (C' k)) bt (0, 0)) → Has w' be (.cells (ofF (n + 1) fun k => .bool (if k = li then E li || cmpB evs (S, lastOf n li) else E k)) bt2 (0, 0)) → Snd evs start n C' → (∀ k, C k = true → C' k = true) →
      (∀ i, May evs start (S, lastOf n li) i → C' (idx n (nxt evs (S, lastOf n li) i)) = true) → Keep (fun k => k = bc ∨ k = be) w w' → K2 (((li + 1 : Nat) : Int), ()) w') :
    ELoop (some ⟨bc, 0, none⟩) (2 ^ n * (n + 1)) (some ⟨be, 0, none⟩) (n + 1) ep n ec (S : Int) (li : Int) b3 w K2 := by
  unfold ELoop
  have hlen := hB.1
  have hp := small_pow hl
  refine LoopC_of (σ := Bool × Int × Unit) (fun st w' => ∃ (j : Nat) (C' : Nat → Bool), st.2.1 = j ∧ j ≤ n ∧ Keep (fun k => k = bc) w w' ∧ Has w' bc (.cells (ofF (2 ^ n * (n + 1)) fun k => .bool (C' k)) bt (0, 0)) ∧ Snd evs start n C' ∧ (∀ k, C k = true → C' k = true) ∧
      (∀ i, i < j → May evs start (S, lastOf n li) i → C' (idx n (nxt evs (S, lastOf n li) i)) = true) ∧ (st.1 = true ↔ ∀ i x, i < j → evs[i]? = some x → 0 ≤ x.to → S.testBit i = true))
    (fun st _ => (n - st.2.1).toNat) ⟨0, C, rfl, by omega, Keep.refl _ _, hc, hs, fun _ h => h, fun i hi => by omega, by simp⟩ ?_
  rintro _ ⟨W, i1, u⟩ w1 ⟨j, C', hj, hjl, k1, hc1, hs1, hge, hdone, hW⟩
  simp only at hj hW ⊢
  subst hj
  have h1 : SlL evLay w1 ep n evs := hB.keepB (kB.trans (k1.mono fun k hk => by rw [hk]; exact hbc)) (by intro k hk; omega)
  have h31 := k1.has h3 (by simpa using h3c)
  refine Cb_of (fun hcond => ?_) (fun hcond => ?_)
  · have hj : j < n := by simp only [decide_eq_true_eq] at hcond; omega
    have g' := at_lt (evs := evs) (i := j) (by omega)
    have g : evs[((j : Nat) : Int).toNat]? = some (evs.getD j default) := by rw [Int.toNat_natCast]; exact g'
    generalize hx : evs.getD j default = x at *
    have go : ∀ W' : Bool, (W' = true ↔ (W = true ∧ (0 ≤ x.to → S.testBit j = true))) → ETail (some ⟨bc, 0, none⟩) (2 ^ n * (n + 1)) ep n ec (S : Int) (li : Int) (j : Int) b3 W' w1 (fun st w' => ∃ m', m' < ((n : Int) - (j : Int)).toNat ∧ ((∃ (j' : Nat) (C' : Nat → Bool), st.2.1 = j' ∧ j' ≤ n ∧ Keep (fun k => k = bc) w w' ∧ Has w' bc (.cells (ofF (2 ^ n * (n + 1)) fun k => .bool (C' k)) bt (0, 0)) ∧ Snd evs start n C' ∧ (∀ k, C k = true → C' k = true) ∧
      (∀ i, i < j' → May evs start (S, lastOf n li) i → C' (idx n (nxt evs (S, lastOf n li) i)) = true) ∧ (st.1 = true ↔ ∀ i x, i < j' → evs[i]? = some x → 0 ≤ x.to → S.testBit i = true)) ∧ ((n : Int) - st.2.1).toNat = m')) := by
      intro W' hW'
      refine etail h1 hl hok hst hS hli hj hr hc1 h31 hs1 fun C2 w2 hc2 hs2 hge2 hin2 k2 => ?_
      refine ⟨_, by show ((n : Int) - ((j + 1 : Nat) : Int)).toNat < _; omega, ⟨j + 1, C2, rfl, hj, k1.trans k2, hc2, hs2, fun k hk => hge2 k (hge k hk), fun i hi hm => ?_, ?_⟩, rfl⟩
      · rcases Nat.lt_succ_iff_lt_or_eq.1 hi with h | h
        · exact hge2 _ (hdone i h hm)
        · subst h; exact hin2 hm
      · show W' = true ↔ _
        rw [hW', hW]
        constructor
        · rintro ⟨h1, h2⟩ i y hi hy
          rcases Nat.lt_succ_iff_lt_or_eq.1 hi with h | h
          · exact h1 i y h hy
          · subst h; rw [g'] at hy; cases hy; exact h2
        · intro h
          exact ⟨fun i y hi => h i y (by omega), h j x (by omega) g'⟩
    refine Cb_of (fun hw => ?_) (fun hw => ?_)
    · refine ref_in (by omega) (by omega) ?_
      simp only [OpB_bool]
      refine Cb_of (fun hbit => ?_) (fun hbit => ?_)
      · exact go true (by simp [hw, hbit])
      · refine h1.ldF (t := 18) rfl (by omega) g (v := .int .i64 x.to) rfl ?_
        simp only [OpI_int]
        exact go (decide (x.to < 0)) (by simp [hw, hbit])
    · exact go false (by simp [hw])
  · have hj : j = n := by simp only [decide_eq_false_iff_not] at hcond; omega
    subst hj
    have he1 := k1.has he (fun e => hne e.symm)
    refine (ld_own he1 (by omega) (by omega)).2 ?_
    simp only [OpB_bool, Int.toNat_natCast]
    refine ⟨by trivial, ?_⟩
    refine (st_own he1 (by omega) (by omega)).2 ⟨rfl, ?_⟩
    have ew : IntKind.wrap .i64 ((li : Int) + 1) = ((li + 1 : Nat) : Int) := by rw [wrapI (by omega) (by omega)]; omega
    rw [ew, Int.toNat_natCast]
    have hWc : (cond (E li) true W) = (E li || cmpB evs (S, lastOf j li)) := by
      have : W = cmpB evs (S, lastOf j li) := by
        rw [Bool.eq_iff_iff, hW, cmpB_iff]
        exact ⟨fun h i x hx => h i x (by have := (List.getElem?_eq_some_iff.1 hx).1; omega) hx, fun h i x _ hx => h i x hx⟩
      rw [← this]; cases E li <;> rfl
    rw [hWc]
    have hcell : (ofF (j + 1) fun k => if k = li then Value.bool (E li || cmpB evs (S, lastOf j li)) else .bool (E k)) = ofF (j + 1) fun k => .bool (if k = li then E li || cmpB evs (S, lastOf j li) else E k) := ofF_congr fun i _ => by split <;> rfl
    rw [hcell]
    refine hK C' _ (hc1.upd hne) (he1.upd_same _) hs1 hge (fun i hm => ?_) ((k1.mono (S' := fun k => k = bc ∨ k = be) fun k hk => Or.inl hk).upd (fun _ => Or.inr rfl) _)
    obtain ⟨y, hy, h2⟩ := hm
    exact hdone i (by have := (List.getElem?_eq_some_iff.1 hy).1; omega) ⟨y, hy, h2⟩
theorem mk_bools (N : Nat) (hN : N ≤ 100000) (w : World) : (Instr.makeSlice 67 (.int .i64 (N : Int)) (.int .i64 (N : Int))).run Try.prog w = .ok (.slice (some ⟨w.heap.size, 0, none⟩) N N) (w.alloc (.cells (ofF N fun _ => .bool false) 4)) := by
  have hs : ((Try.prog.info? 4).get (by kernel_rfl)).size = 1 := by kernel_rfl
  have hb : ((Try.prog.info? 4).get (by kernel_rfl)).bytes = 1 := by kernel_rfl
  have := run_makeSlice (P := Try.prog) (w := w) 67 4 ((Try.prog.info? 4).get (by kernel_rfl)) (.bool false) (by kernel_rfl) (by kernel_rfl) (by kernel_rfl) .i64 .i64 (N : Int) (N : Int) (by omega) (by omega)
    (by rw [hs, Int.toNat_natCast]; omega) (by rw [hb]; omega) (by omega)
  rw [hs, Int.toNat_natCast, Nat.mul_one, show (Value.bool false).cells = #[.bool false] from rfl, madeCells_one] at this
  exact this
end ends
end Go.Proofs
