/-
  The document's history: in, may, Ends, Orderly.
-/
import Derived.Test.YtdjlmpkjdgmkkaaHistO
namespace Go.Proofs
open Go Go.Ev Go.RowKit
set_option linter.unusedSimpArgs false
set_option linter.unusedVariables false
set_option maxRecDepth 100000

section ref
variable {evs : List Evt} {start : Sec} {p : Option Addr} {l c : Nat} {w : World} {R : Value → World → Prop}
theorem ref_in {d i : Nat} (hd : d < 2 ^ 60) (hi : i ≤ 60) (hK : R (.bool (d.testBit i)) w) : CallV Try.prog 64 #[.int .i64 (d : Int), .int .i64 (i : Int)] w R := by
  apply C_ravelinref21_in
  unfold F_ravelinref21_in
  refine ⟨by omega, ?_⟩
  rw [Ret_nil, bit_one hd hi]
  exact hK
theorem ref_inQ {d i : Nat} (hd : d < 2 ^ 60) (hi : i ≤ 60) {C : World → Prop} {K : Value → Prop} (hK : K (.bool (d.testBit i))) : CallQ Try.prog 64 #[.int .i64 (d : Int), .int .i64 (i : Int)] C K := by
  refine ⟨.bool (d.testBit i), fun w hw => ?_, hK⟩
  have := ref_in (w := w) (R := fun v w' => v = .bool (d.testBit i) ∧ w' = w) hd hi ⟨rfl, rfl⟩
  exact Calls.mono this fun e w' ⟨v, he, hv, hw'⟩ => ⟨by rw [he, hv], by rw [hw']; exact hw⟩

/-! ### may -/
def MLoop (eventsp : Option Addr) (eventsl : Nat) (set : Int) (b2 : Nat) (w : World) (R : Value → World → Prop) : Prop :=
  LoopC (σ := Int × Unit) (fun _ s1 w K1 => Cb (decide (s1.1 < ((eventsl : Nat) : Int))) (CallQ Try.prog 64 #[.int .i64 set, .int .i64 s1.1] (At w) fun v3 => OpB v3 fun g3 => Cb (!g3) (IdxS eventsp eventsl s1.1 19 fun b3 o1 => LdV b3 (o1 + 18) (At w) fun v4 => OpI .i64 v4 fun n1 => Cb (decide (n1 ≥ 0)) (IdxS eventsp eventsl s1.1 19 fun b4 o2 => LdV b4 (o2 + 18) (At w) fun v5 => OpI .i64 v5 fun n2 => LdV b2 17 (At w) fun v6 => OpI .i64 v6 fun n3 => Drw w fun w => Cb (decide (n2 < n3)) (Ret [] (R (.bool false) w)) (K1 (IntKind.wrap .i64 (s1.1 + 1), ()) w)) (Drw w fun w => K1 (IntKind.wrap .i64 (s1.1 + 1), ()) w)) (Drw w fun w => K1 (IntKind.wrap .i64 (s1.1 + 1), ()) w)) (Ret [] (R (.bool true) w))) (0, ()) w
theorem mloop (h : SlL evLay w p l evs) (hl : l ≤ 10) {d i b2 : Nat} (hd : d < 2 ^ 60) {x : Evt} (hx : evs[i]? = some x) (hb2 : Has w b2 (.cells (evC x) 31 (0, 0)))
    (hK : ∀ (g : Bool) w', (g = true ↔ ¬ Blk evs d i) → Keep (fun _ => False) w w' → R (.bool g) w') : MLoop p l (d : Int) b2 w R := by
  unfold MLoop
  have hlen := h.1
  have hgi : evs.getD i default = x := by
    have := at_lt (List.getElem?_eq_some_iff.1 hx).1
    rw [this] at hx
    exact Option.some.inj hx
  refine LoopC_of (σ := Int × Unit) (fun s w' => Keep (fun _ => False) w w' ∧ ∃ j : Nat, s.1 = j ∧ j ≤ l ∧ ∀ q y, q < j → evs[q]? = some y → d.testBit q = false → 0 ≤ y.to → ¬ y.to < x.fr) (fun s _ => (l - s.1).toNat)
    ⟨Keep.refl _ _, 0, rfl, by omega, fun q y hq => by omega⟩ ?_
  rintro _ ⟨i1, u⟩ w1 ⟨k1, j, hj, hjl, hno⟩
  simp only at hj ⊢
  subst hj
  have h1 := h.keepB k1 (by simp)
  refine Cb_of (fun hc => ?_) (fun hc => ?_)
  · have hj : j < l := by simp only [decide_eq_true_eq] at hc; omega
    have ew : IntKind.wrap .i64 ((j : Int) + 1) = ((j + 1 : Nat) : Int) := by rw [wrapI (by omega) (by omega)]; omega
    rw [ew]
    have g' := at_lt (evs := evs) (i := j) (by omega)
    have g : evs[((j : Nat) : Int).toNat]? = some (evs.getD j default) := by rw [Int.toNat_natCast]; exact g'
    generalize hy : evs.getD j default = y at *
    have next : ∀ w2, Keep (fun _ => False) w w2 → (d.testBit j = false → 0 ≤ y.to → ¬ y.to < x.fr) → ∃ m, m < ((l : Int) - (j : Int)).toNat ∧ ((Keep (fun _ => False) w w2 ∧ ∃ j' : Nat, ((j + 1 : Nat) : Int) = j' ∧ j' ≤ l ∧ ∀ q y, q < j' → evs[q]? = some y → d.testBit q = false → 0 ≤ y.to → ¬ y.to < x.fr) ∧ ((l : Int) - ((j + 1 : Nat) : Int)).toNat = m) := by
      intro w2 k2 hb
      refine ⟨_, by omega, ⟨k2, j + 1, rfl, hj, fun q z hq hz => ?_⟩, rfl⟩
      rcases Nat.lt_succ_iff_lt_or_eq.1 hq with h | h
      · exact hno q z h hz
      · subst h; rw [g'] at hz; cases hz; exact hb
    refine ref_inQ hd (by omega) ?_
    simp only [OpB_bool]
    refine Cb_of (fun hbit => ?_) (fun hbit => ?_)
    · refine h1.ldF (t := 18) rfl (by omega) g (v := .int .i64 y.to) rfl ?_
      simp only [OpI_int]
      refine Cb_of (fun hto => ?_) (fun hto => ?_)
      · refine h1.ldF (t := 18) rfl (by omega) g (v := .int .i64 y.to) rfl ?_
        simp only [OpI_int]
        refine LdV_has (v := .int .i64 x.fr) (k1.has hb2 (by simp)) rfl ?_
        simp only [OpI_int]
        intro dd
        refine Cb_of (fun hlt => ?_) (fun hlt => ?_)
        · rw [Ret_nil]
          refine hK false _ ⟨fun h => (by cases h), fun hn => ?_⟩ (k1.dr dd)
          exact absurd ⟨j, y, g', by simpa using hbit, by simpa using hto, by rw [hgi]; simpa using hlt⟩ hn
        · exact next _ (k1.dr dd) fun _ _ => by simpa using hlt
      · intro dd
        exact next _ (k1.dr dd) fun _ h0 => absurd h0 (by simpa using hto)
    · intro dd
      refine next _ (k1.dr dd) fun hb' => ?_
      rw [hb'] at hbit
      simp at hbit
  · have hj : j = l := by simp only [decide_eq_false_iff_not] at hc; omega
    subst hj
    rw [Ret_nil]
    refine hK true _ ⟨fun _ => ?_, fun _ => rfl⟩ k1
    rintro ⟨q, y, hq, h1, h2, h3⟩
    rw [hgi] at h3
    exact absurd h3 (hno q y (by rw [hlen]; exact (List.getElem?_eq_some_iff.1 hq).1) hq h1 h2)
theorem ref_may (h : SlL evLay w p l evs) (hl : l ≤ 10) (hok : ∀ x ∈ evs, EvOk x) (hst : SecOk start) {s : Stt} {i : Nat} (hd : s.1 < 2 ^ 60) (hi : i < l)
    (hs2 : s.2 < evs.length) (hK : ∀ (g : Bool) w', (g = true ↔ May evs start s i) → Keep (fun _ => False) w w' → R (.bool g) w') :
    CallV Try.prog 65 #[.slice p l c, .int .i64 (s.1 : Int), .int .i64 (i : Int), .agg (secV (cur evs start s.2))] w R := by
  apply C_ravelinref21_may
  unfold F_ravelinref21_may
  have hlen := h.1
  have g' := at_lt (evs := evs) (i := i) (by omega)
  have g : evs[((i : Nat) : Int).toNat]? = some (evs.getD i default) := by rw [Int.toNat_natCast]; exact g'
  generalize hx : evs.getD i default = x at *
  have hxok : EvOk x := hok x (List.mem_of_getElem? g')
  refine alc_new fun w1 hb1 k1 _ => ?_
  refine (h.keepB k1 (by simp)).ldA rfl (by omega) g ?_
  refine copy_of zc_ev rfl (one_evC x) fun w2 hb2 k2 _ => ?_
  have k12 := k1.trans k2
  have h2 := h.keepB k12 (by simp)
  refine ref_in hd (by omega) ?_
  simp only [OpB_bool]
  have no : ¬ May evs start s i → Ret [] (R (.bool false) w2) := by
    intro hm
    rw [Ret_nil]
    exact hK false w2 ⟨fun h => (by cases h), fun h => absurd h hm⟩ k12
  refine Cb_of (fun hbit => ?_) (fun hbit => ?_)
  · refine no fun hm => ?_
    obtain ⟨_, _, h2, _⟩ := hm
    rw [hbit] at h2; cases h2
  have loop : (x.wr = true ∨ (0 ≤ x.to ∧ x.val = cur evs start s.2)) → MLoop p l (s.1 : Int) w1.heap.size w2 R := by
    intro hpre
    refine mloop h2 hl hd g' hb2 fun g w3 hg k3 => ?_
    refine hK g w3 ⟨fun h => ⟨x, g', hbit, hpre, hg.1 h⟩, fun ⟨_, _, _, _, h⟩ => hg.2 h⟩ (k12.trans k3)
  refine LdV_has (v := .bool x.wr) hb2 rfl ?_
  simp only [OpB_bool]
  refine Cb_of (fun hwr => ?_) (fun hwr => ?_)
  · have hwr : x.wr = false := by simpa using hwr
    refine LdV_has (v := .int .i64 x.to) hb2 rfl ?_
    simp only [OpI_int]
    refine Cb_of (fun hto => ?_) (fun hto => ?_)
    · refine no fun hm => ?_
      obtain ⟨y, h1, _, h2, _⟩ := hm
      rw [g'] at h1; cases h1
      simp only [decide_eq_true_eq] at hto
      rcases h2 with h2 | h2
      · rw [hwr] at h2; cases h2
      · omega
    have hto : 0 ≤ x.to := by simpa using hto
    refine LdA_has (n := 16) (o := 1) (cs := secV x.val) hb2 (by show 1 + 16 ≤ 19; decide) (evC_sec x) ?_
    refine LdA_all (k2.has hb1 (by simp)) rfl ?_
    have hcs : SecOk (cur evs start s.2) := by
      unfold cur
      split
      · have hlt : s.2.toNat < evs.length := by omega
        exact (hok _ (List.mem_of_getElem? (at_lt hlt))).sec
      · exact hst
    refine EqB_sec_ne hxok.sec hcs fun r hr => ?_
    refine Cb_of (fun hr1 => ?_) (fun hr1 => ?_)
    · refine no fun hm => ?_
      obtain ⟨y, h1, _, h2, _⟩ := hm
      rw [g'] at h1; cases h1
      rcases h2 with h2 | h2
      · rw [hwr] at h2; cases h2
      · exact hr.1 hr1 h2.2
    · have he : x.val = cur evs start s.2 := by
        apply Classical.byContradiction
        intro hne
        rw [hr.2 hne] at hr1; cases hr1
      exact loop (Or.inr ⟨hto, he⟩)
  · have hwr : x.wr = true := by simpa using hwr
    exact loop (Or.inl hwr)
end ref
end Go.Proofs
