/-
  merge.Valid and the document's Valid and After; MergeEpochs.
-/
import Derived.Test.YtacnieopbkeoiaaSides
import Derived.Test.YtacnieopbkeoiaaFValid
namespace Go.Proofs
open Go Go.Ev Go.RowKit
set_option linter.unusedSimpArgs false
set_option linter.unusedVariables false
set_option maxRecDepth 100000

/-- sixteen bytes are a sector -/
theorem sec_of' {cs : Array Value} (h : Fits (List.replicate 16 (.int .u8)) cs.toList) : ∃ f, cs = secV f ∧ SecOk f := by
  obtain ⟨l⟩ := cs
  match l, h with
  | [_, _, _, _, _, _, _, _, _, _, _, _, _, _, _, _], ⟨⟨x0, rfl, a0⟩, ⟨x1, rfl, a1⟩, ⟨x2, rfl, a2⟩, ⟨x3, rfl, a3⟩, ⟨x4, rfl, a4⟩, ⟨x5, rfl, a5⟩, ⟨x6, rfl, a6⟩, ⟨x7, rfl, a7⟩, ⟨x8, rfl, a8⟩, ⟨x9, rfl, a9⟩, ⟨xa, rfl, aa⟩, ⟨xb, rfl, ab⟩, ⟨xc, rfl, ac⟩, ⟨xd, rfl, ad⟩, ⟨xe, rfl, ae⟩, ⟨xf, rfl, af⟩, _⟩ =>
    refine ⟨sec [x0, x1, x2, x3, x4, x5, x6, x7, x8, x9, xa, xb, xc, xd, xe, xf], rfl, sec_ok ?_⟩
    intro x hx
    simp only [List.mem_cons, List.not_mem_nil, or_false] at hx
    rcases hx with rfl | rfl | rfl | rfl | rfl | rfl | rfl | rfl | rfl | rfl | rfl | rfl | rfl | rfl | rfl | rfl <;> assumption
/-- nineteen cells of a record's kinds are a record -/
theorem rec_of {cs : List Value} (h : Fits recKs cs) : ∃ r, cs = recL r ∧ RecOk r := by
  unfold recKs at h
  cases cs with
  | nil => exact h.elim
  | cons a cs =>
    cases cs with
    | nil => exact h.2.elim
    | cons b cs =>
      cases cs with
      | nil => exact h.2.2.elim
      | cons d rest =>
        obtain ⟨⟨k, rfl, hk⟩, ⟨v, rfl, hv⟩, ⟨l, rfl, hl⟩, hr⟩ := h
        obtain ⟨f, hf, hok⟩ := sec_of' (cs := rest.toArray) hr
        have : rest = (secV f).toList := by rw [← hf]
        subst this
        exact ⟨⟨k, v, l, f⟩, rfl, hk, hv, hl, hok⟩
theorem recs_of {W : World} {xp : Option Addr} {l : Nat} {g : Nat → List Value} (h : Sl W 19 xp l g) (hf : ∀ i, i < l → Fits recKs (g i)) : ∃ rf : Nat → Rec, Sl W 19 xp l (fun i => recL (rf i)) ∧ ∀ i, i < l → RecOk (rf i) := by
  obtain ⟨rf, hrf⟩ := Deep.choose_lt (α := Rec) (n := l) (p := fun i r => g i = recL r ∧ RecOk r) fun i hi => rec_of (hf i hi)
  refine ⟨rf, fun i hi => ?_, fun i hi => (hrf i hi).2⟩
  have := h i hi
  rw [(hrf i hi).1] at this
  exact this
def hit (rf : Nat → Rec) (e : Int) (i : Nat) : Prop := (rf i).kind = 6 ∧ (rf i).ver = e
theorem sl_rec {W : World} {xp : Option Addr} {l : Nat} {rf : Nat → Rec} (h : Sl W 19 xp l fun i => recL (rf i)) {i : Int} (h0 : 0 ≤ i) (h1 : i < l) {K : Array Value → Prop} (hK : K (recV (rf i.toNat))) : IdxS xp l i 19 fun b o => LdA 19 b o (At W) K :=
  h.idx h0 h1 fun b o hc _ => ⟨recV (rf i.toNat), rfl, fun w' ⟨d, hd⟩ j hj => by subst hd; have := hc j hj; rw [show (W.dr d).cell? ⟨b, o + j, none⟩ = W.cell? ⟨b, o + j, none⟩ from rfl, this]; simp [recV], hK⟩
theorem sl_recF {W : World} {xp : Option Addr} {l : Nat} {rf : Nat → Rec} (h : Sl W 19 xp l fun i => recL (rf i)) {i : Int} (h0 : 0 ≤ i) (h1 : i < l) {t : Nat} {v : Value} (ht : t < 19) (hv : (recL (rf i.toNat))[t]? = some v) {K : Value → Prop} (hK : K v) : IdxS xp l i 19 fun b o => LdV b (o + t) (At W) K :=
  h.idx h0 h1 fun b o hc _ => LdV_at.2 ⟨v, by rw [hc t ht]; exact hv, hK⟩

theorem idx_valid {xp : Option Addr} {l c fb : Nat} {rf : Nat → Rec} {e : Int} {w : World} {R : Value → World → Prop} (hl : l ≤ maxLen) (h : Sl w 19 xp l fun i => recL (rf i)) (he : 0 ≤ e ∧ e ≤ 4294967295) (hb : Has w fb (.cells #[.int .u32 e] 50 (0, 0)))
    (h1 : ∀ w' i, i < l → hit rf e i → Keep (fun _ => False) w w' → R (.int .i64 (i : Nat)) w') (h0 : ∀ w', (∀ i, i < l → ¬ hit rf e i) → Keep (fun _ => False) w w' → R (.int .i64 (-1)) w') :
    CallV Try.prog 54 #[.slice xp l c, .func (.func 48) #[] #[.pointer (some ⟨fb, 0, none⟩)]] w R := by
  apply C_IdxV
  unfold F_IdxV
  have hmax : l ≤ 9223372036854775807 := by simpa [maxLen] using hl
  refine LoopC_of (σ := Int × Unit) (fun s w' => ∃ j : Nat, s.1 = j ∧ j ≤ l ∧ (∀ i, i < j → ¬ hit rf e i) ∧ Keep (fun _ => False) w w') (fun s _ => (l - s.1).toNat) ⟨0, rfl, by omega, fun i hi => by omega, Keep.refl _ _⟩ ?_
  intro _ s w1 hs
  obtain ⟨i, u⟩ := s
  obtain ⟨j, hij, hjl, hno, k1⟩ := hs
  simp only at hij ⊢
  subst hij
  refine Cb_of (fun hc => ?_) (fun hc => ?_)
  · have hj : j < l := by simp only [decide_eq_true_eq] at hc; omega
    refine sl_rec (h.keep k1 (by simp)) (by omega) (by omega) ?_
    rw [show ((j : Nat) : Int).toNat = j by omega]
    have hb1 := k1.has hb (by simp)
    have ew : IntKind.wrap .i64 ((j : Int) + 1) = ((j + 1 : Nat) : Int) := by rw [wrapI (by omega) (by omega)]; omega
    rw [ew]
    apply C_Valid1
    unfold F_Valid1
    rw [Alc_iff]
    have ha := Has.new w1 (.cells (recV (rf j)) 42)
    have k2 := k1.alloc (.cells (recV (rf j)) 42)
    have hb2 := hb1.alloc (y := .cells (recV (rf j)) 42)
    generalize w1.alloc (.cells (recV (rf j)) 42) = w2 at *
    have no : ¬ hit rf e j → ∃ m', m' < ((l : Int) - (j : Int)).toNat ∧ ((∃ j' : Nat, ((j + 1 : Nat) : Int) = j' ∧ j' ≤ l ∧ (∀ i, i < j' → ¬ hit rf e i) ∧ Keep (fun _ => False) w w2) ∧ ((l : Int) - ((j + 1 : Nat) : Int)).toNat = m') :=
      fun hn => ⟨_, by omega, ⟨j + 1, rfl, hj, fun i hi => by rcases Nat.lt_succ_iff_lt_or_eq.1 hi with h | h; exact hno i h; subst h; exact hn, k2⟩, rfl⟩
    refine LdV_has (v := .int .i64 (rf j).kind) ha rfl ?_
    simp only [OpI_int]
    refine Cb_of (fun hk => ?_) (fun hk => ?_)
    · refine LdV_has (v := .int .u64 (rf j).ver) ha rfl ?_
      simp only [OpI_int]
      refine LdV_has (v := .int .u32 e) hb2 rfl ?_
      simp only [OpI_int, Ret_nil, OpB_bool]
      rw [wrapU64 (by omega) (by omega)]
      refine Cb_of (fun hv => ?_) (fun hv => ?_)
      · exact h1 w2 j hj ⟨by simpa using hk, by simpa using hv⟩ k2
      · exact no fun hh => by simp [hh.2] at hv
    · simp only [Ret_nil, OpB_bool, Cb_false]
      exact no fun hh => by simp [hh.1] at hk
  · have hj : j = l := by simp only [decide_eq_false_iff_not] at hc; omega
    subst hj
    simp only [Ret_nil]
    exact h0 w1 hno k1

theorem merge_Valid {xp : Option Addr} {l c : Nat} {rf : Nat → Rec} {e : Int} {w : World} {R : Value → World → Prop} (hl : l ≤ maxLen) (h : Sl w 19 xp l fun i => recL (rf i)) (he : 0 ≤ e ∧ e ≤ 4294967295)
    (hK : ∀ (r : Bool) w', (r = true ↔ e = 0 ∨ ∃ i, i < l ∧ hit rf e i) → Keep (fun _ => False) w w' → R (.bool r) w') :
    CallV Try.prog 34 #[.slice xp l c, .int .u32 e] w R := by
  apply C_merge_Valid
  unfold F_merge_Valid
  rw [Alc_iff]
  have hb := Has.new w (.cells #[.int .u32 e] 50)
  have k1 := Keep.new (fun _ => False) w (.cells #[.int .u32 e] 50)
  generalize w.alloc (.cells #[.int .u32 e] 50) = w1 at *
  refine LdV_has (v := .int .u32 e) hb rfl ?_
  simp only [OpI_int]
  refine Cb_of (fun hz => ?_) (fun hz => ?_)
  · simp only [Ret_nil]
    exact hK true w1 ⟨fun _ => Or.inl (by simpa using hz), fun _ => rfl⟩ k1
  · have hz' : ¬ e = 0 := by simpa using hz
    apply C_ContV
    unfold F_ContV
    refine idx_valid hl (h.keep k1 (by simp)) he hb (fun w' i hi hh k2 => ?_) (fun w' hno k2 => ?_)
    · simp only [OpI_int, Ret_nil, OpB_bool]
      rw [show decide (((i : Nat) : Int) ≥ 0) = true by simp]
      exact hK true w' ⟨fun _ => Or.inr ⟨i, hi, hh⟩, fun _ => rfl⟩ (k1.trans k2)
    · simp only [OpI_int, Ret_nil, OpB_bool]
      rw [show decide ((-1 : Int) ≥ 0) = false from rfl]
      exact hK false w' ⟨fun h => by simp at h, fun h => by rcases h with h | ⟨i, hi, hh⟩; exact absurd h hz'; exact absurd hh (hno i hi)⟩ (k1.trans k2)

theorem ref_Valid {xp : Option Addr} {l c : Nat} {rf : Nat → Rec} {e : Int} {w : World} {R : Value → World → Prop} (hl : l ≤ maxLen) (h : Sl w 19 xp l fun i => recL (rf i)) (he : 0 ≤ e ∧ e ≤ 4294967295)
    (hK : ∀ (r : Bool) w', (r = true ↔ e = 0 ∨ ∃ i, i < l ∧ hit rf e i) → Keep (fun _ => False) w w' → R (.bool r) w') :
    CallV Try.prog 35 #[.slice xp l c, .int .u32 e] w R := by
  apply C_ravelinref13_Valid
  unfold F_ravelinref13_Valid
  have hmax : l ≤ 9223372036854775807 := by simpa [maxLen] using hl
  rw [wrapU64 (show 0 ≤ e by omega) (by omega)]
  refine LoopC_of (σ := Int × Unit) (fun s w' => ∃ j : Nat, s.1 = j ∧ j ≤ l ∧ (∀ i, i < j → ¬ hit rf e i) ∧ Keep (fun _ => False) w w') (fun s _ => (l - s.1).toNat) ⟨0, rfl, by omega, fun i hi => by omega, Keep.refl _ _⟩ ?_
  intro _ s w1 hs
  obtain ⟨i, u⟩ := s
  obtain ⟨j, hij, hjl, hno, k1⟩ := hs
  simp only at hij ⊢
  subst hij
  refine Cb_of (fun hc => ?_) (fun hc => ?_)
  · have hj : j < l := by simp only [decide_eq_true_eq] at hc; omega
    have ew : IntKind.wrap .i64 ((j : Int) + 1) = ((j + 1 : Nat) : Int) := by rw [wrapI (by omega) (by omega)]; omega
    rw [ew]
    have no : ¬ hit rf e j → ∃ m', m' < ((l : Int) - (j : Int)).toNat ∧ ((∃ j' : Nat, ((j + 1 : Nat) : Int) = j' ∧ j' ≤ l ∧ (∀ i, i < j' → ¬ hit rf e i) ∧ Keep (fun _ => False) w w1) ∧ ((l : Int) - ((j + 1 : Nat) : Int)).toNat = m') :=
      fun hn => ⟨_, by omega, ⟨j + 1, rfl, hj, fun i hi => by rcases Nat.lt_succ_iff_lt_or_eq.1 hi with h | h; exact hno i h; subst h; exact hn, k1⟩, rfl⟩
    refine sl_recF (t := 0) (h.keep k1 (by simp)) (by omega) (by omega) (by decide) (v := .int .i64 (rf j).kind) rfl ?_
    simp only [OpI_int]
    refine Cb_of (fun hk => ?_) (fun hk => ?_)
    · refine sl_recF (t := 1) (h.keep k1 (by simp)) (by omega) (by omega) (by decide) (v := .int .u64 (rf j).ver) rfl ?_
      simp only [OpI_int]
      refine Cb_of (fun hv => ?_) (fun hv => ?_)
      · simp only [Ret_nil]
        exact hK true w1 ⟨fun _ => Or.inr ⟨j, hj, by simpa using hk, by simpa using hv⟩, fun _ => rfl⟩ k1
      · exact no fun hh => by simp [hh.2] at hv
    · exact no fun hh => by simp [hh.1] at hk
  · have hj : j = l := by simp only [decide_eq_false_iff_not] at hc; omega
    subst hj
    simp only [Ret_nil]
    refine hK _ w1 ?_ k1
    constructor
    · intro h; exact Or.inl (by simpa using h)
    · rintro (h | ⟨i, hi, hh⟩)
      · simp [h]
      · exact absurd hh (hno i hi)

theorem ref_After {e side : Int} {w : World} {R : Value → World → Prop} (h0 : 0 ≤ e) (h1 : e ≤ 4294967295) (hK : R (.tuple #[.int .u32 (afterS e side).1, .int .i64 (afterS e side).2]) w) :
    CallV Try.prog 33 #[.int .u32 e, .int .i64 side] w R := by
  apply C_ravelinref13_After
  unfold F_ravelinref13_After
  simp only [Req_true, Req_rfl]
  by_cases hn : sideOk side
  · have e0 : (cond (side != 0) (side != 1) false) = false := by rcases hn with rfl | rfl <;> rfl
    rw [e0, Cb_false]
    have w1 : IntKind.wrap .u64 e = e := wrapU64 (by omega) (by omega)
    have w3 : IntKind.wrap .u64 side = side := wrapU64 (by rcases hn with rfl | rfl <;> omega) (by rcases hn with rfl | rfl <;> omega)
    rw [w1, w3]
    have hs2 : side = 0 ∨ side = 1 := hn
    refine LoopC_of (σ := Int × Unit) (fun s w' => w' = w ∧ (s.1 = 1 ∨ s.1 = 2 ∧ ¬ ((e + 1) % 2 = side ∧ e + 1 ≤ 4294967295) ∨ s.1 = 3 ∧ ¬ ((e + 1) % 2 = side ∧ e + 1 ≤ 4294967295) ∧ ¬ ((e + 2) % 2 = side ∧ e + 2 ≤ 4294967295))) (fun s _ => (4 - s.1).toNat) ⟨rfl, Or.inl rfl⟩ ?_
    intro _ s w' hI
    obtain ⟨d, u⟩ := s
    obtain ⟨rfl, hI⟩ := hI
    simp only at hI ⊢
    have hd : d = 1 ∨ d = 2 ∨ d = 3 := by rcases hI with h | h | h <;> omega
    have hw : IntKind.wrap .u64 (e + d) = e + d := wrapU64 (by omega) (by omega)
    have hw2 : IntKind.wrap .u64 (d + 1) = d + 1 := wrapU64 (by omega) (by omega)
    rw [hw, hw2, Int.tmod_eq_emod_of_nonneg (show 0 ≤ e + d by omega)]
    refine Cb_of (fun hc => ?_) (fun hc => ?_)
    · have hc' : d ≤ 2 := by simpa using hc
      refine ⟨by decide, Cb_of (fun hr => ?_) (fun hr => ?_)⟩
      · have hr' : (e + d) % 2 = side ∧ e + d ≤ 4294967295 := by
          by_cases hx : (e + d) % 2 = side
          · simp [hx] at hr; exact ⟨hx, hr⟩
          · simp [hx] at hr
        have ea : afterS e side = (e + d, 0) := by
          unfold afterS
          rw [if_neg (by simpa using hn)]
          simp only
          have : (if (e + 1) % 2 = side then e + 1 else e + 2) = e + d := by
            rcases hd with rfl | rfl | rfl
            · rw [if_pos hr'.1]
            · rw [if_neg (by omega)]
            · omega
          rw [this, if_neg (by omega)]
        rw [ea] at hK
        simp only [Ret_nil]
        rw [wrapU32 (by omega) hr'.2]
        exact hK
      · have hr' : ¬ ((e + d) % 2 = side ∧ e + d ≤ 4294967295) := by
          rintro ⟨a, b⟩
          simp [a, b] at hr
        refine ⟨_, by omega, ⟨trivial, ?_⟩, rfl⟩
        rcases hI with h | ⟨h, g⟩ | ⟨h, g⟩
        · subst h; exact Or.inr (Or.inl ⟨rfl, hr'⟩)
        · subst h; exact Or.inr (Or.inr ⟨rfl, g, hr'⟩)
        · omega
    · have hc' : ¬ d ≤ 2 := by simpa using hc
      have hd3 : d = 3 := by omega
      subst hd3
      have g : ¬ ((e + 1) % 2 = side ∧ e + 1 ≤ 4294967295) ∧ ¬ ((e + 2) % 2 = side ∧ e + 2 ≤ 4294967295) := by rcases hI with h | ⟨h, g⟩ | ⟨h, g⟩ <;> first | omega | exact g
      have ea : afterS e side = (0, 14) := by
        unfold afterS
        rw [if_neg (by simpa using hn)]
        simp only
        rw [if_pos (by split <;> omega)]
      rw [ea] at hK
      simp only [Ret_nil]
      exact hK
  · have e0 : (cond (side != 0) (side != 1) false) = true := by
      unfold sideOk at hn
      have h1 : (side != 0) = true := by simp; omega
      have h2 : (side != 1) = true := by simp; omega
      rw [h1, h2]; rfl
    have ea : afterS e side = (0, 2) := by unfold afterS; rw [if_pos hn]
    rw [ea] at hK
    rw [e0, Cb_true]
    simpa using hK

theorem epochs_walk {lp : Option Addr} {ll lc : Nat} {gl : Nat → List Value} {epoch side : Int} {W : World} (hll : ll ≤ maxLen) (hs : Sl W 19 lp ll gl) (fs : ∀ i, i < ll → Fits recKs (gl i)) (h0 : 0 ≤ epoch) (h1 : epoch ≤ 4294967295)
    (hsd : -9223372036854775808 ≤ side ∧ side ≤ 9223372036854775807) :
    CallV Try.prog 11 #[.slice lp ll lc, .int .u32 epoch, .int .i64 side] W fun v w' => v = .bool true ∧ Below W.heap.size W w' := by
  apply C_ravelinlaw13_MergeEpochs
  unfold F_ravelinlaw13_MergeEpochs
  obtain ⟨rf, hr, _⟩ := recs_of hs fs
  refine merge_After h0 h1 hsd ?_
  simp only [T2_mk, OpI_int]
  refine ref_After h0 h1 ?_
  simp only [T2_mk, OpI_int]
  refine law13_awake fun w1 k1 => ?_
  simp only [OpB_bool, Cb_true]
  refine merge_Valid hll (hr.keep k1 (by simp)) ⟨h0, h1⟩ fun r1 w2 hr1 k2 => ?_
  simp only [OpB_bool]
  have k12 := k1.trans k2
  refine ref_Valid hll (hr.keep k12 (by simp)) ⟨h0, h1⟩ fun r2 w3 hr2 k3 => ?_
  simp only [OpB_bool, Req_true, Req_rfl, Ret_nil]
  have e : r1 = r2 := by
    have := hr1.trans hr2.symm
    cases r1 <;> cases r2 <;> simp_all
  subst e
  refine ⟨?_, (k12.trans k3).below⟩
  simp
end Go.Proofs
