/-
  HISTORIES IN MEMORY: how an event and a state lie; the program's blocked and Check, the document's Check.
-/
import Derived.Test.YtdjlmpkjdgmkkaaHistP
import Derived.Test.YtdjlmpkjdgmkkaaSetS
import Derived.Test.YtdjlmpkjdgmkkaaRow
import Derived.Test.YtdjlmpkjdgmkkaaFHist
import Derived.Test.YtdjlmpkjdgmkkaaFRef21
namespace Go.Proofs
open Go Go.Ev Go.RowKit
set_option linter.unusedSimpArgs false
set_option linter.unusedVariables false
set_option maxRecDepth 100000

/-! ### how they lie -/
def evC (x : Evt) : Array Value :=
  #[.bool x.wr, .int .u8 (x.val 0), .int .u8 (x.val 1), .int .u8 (x.val 2), .int .u8 (x.val 3), .int .u8 (x.val 4), .int .u8 (x.val 5), .int .u8 (x.val 6), .int .u8 (x.val 7),
    .int .u8 (x.val 8), .int .u8 (x.val 9), .int .u8 (x.val 10), .int .u8 (x.val 11), .int .u8 (x.val 12), .int .u8 (x.val 13), .int .u8 (x.val 14), .int .u8 (x.val 15), .int .i64 x.fr, .int .i64 x.to]
theorem one_evC (x : Evt) : ∀ v ∈ (evC x).toList, oneV v = true := by
  intro v hv
  simp only [evC, List.mem_cons, List.not_mem_nil, or_false] at hv
  rcases hv with rfl | rfl | rfl | rfl | rfl | rfl | rfl | rfl | rfl | rfl | rfl | rfl | rfl | rfl | rfl | rfl | rfl | rfl | rfl <;> rfl
theorem evC_list (x : Evt) : (evC x).toList = .bool x.wr :: (secV x.val).toList ++ [.int .i64 x.fr, .int .i64 x.to] := rfl
theorem evC_sec (x : Evt) : (evC x).extract 1 17 = secV x.val := rfl
theorem evC_inj {x y : Evt} (h : evC x = evC y) : x = y := by
  have h2 := congrArg Array.toList h
  rw [evC_list, evC_list] at h2
  simp only [List.cons_append, List.cons.injEq, Value.bool.injEq] at h2
  obtain ⟨h3, h4⟩ := h2
  have h5 := List.append_inj h4 (by simp)
  have h6 : secV x.val = secV y.val := Array.toList_inj.1 h5.1
  have h7 := secV_inj h6
  have h8 := h5.2
  simp only [List.cons.injEq, Value.int.injEq, true_and, and_true] at h8
  cases x; cases y
  simp_all
def evLay : Lay Evt := ⟨19, fun x => (evC x).toList, fun _ => rfl, one_evC, by decide⟩
def stC (s : Stt) : Array Value := #[.int .i64 s.1, .int .i64 s.2]
theorem one_stC (s : Stt) : ∀ v ∈ (stC s).toList, oneV v = true := by
  intro v hv
  simp only [stC, List.mem_cons, List.not_mem_nil, or_false] at hv
  rcases hv with rfl | rfl <;> rfl
def stLay : Lay Stt := ⟨2, fun s => (stC s).toList, fun _ => rfl, one_stC, by decide⟩
def stK (s : Stt) : Value := .agg (stC s)
theorem stK_inj (s t : Stt) (h : stK s = stK t) : s = t := by
  simp only [stK, stC, Value.agg.injEq, Array.mk.injEq, List.cons.injEq, Value.int.injEq, true_and, and_true] at h
  exact Prod.ext (by omega) h.2
structure EvOk (x : Evt) : Prop where
  sec : SecOk x.val
  fr : -9223372036854775808 ≤ x.fr ∧ x.fr ≤ 9223372036854775807
  to : -9223372036854775808 ≤ x.to ∧ x.to ≤ 9223372036854775807
def evKs : List CK := .bool :: List.replicate 16 (.int .u8) ++ [.int .i64, .int .i64]
theorem fits_evC {x : Evt} (h : EvOk x) : Fits evKs (evC x).toList := by
  rw [evC_list]
  refine Fits.append (ks := .bool :: List.replicate 16 (.int .u8)) ⟨⟨_, rfl⟩, fits_secV h.sec⟩ ?_
  exact ⟨⟨_, rfl, h.fr.1, h.fr.2⟩, ⟨_, rfl, h.to.1, h.to.2⟩, trivial⟩
theorem EqB_ev_ne {x y : Operand} {f g : Evt} {C : World → Prop} {K : Bool → Prop} (hf : EvOk f) (hg : EvOk g) (hK : ∀ r : Bool, (r = true ↔ f ≠ g) → K r) :
    EqB Try.prog .neq 31 x y (.agg (evC f)) (.agg (evC g)) C K :=
  EqB_flat_ne (ks := evKs) (by kernel_rfl) (by kernel_rfl) (by kernel_rfl) (by kernel_rfl) (by kernel_rfl) (fits_evC hf) (fits_evC hg)
    fun r hr => hK r (hr.trans ⟨fun h e => h (by rw [e]), fun h e => h (evC_inj e)⟩)
theorem key_law : WideMaps.KeyLaw Try.prog 93 := deep_law (m := 9) (by decide) (by kernel_rfl) (by kernel_rfl) (by kernel_rfl)
theorem key_of {s : Stt} (h1 : (s.1 : Int) ≤ 9223372036854775807) (h2 : -9223372036854775808 ≤ s.2) (h3 : s.2 ≤ 9223372036854775807) : ∃ l, keyOf Try.prog 93 (stK s) = some l := by
  have hs : (match Try.prog.underlying 93 with | some (.struct _) => true | _ => false) = true := by kernel_rfl
  obtain ⟨fs, hu⟩ : ∃ fs, Try.prog.underlying 93 = some (.struct fs) := by
    split at hs
    · rename_i fs h; exact ⟨fs, h⟩
    · cases hs
  have hk : Try.prog.keyType 93 = true := by kernel_rfl
  have hc : Try.prog.cellsOf 93 = 2 := by kernel_rfl
  have hfl : flat Try.prog (Try.prog.types.size + 1) 93 = some [.int .i64, .int .i64] := by kernel_rfl
  have hfm : (stK s).formed Try.prog 93 = true := by
    unfold Value.formed stK
    simp [hu, hc, stC]
  have hl := keyLits_flat (cs := (stC s).toList) hfl ⟨⟨_, rfl, by show (-9223372036854775808 : Int) ≤ (s.1 : Int); omega, h1⟩, ⟨_, rfl, h2, h3⟩, trivial⟩
  unfold keyOf
  simp only [hu, hk, hfm, Bool.and_self, if_true]
  exact ⟨_, by show Option.map _ (Try.prog.keyLits _ _ (stC s).toList) = _; rw [hl]; rfl⟩

/-! ### blocked -/
section calls
variable {evs : List Evt} {p : Option Addr} {l c : Nat} {w : World} {R : Value → World → Prop}
theorem at_lt {i : Nat} (hi : i < evs.length) : evs[i]? = some (evs.getD i default) := by
  rw [List.getD_eq_getElem?_getD, List.getElem?_eq_getElem hi]; rfl
theorem zc_ev : (zc Try.prog 31).size = 19 := by kernel_rfl
theorem run_blocked (h : SlL evLay w p l evs) (hl : l ≤ 10) {d i : Nat} (hd : d < 2 ^ 60) (hi : i < l)
    (hK : ∀ (g : Bool) w', (g = true ↔ Blk evs d i) → Keep (fun _ => False) w w' → R (.bool g) w') : CallV Try.prog 63 #[.slice p l c, .int .i64 (d : Int), .int .i64 (i : Int)] w R := by
  apply C_history_blocked
  unfold F_history_blocked
  have hlen := h.1
  refine LoopC_of (σ := Int × Unit) (fun s w' => Keep (fun _ => False) w w' ∧ ∃ j : Nat, s.1 = j ∧ j ≤ l ∧ ∀ q x, q < j → evs[q]? = some x → d.testBit q = false → 0 ≤ x.to → ¬ x.to < (evs.getD i default).fr) (fun s _ => (l - s.1).toNat)
    ⟨Keep.refl _ _, 0, rfl, by omega, fun q x hq => by omega⟩ ?_
  intro _ s w1 hI
  obtain ⟨i1, u⟩ := s
  obtain ⟨k1, j, hj, hjl, hno⟩ := hI
  simp only at hj ⊢
  subst hj
  have h1 := h.keepB k1 (by simp)
  refine Cb_of (fun hc => ?_) (fun hc => ?_)
  · have hj : j < l := by simp only [decide_eq_true_eq] at hc; omega
    have ew : IntKind.wrap .i64 ((j : Int) + 1) = ((j + 1 : Nat) : Int) := by rw [wrapI (by omega) (by omega)]; omega
    rw [ew]
    have g' := at_lt (evs := evs) (i := j) (by omega)
    have g : evs[((j : Nat) : Int).toNat]? = some (evs.getD j default) := by rw [Int.toNat_natCast]; exact g'
    have gi : evs[((i : Nat) : Int).toNat]? = some (evs.getD i default) := by rw [Int.toNat_natCast]; exact at_lt (by omega)
    generalize hx : evs.getD j default = x at *
    have next : ∀ w2, Keep (fun _ => False) w w2 → (d.testBit j = false → 0 ≤ x.to → ¬ x.to < (evs.getD i default).fr) → ∃ m, m < ((l : Int) - (j : Int)).toNat ∧ ((Keep (fun _ => False) w w2 ∧ ∃ j' : Nat, ((j + 1 : Nat) : Int) = j' ∧ j' ≤ l ∧ ∀ q x, q < j' → evs[q]? = some x → d.testBit q = false → 0 ≤ x.to → ¬ x.to < (evs.getD i default).fr) ∧ ((l : Int) - ((j + 1 : Nat) : Int)).toNat = m) := by
      intro w2 k2 hb
      refine ⟨_, by omega, ⟨k2, j + 1, rfl, hj, fun q y hq hy => ?_⟩, rfl⟩
      rcases Nat.lt_succ_iff_lt_or_eq.1 hq with h | h
      · exact hno q y h hy
      · subst h; rw [g'] at hy; cases hy; exact hb
    refine h1.ldA rfl (by omega) g ?_
    refine copy_of zc_ev rfl (one_evC x) fun w2 hb2 k2 _ => ?_
    have k12 := k1.trans k2
    have h2 := h1.keepB k2 (by simp)
    refine ⟨by omega, ?_⟩
    rw [bit_zero hd (by omega)]
    refine Cb_of (fun hbit => ?_) (fun hbit => ?_)
    · refine LdV_has (v := .int .i64 x.to) hb2 rfl ?_
      simp only [OpI_int]
      refine Cb_of (fun hto => ?_) (fun hto => ?_)
      · refine LdV_has (v := .int .i64 x.to) hb2 rfl ?_
        simp only [OpI_int]
        refine h2.ldF (t := 17) rfl (by omega) gi (v := .int .i64 (evs.getD i default).fr) rfl ?_
        simp only [OpI_int]
        intro dd
        refine Cb_of (fun hlt => ?_) (fun hlt => ?_)
        · rw [Ret_nil]
          refine hK true _ ⟨fun _ => ⟨j, x, g', by simpa using hbit, by simpa using hto, by simpa using hlt⟩, fun _ => rfl⟩ (k12.dr dd)
        · exact next _ (k12.dr dd) fun _ _ => by simpa using hlt
      · intro dd
        exact next _ (k12.dr dd) fun _ h0 => absurd h0 (by simpa using hto)
    · intro dd
      refine next _ (k12.dr dd) fun hb' => ?_
      rw [hb'] at hbit
      simp at hbit
  · have hj : j = l := by simp only [decide_eq_false_iff_not] at hc; omega
    subst hj
    rw [Ret_nil]
    refine hK false _ ⟨fun h => (by cases h), ?_⟩ k1
    rintro ⟨q, x, hq, h1, h2, h3⟩
    exact absurd h3 (hno q x (by rw [hlen]; exact (List.getElem?_eq_some_iff.1 hq).1) hq h1 h2)

/-! ### Check -/
def chkE (x : Evt) : Bool := decide (0 ≤ x.fr) && (decide (x.to < 0) || decide (x.fr ≤ x.to))
def chk (evs : List Evt) : Bool := decide (evs.length ≤ 10) && evs.all chkE
theorem chk_iff {evs : List Evt} (hl : evs.length ≤ 10) : chk evs = true ↔ ∀ (i : Nat) (x : Evt), evs[i]? = some x → chkE x = true := by
  unfold chk
  simp only [hl, decide_true, Bool.true_and, List.all_eq_true]
  exact ⟨fun h i x hx => h x (List.mem_of_getElem? hx), fun h x hx => by obtain ⟨i, hi⟩ := List.mem_iff_getElem?.1 hx; exact h i x hi⟩
theorem chk_bad {evs : List Evt} {i : Nat} {x : Evt} (hi : evs[i]? = some x) (hx : chkE x = false) : chk evs = false := by
  unfold chk
  have : evs.all chkE = false := by
    rw [List.all_eq_false]
    exact ⟨x, List.mem_of_getElem? hi, by simp [hx]⟩
  simp [this]
def chkN (evs : List Evt) : Int := if chk evs = true then 0 else 1
theorem run_Check (h : SlL evLay w p l evs) (hK : ∀ w', Keep (fun _ => False) w w' → R (.int .i64 (chkN evs)) w') : CallV Try.prog 15 #[.slice p l c] w R := by
  apply C_history_Check
  unfold F_history_Check
  have hlen := h.1
  have bad : ∀ w', Keep (fun _ => False) w w' → chk evs = false → Ret [] (R (.int .i64 1) w') := by
    intro w' k hb
    rw [Ret_nil]
    have := hK w' k
    unfold chkN at this
    rw [hb] at this
    exact this
  refine Cb_of (fun hc => ?_) (fun hc => ?_)
  · refine bad _ (Keep.refl _ _) ?_
    unfold chk
    have : ¬ evs.length ≤ 10 := by simp only [decide_eq_true_eq] at hc; omega
    simp [this]
  have hl : l ≤ 10 := by simp only [decide_eq_false_iff_not] at hc; omega
  refine LoopC_of (σ := Int × Unit) (fun s w' => Keep (fun _ => False) w w' ∧ ∃ j : Nat, s.1 = j ∧ j ≤ l ∧ ∀ q x, q < j → evs[q]? = some x → chkE x = true) (fun s _ => (l - s.1).toNat)
    ⟨Keep.refl _ _, 0, rfl, by omega, fun q x hq => by omega⟩ ?_
  intro _ s w1 hI
  obtain ⟨i1, u⟩ := s
  obtain ⟨k1, j, hj, hjl, hno⟩ := hI
  simp only at hj ⊢
  subst hj
  have h1 := h.keepB k1 (by simp)
  refine Cb_of (fun hc => ?_) (fun hc => ?_)
  · have hj : j < l := by simp only [decide_eq_true_eq] at hc; omega
    have ew : IntKind.wrap .i64 ((j : Int) + 1) = ((j + 1 : Nat) : Int) := by rw [wrapI (by omega) (by omega)]; omega
    rw [ew]
    have g' := at_lt (evs := evs) (i := j) (by omega)
    have g : evs[((j : Nat) : Int).toNat]? = some (evs.getD j default) := by rw [Int.toNat_natCast]; exact g'
    generalize hx : evs.getD j default = x at *
    have next : ∀ w2, Keep (fun _ => False) w w2 → chkE x = true → ∃ m, m < ((l : Int) - (j : Int)).toNat ∧ ((Keep (fun _ => False) w w2 ∧ ∃ j' : Nat, ((j + 1 : Nat) : Int) = j' ∧ j' ≤ l ∧ ∀ q x, q < j' → evs[q]? = some x → chkE x = true) ∧ ((l : Int) - ((j + 1 : Nat) : Int)).toNat = m) := by
      intro w2 k2 hb
      refine ⟨_, by omega, ⟨k2, j + 1, rfl, hj, fun q y hq hy => ?_⟩, rfl⟩
      rcases Nat.lt_succ_iff_lt_or_eq.1 hq with h | h
      · exact hno q y h hy
      · subst h; rw [g'] at hy; cases hy; exact hb
    refine h1.ldA rfl (by omega) g ?_
    refine copy_of zc_ev rfl (one_evC x) fun w2 hb2 k2 _ => ?_
    have k12 := k1.trans k2
    refine LdV_has (v := .int .i64 x.fr) hb2 rfl ?_
    simp only [OpI_int]
    refine Cb_of (fun h1 => ?_) (fun h1 => ?_)
    · refine bad _ k12 (chk_bad g' ?_)
      simp only [decide_eq_true_eq] at h1
      simp only [chkE, Bool.and_eq_false_iff, decide_eq_false_iff_not]
      exact Or.inl (by omega)
    simp only [decide_eq_false_iff_not] at h1
    refine LdV_has (v := .int .i64 x.to) hb2 rfl ?_
    simp only [OpI_int]
    refine Cb_of (fun h2 => ?_) (fun h2 => ?_)
    · simp only [decide_eq_true_eq] at h2
      refine LdV_has (v := .int .i64 x.to) hb2 rfl ?_
      simp only [OpI_int]
      refine LdV_has (v := .int .i64 x.fr) hb2 rfl ?_
      simp only [OpI_int]
      refine Cb_of (fun h3 => ?_) (fun h3 => ?_)
      · simp only [decide_eq_true_eq] at h3
        refine bad _ k12 (chk_bad g' ?_)
        simp only [chkE, Bool.and_eq_false_iff, Bool.or_eq_false_iff, decide_eq_false_iff_not]
        exact Or.inr ⟨by omega, by omega⟩
      · simp only [decide_eq_false_iff_not] at h3
        refine next _ k12 ?_
        simp only [chkE, Bool.and_eq_true, Bool.or_eq_true, decide_eq_true_eq]
        exact ⟨by omega, Or.inr (by omega)⟩
    · simp only [decide_eq_false_iff_not] at h2
      refine next _ k12 ?_
      simp only [chkE, Bool.and_eq_true, Bool.or_eq_true, decide_eq_true_eq]
      exact ⟨by omega, Or.inl (by omega)⟩
  · have hj : j = l := by simp only [decide_eq_false_iff_not] at hc; omega
    subst hj
    rw [Ret_nil]
    have := hK w1 k1
    unfold chkN at this
    rw [if_pos ((chk_iff (by omega)).2 fun i x hx => hno i x (by rw [hlen]; exact (List.getElem?_eq_some_iff.1 hx).1) hx)] at this
    exact this
theorem ref_Check21 (h : SlL evLay w p l evs) (hK : ∀ w', Keep (fun _ => False) w w' → R (.int .i64 (chkN evs)) w') : CallV Try.prog 16 #[.slice p l c] w R := by
  apply C_ravelinref21_Check
  unfold F_ravelinref21_Check
  have hlen := h.1
  have bad : ∀ w', Keep (fun _ => False) w w' → chk evs = false → Ret [] (R (.int .i64 1) w') := by
    intro w' k hb
    rw [Ret_nil]
    have := hK w' k
    unfold chkN at this
    rw [hb] at this
    exact this
  refine Cb_of (fun hc => ?_) (fun hc => ?_)
  · refine bad _ (Keep.refl _ _) ?_
    unfold chk
    have : ¬ evs.length ≤ 10 := by simp only [decide_eq_true_eq] at hc; omega
    simp [this]
  have hl : l ≤ 10 := by simp only [decide_eq_false_iff_not] at hc; omega
  refine LoopC_of (σ := Int × Unit) (fun s w' => Keep (fun _ => False) w w' ∧ ∃ j : Nat, s.1 = j ∧ j ≤ l ∧ ∀ q x, q < j → evs[q]? = some x → chkE x = true) (fun s _ => (l - s.1).toNat)
    ⟨Keep.refl _ _, 0, rfl, by omega, fun q x hq => by omega⟩ ?_
  intro _ s w1 hI
  obtain ⟨i1, u⟩ := s
  obtain ⟨k1, j, hj, hjl, hno⟩ := hI
  simp only at hj ⊢
  subst hj
  have h1 := h.keepB k1 (by simp)
  refine Cb_of (fun hc => ?_) (fun hc => ?_)
  · have hj : j < l := by simp only [decide_eq_true_eq] at hc; omega
    have ew : IntKind.wrap .i64 ((j : Int) + 1) = ((j + 1 : Nat) : Int) := by rw [wrapI (by omega) (by omega)]; omega
    rw [ew]
    have g' := at_lt (evs := evs) (i := j) (by omega)
    have g : evs[((j : Nat) : Int).toNat]? = some (evs.getD j default) := by rw [Int.toNat_natCast]; exact g'
    generalize hx : evs.getD j default = x at *
    have next : ∀ w2, Keep (fun _ => False) w w2 → chkE x = true → ∃ m, m < ((l : Int) - (j : Int)).toNat ∧ ((Keep (fun _ => False) w w2 ∧ ∃ j' : Nat, ((j + 1 : Nat) : Int) = j' ∧ j' ≤ l ∧ ∀ q x, q < j' → evs[q]? = some x → chkE x = true) ∧ ((l : Int) - ((j + 1 : Nat) : Int)).toNat = m) := by
      intro w2 k2 hb
      refine ⟨_, by omega, ⟨k2, j + 1, rfl, hj, fun q y hq hy => ?_⟩, rfl⟩
      rcases Nat.lt_succ_iff_lt_or_eq.1 hq with h | h
      · exact hno q y h hy
      · subst h; rw [g'] at hy; cases hy; exact hb
    refine h1.ldF (t := 17) rfl (by omega) g (v := .int .i64 x.fr) rfl ?_
    simp only [OpI_int]
    refine Cb_of (fun h3 => ?_) (fun h3 => ?_)
    · intro dd
      refine bad _ (k1.dr dd) (chk_bad g' ?_)
      simp only [decide_eq_true_eq] at h3
      simp only [chkE, Bool.and_eq_false_iff, decide_eq_false_iff_not]
      exact Or.inl (by omega)
    simp only [decide_eq_false_iff_not] at h3
    refine h1.ldF (t := 18) rfl (by omega) g (v := .int .i64 x.to) rfl ?_
    simp only [OpI_int]
    refine Cb_of (fun h2 => ?_) (fun h2 => ?_)
    · simp only [decide_eq_true_eq] at h2
      refine h1.ldF (t := 18) rfl (by omega) g (v := .int .i64 x.to) rfl ?_
      simp only [OpI_int]
      refine h1.ldF (t := 17) rfl (by omega) g (v := .int .i64 x.fr) rfl ?_
      simp only [OpI_int]
      intro dd
      refine Cb_of (fun h4 => ?_) (fun h4 => ?_)
      · simp only [decide_eq_true_eq] at h4
        refine bad _ (k1.dr dd) (chk_bad g' ?_)
        simp only [chkE, Bool.and_eq_false_iff, Bool.or_eq_false_iff, decide_eq_false_iff_not]
        exact Or.inr ⟨by omega, by omega⟩
      · simp only [decide_eq_false_iff_not] at h4
        refine next _ (k1.dr dd) ?_
        simp only [chkE, Bool.and_eq_true, Bool.or_eq_true, decide_eq_true_eq]
        exact ⟨by omega, Or.inr (by omega)⟩
    · simp only [decide_eq_false_iff_not] at h2
      intro dd
      refine next _ (k1.dr dd) ?_
      simp only [chkE, Bool.and_eq_true, Bool.or_eq_true, decide_eq_true_eq]
      exact ⟨by omega, Or.inl (by omega)⟩
  · have hj : j = l := by simp only [decide_eq_false_iff_not] at hc; omega
    subst hj
    rw [Ret_nil]
    have := hK w1 k1
    unfold chkN at this
    rw [if_pos ((chk_iff (by omega)).2 fun i x hx => hno i x (by rw [hlen]; exact (List.getElem?_eq_some_iff.1 hx).1) hx)] at this
    exact this
end calls
end Go.Proofs
