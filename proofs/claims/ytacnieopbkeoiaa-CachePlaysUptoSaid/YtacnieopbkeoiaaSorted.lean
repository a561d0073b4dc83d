/-
  ravelinref11.Sorted: the same records, by rising version and sector.
-/
import Derived.Test.YtacnieopbkeoiaaRow
import Derived.Test.YtacnieopbkeoiaaDirtyP
import Derived.Test.YtacnieopbkeoiaaFSorted
import Derived.Test.YtacnieopbkeoiaaJoined
namespace Go.Proofs
open Go Go.Ev Go.RowKit
set_option linter.unusedSimpArgs false
set_option linter.unusedVariables false
set_option maxRecDepth 100000

def recLay : Lay Rec := ⟨19, recL, length_recL, one_recL, by decide⟩
theorem recT : LayT Try.prog recLay 37 42 40 := ⟨by kernel_rfl, (Try.prog.info? 42).get (by kernel_rfl), ((((Try.prog.info? 42).get (by kernel_rfl)).zero).get (by kernel_rfl)), by kernel_rfl, by kernel_rfl, by kernel_rfl, by kernel_rfl, by kernel_rfl⟩
theorem SlL.recSl {w : World} {p : Option Addr} {l : Nat} {rs : List Rec} (h : SlL recLay w p l rs) : RecSl w p l rs :=
  ⟨h.1, Sl_of_SlL h default (fun i x hi => by simp [List.getD, hi]; rfl) rfl⟩
theorem RecSl.slL {w : World} {p : Option Addr} {l : Nat} {rs : List Rec} (h : RecSl w p l rs) : SlL recLay w p l rs :=
  ⟨h.1, fun i x hi => by
    have hlt := (List.getElem?_eq_some_iff.1 hi).1
    obtain ⟨_, b, o, hp, hc⟩ := h.2 i (by have := h.1; omega)
    refine ⟨b, o, hp, fun j hj => ?_⟩
    have := hc j hj
    simp only [List.getD, hi, Option.getD_some] at this
    exact this⟩

/-- in order but for what stands at k -/
def Ins (f : Nat → Rec) (i k : Nat) : Prop := ∀ a b, a < b → b ≤ i → b ≠ k → ¬ cmpR (f b) (f a) < 0
def Srt (f : Nat → Rec) (i : Nat) : Prop := ∀ a b, a < b → b < i → ¬ cmpR (f b) (f a) < 0
def fn (rs : List Rec) : Nat → Rec := fun a => rs.getD a default
theorem fn_get {rs : List Rec} {i : Nat} (h : i < rs.length) : rs[i]? = some (fn rs i) := by simp [fn, List.getD, h]
theorem fn_swap {rs : List Rec} {k : Nat} (h0 : 0 < k) (h : k < rs.length) (a : Nat) : fn ((rs.set k (fn rs (k - 1))).set (k - 1) (fn rs k)) a = if a = k - 1 then fn rs k else if a = k then fn rs (k - 1) else fn rs a := by
  unfold fn
  simp only [List.getD, List.getElem?_set, List.length_set]
  by_cases h1 : a = k - 1
  · subst h1; simp [show k - 1 < rs.length by omega]
  · rw [if_neg (fun e => h1 e.symm), if_neg h1]
    by_cases h2 : a = k
    · subst h2; simp [h]
    · rw [if_neg (fun e => h2 e.symm), if_neg h2]
theorem swap_perm {rs : List Rec} {k : Nat} (h0 : 0 < k) (h : k < rs.length) : ((rs.set k (fn rs (k - 1))).set (k - 1) (fn rs k)).Perm rs := by
  have e1 : fn rs (k - 1) = rs[k - 1] := by simp [fn, List.getD, show k - 1 < rs.length by omega]
  have e2 : fn rs k = rs[k] := by simp [fn, List.getD, h]
  rw [e1, e2]
  exact List.set_set_perm h (by omega)
theorem Ins.swap {rs : List Rec} {i k : Nat} (hI : Ins (fn rs) i k) (h0 : 0 < k) (hk : k ≤ i) (hi : i < rs.length) (hlt : cmpR (fn rs k) (fn rs (k - 1)) < 0) : Ins (fn ((rs.set k (fn rs (k - 1))).set (k - 1) (fn rs k))) i (k - 1) := by
  intro a b hab hb hne
  rw [fn_swap h0 (by omega), fn_swap h0 (by omega), if_neg hne]
  by_cases hbk : b = k
  · subst hbk
    rw [if_pos rfl]
    by_cases ha : a = b - 1
    · rw [if_pos ha]
      simp only [cmpR_lt] at hlt ⊢
      omega
    · rw [if_neg ha, if_neg (by omega)]
      exact hI a (b - 1) (by omega) (by omega) (by omega)
  · rw [if_neg hbk]
    by_cases ha : a = k - 1
    · rw [if_pos ha]
      exact hI k b (by omega) hb hbk
    · rw [if_neg ha]
      by_cases hak : a = k
      · rw [if_pos hak]
        exact hI (k - 1) b (by omega) hb hbk
      · rw [if_neg hak]
        exact hI a b hab hb hbk
theorem Ins.start {rs : List Rec} {i : Nat} (h : Srt (fn rs) i) : Ins (fn rs) i i := fun a b hab hb hne => h a b hab (by omega)
theorem Ins.done0 {rs : List Rec} {i : Nat} (h : Ins (fn rs) i 0) : Srt (fn rs) (i + 1) := fun a b hab hb => h a b hab (by omega) (by omega)
theorem Ins.done {rs : List Rec} {i k : Nat} (h : Ins (fn rs) i k) (h0 : 0 < k) (hge : ¬ cmpR (fn rs k) (fn rs (k - 1)) < 0) : Srt (fn rs) (i + 1) := by
  intro a b hab hb
  by_cases hbk : b = k
  · subst hbk
    by_cases ha : a = b - 1
    · subst ha; exact hge
    · have := h a (b - 1) (by omega) (by omega) (by omega)
      simp only [cmpR_lt] at this hge ⊢
      omega
  · exact h a b hab (by omega) hbk
theorem Srt.byver {rs : List Rec} (h : Srt (fn rs) rs.length) : ByVer rs := by
  unfold ByVer
  rw [List.pairwise_iff_getElem]
  intro i j hi hj hij
  have := h i j hij hj
  simpa [fn, List.getD, hi, hj] using this
theorem Srt.one {rs : List Rec} : Srt (fn rs) 1 := fun a b hab hb => by omega
theorem Srt.mono {rs : List Rec} {i j : Nat} (h : Srt (fn rs) i) (hj : j ≤ i) : Srt (fn rs) j := fun a b hab hb => h a b hab (by omega)

theorem ref_Sorted {lp : Option Addr} {ll lc : Nat} {rs : List Rec} {w : World} {R : Value → World → Prop} (h : SlL recLay w lp ll rs) (hl : ll ≤ 1000000000)
    (hK : ∀ p l c rs' w', rs'.Perm rs → ByVer rs' → OwnL recLay w' w.heap.size 42 p l c rs' → Keep (fun _ => False) w w' → R (.slice p l c) w') :
    CallV Try.prog 43 #[.slice lp ll lc] w R := by
  apply C_ravelinref11_Sorted
  unfold F_ravelinref11_Sorted
  refine ⟨_, _, bsl_none w, ?_⟩
  simp only [OpS_slice]
  have k1 := Keep.new (fun _ => False) w (.cells #[] 42)
  have ho : OwnL recLay (w.alloc (.cells #[] 42)) w.heap.size 42 (some ⟨w.heap.size, 0, none⟩) 0 0 [] := OwnL.new (L := recLay) (xs := []) (by simp) rfl
  have h1 := h.keepB k1 (by simp)
  obtain ⟨p, c, w2, hr, ho2, k2⟩ := run_appendL recT ho h1 (c2 := lc) (ty := 37) (by omega) (by simp [maxLen]; omega) k1.size
  refine ⟨_, _, hr, ?_⟩
  simp only [OpS_slice]
  have k12 : Keep (fun _ => False) w w2 := k1.trans' k2 (fun k hk hp => by have := (ho.lt hp).1; omega)
  have e0 : 0 + ll = ll := by omega
  simp only [e0, List.nil_append] at ho2 ⊢
  refine LoopC_of (σ := Int × Unit) (fun s w' => ∃ (i : Nat) (rs' : List Rec), s.1 = i ∧ 1 ≤ i ∧ (i ≤ ll ∨ i = 1) ∧ rs'.Perm rs ∧ Srt (fn rs') i ∧ OwnL recLay w' w.heap.size 42 p ll c rs' ∧ Keep (fun _ => False) w w')
    (fun s _ => (ll - s.1).toNat) ⟨1, rs, rfl, by omega, Or.inr rfl, List.Perm.refl _, Srt.one, ho2, k12⟩ ?_
  intro _ s w3 hs
  obtain ⟨i, u⟩ := s
  obtain ⟨i, rs', hij, h1i, hil, hp, hsr, ho3, k3⟩ := hs
  simp only at hij ⊢
  subst hij
  have hlen := ho3.length
  refine Cb_of (fun hc => ?_) (fun hc => ?_)
  · have hi : i < ll := by simp only [decide_eq_true_eq] at hc; omega
    have ew : IntKind.wrap .i64 ((i : Int) + 1) = ((i + 1 : Nat) : Int) := by rw [wrapI (by omega) (by omega)]; omega
    rw [ew]
    have fin : ∀ (ss : List Rec) w', ss.Perm rs → Srt (fn ss) (i + 1) → OwnL recLay w' w.heap.size 42 p ll c ss → Keep (fun _ => False) w w' →
        ∃ m', m' < ((ll : Int) - (i : Int)).toNat ∧ ((∃ (i' : Nat) (rs' : List Rec), ((i + 1 : Nat) : Int) = i' ∧ 1 ≤ i' ∧ (i' ≤ ll ∨ i' = 1) ∧ rs'.Perm rs ∧ Srt (fn rs') i' ∧ OwnL recLay w' w.heap.size 42 p ll c rs' ∧ Keep (fun _ => False) w w') ∧ ((ll : Int) - ((i + 1 : Nat) : Int)).toNat = m') :=
      fun ss w' a b d e => ⟨_, by omega, ⟨i + 1, ss, rfl, by omega, Or.inl hi, a, b, d, e⟩, rfl⟩
    refine LoopC_of (σ := Int × Unit) (fun s w' => ∃ (k : Nat) (ss : List Rec), s.1 = k ∧ k ≤ i ∧ ss.Perm rs ∧ Ins (fn ss) i k ∧ OwnL recLay w' w.heap.size 42 p ll c ss ∧ Keep (fun _ => False) w w')
      (fun s _ => s.1.toNat) ⟨i, rs', rfl, by omega, hp, Ins.start hsr, ho3, k3⟩ ?_
    intro _ s w4 hs
    obtain ⟨k, u⟩ := s
    obtain ⟨k, ss, hk, hki, hps, hin, ho4, k4⟩ := hs
    simp only at hk ⊢
    subst hk
    have hlen4 := ho4.length
    refine Cb_of (fun hc => ?_) (fun hc => ?_)
    · have h0 : 0 < k := by simp only [decide_eq_true_eq] at hc; omega
      have ew2 : IntKind.wrap .i64 ((k : Int) - 1) = ((k - 1 : Nat) : Int) := by rw [wrapI (by omega) (by omega)]; omega
      rw [ew2]
      have gk : ss[((k : Nat) : Int).toNat]? = some (fn ss k) := by rw [Int.toNat_natCast]; exact fn_get (by omega)
      have gj : ss[((k - 1 : Nat) : Int).toNat]? = some (fn ss (k - 1)) := by rw [Int.toNat_natCast]; exact fn_get (by omega)
      have step : ∀ w5, OwnL recLay w5 w.heap.size 42 p ll c ss → Keep (fun _ => False) w w5 → cmpR (fn ss k) (fn ss (k - 1)) < 0 →
          ∀ K2 : World → Prop, (∀ w6 m', (m' < k ∧ ((∃ (k' : Nat) (ss : List Rec), ((k - 1 : Nat) : Int) = k' ∧ k' ≤ i ∧ ss.Perm rs ∧ Ins (fn ss) i k' ∧ OwnL recLay w6 w.heap.size 42 p ll c ss ∧ Keep (fun _ => False) w w6) ∧ ((k - 1 : Nat) : Int).toNat = m')) → K2 w6) →
          HeldR w5 fun S w => IdxS p ll ((k - 1 : Nat) : Int) 19 fun b o => LdA 19 b o (At w) fun cs => IdxS p ll (k : Int) 19 fun b o => LdA 19 b o (At w) fun cs1 => IdxS p ll (k : Int) 19 fun b o => StA 19 b o cs w fun w => Hld (S w) (IdxS p ll ((k - 1 : Nat) : Int) 19 fun b o => StA 19 b o cs1 w fun w => Hld (S w) (K2 w)) := by
        intro w5 ho5 k5 hlt K2 hK2 d
        refine ⟨fun _ => True, trivial, ?_⟩
        have ho6 := ho5.keep ((Keep.refl (fun _ => False) w5).dr d) (by simp)
        refine ho6.ldA rfl (by omega) gj ?_
        refine ho6.ldA rfl (by omega) gk ?_
        refine ho6.stA rfl (by omega) (by omega) (fn ss (k - 1)) rfl fun w7 ho7 k7 _ => ⟨trivial, ?_⟩
        refine ho7.stA rfl (by omega) (by omega) (fn ss k) rfl fun w8 ho8 k8 _ => ⟨trivial, ?_⟩
        refine hK2 w8 (k - 1) ⟨by omega, ⟨k - 1, _, rfl, by omega, ?_, hin.swap h0 hki (by omega) hlt, by simpa using ho8, ?_⟩, by simp⟩
        · exact (swap_perm h0 (by omega)).trans hps
        · have k9 : Keep (fun x => p = some ⟨x, 0, none⟩) (w5.dr d) w8 := k7.trans k8
          exact (k5.dr d).trans' k9 (fun x hx hp => by have := (ho5.lt hp).1; omega)
      refine ho4.ldF (t := 1) rfl (by omega) gk (v := .int .u64 (fn ss k).ver) rfl ?_
      simp only [OpI_int]
      refine ho4.ldF (t := 1) rfl (by omega) gj (v := .int .u64 (fn ss (k - 1)).ver) rfl ?_
      simp only [OpI_int]
      refine Cb_of (fun h1 => ?_) (fun h1 => ?_)
      · intro d
        exact step (w4.dr d) (ho4.keep ((Keep.refl (fun _ => False) w4).dr d) (by simp)) (k4.dr d) (by rw [cmpR_lt]; simp only [decide_eq_true_eq] at h1; omega) _ (fun w6 m' hm => Exists.intro m' ⟨by simpa using hm.1, hm.2⟩)
      · refine ho4.ldF (t := 1) rfl (by omega) gk (v := .int .u64 (fn ss k).ver) rfl ?_
        simp only [OpI_int]
        refine ho4.ldF (t := 1) rfl (by omega) gj (v := .int .u64 (fn ss (k - 1)).ver) rfl ?_
        simp only [OpI_int]
        refine Cb_of (fun h2 => ?_) (fun h2 => ?_)
        · refine ho4.ldF (t := 2) rfl (by omega) gk (v := .int .i64 (fn ss k).lba) rfl ?_
          simp only [OpI_int]
          refine ho4.ldF (t := 2) rfl (by omega) gj (v := .int .i64 (fn ss (k - 1)).lba) rfl ?_
          simp only [OpI_int]
          intro d
          have ho5 := ho4.keep ((Keep.refl (fun _ => False) w4).dr d) (by simp)
          refine Cb_of (fun h3 => ?_) (fun h3 => ?_)
          · exact step (w4.dr d) ho5 (k4.dr d) (by rw [cmpR_lt]; simp only [decide_eq_true_eq, beq_iff_eq] at h2 h3; omega) _ (fun w6 m' hm => Exists.intro m' ⟨by simpa using hm.1, hm.2⟩)
          · exact fin ss _ hps (hin.done h0 (by rw [cmpR_lt]; simp only [decide_eq_false_iff_not, beq_iff_eq] at h1 h2 h3; omega)) ho5 (k4.dr d)
        · intro d
          have ho5 := ho4.keep ((Keep.refl (fun _ => False) w4).dr d) (by simp)
          exact fin ss _ hps (hin.done h0 (by rw [cmpR_lt]; simp only [decide_eq_false_iff_not, beq_eq_false_iff_ne] at h1 h2; omega)) ho5 (k4.dr d)
    · have h0 : k = 0 := by simp only [decide_eq_false_iff_not] at hc; omega
      subst h0
      intro d
      exact fin ss _ hps hin.done0 (ho4.keep ((Keep.refl (fun _ => False) w4).dr d) (by simp)) (k4.dr d)
  · have hi : ¬ i < ll := by simp only [decide_eq_false_iff_not] at hc; omega
    simp only [Ret_nil]
    refine hK p ll c rs' w3 hp (Srt.byver (hsr.mono (by omega))) ho3 k3
end Go.Proofs
