/-
  MergeDirties, the walk.
-/
import Derived.Test.YtacnieopbkeoiaaRefDirty
import Derived.Test.YtacnieopbkeoiaaRefTop
namespace Go.Proofs
open Go Go.Ev Go.RowKit
set_option linter.unusedSimpArgs false
set_option linter.unusedVariables false
set_option maxRecDepth 100000

/-- SameRecords, which only draws -/
theorem same_recsD {ap bp : Option Addr} {al ac bl bc : Nat} {ra rb : List Rec} {w : World} {R : Value → World → Prop} (ha : SlL recLay w ap al ra) (hb : SlL recLay w bp bl rb) (hl : al ≤ maxLen) (oa : ∀ r ∈ ra, RecOk r) (ob : ∀ r ∈ rb, RecOk r)
    (hK : ∀ (b : Bool) d, (b = true ↔ ra = rb) → R (.bool b) (w.dr d)) :
    CallV Try.prog 21 #[.slice ap al ac, .slice bp bl bc] w R := by
  apply C_ravelinref04_SameRecords
  unfold F_ravelinref04_SameRecords
  have hmax : al ≤ 9223372036854775807 := by simpa [maxLen] using hl
  have la := ha.1
  have lb := hb.1
  refine Cb_of (fun hc => ?_) (fun hc => ?_)
  · simp only [Ret_nil]
    refine hK false w.drawn ⟨fun h => by simp at h, fun h => ?_⟩
    subst h
    simp [la, lb] at hc
  · have hab : al = bl := by have : ((al : Nat) : Int) = ((bl : Nat) : Int) := by simpa using hc
                             omega
    refine LoopC_of (σ := Int × Unit) (fun s w' => ∃ j d : Nat, s.1 = j ∧ j ≤ al ∧ (∀ i, i < j → ra[i]? = rb[i]?) ∧ w' = w.dr d) (fun s _ => (al - s.1).toNat) ⟨0, w.drawn, rfl, by omega, fun i hi => by omega, rfl⟩ ?_
    intro _ s w1 hs
    obtain ⟨i, u⟩ := s
    obtain ⟨j, d0, hij, hjl, hno, rfl⟩ := hs
    simp only at hij ⊢
    subst hij
    refine Cb_of (fun hc => ?_) (fun hc => ?_)
    · have hj : j < al := by simp only [decide_eq_true_eq] at hc; omega
      have ew : IntKind.wrap .i64 ((j : Int) + 1) = ((j + 1 : Nat) : Int) := by rw [wrapI (by omega) (by omega)]; omega
      rw [ew]
      have ga : ra[((j : Nat) : Int).toNat]? = some (ra[j]'(by omega)) := by rw [Int.toNat_natCast]; simp [show j < ra.length by omega]
      have gb : rb[((j : Nat) : Int).toNat]? = some (rb[j]'(by omega)) := by rw [Int.toNat_natCast]; simp [show j < rb.length by omega]
      have kd : Keep (fun _ => False) w (w.dr d0) := Keep.drew _ _ _
      refine (ha.keepB kd (by simp)).ldA rfl (by omega) ga ?_
      refine (hb.keepB kd (by simp)).ldA rfl (by omega) gb ?_
      refine EqB_rec_ne (oa _ (List.getElem_mem _)) (ob _ (List.getElem_mem _)) fun b hb d => ?_
      refine Cb_of (fun h => ?_) (fun h => ?_)
      · simp only [Ret_nil]
        exact hK false _ ⟨fun h => by simp at h, fun e => absurd (by simp [e]) (hb.1 h)⟩
      · have he : ra[j]'(by omega) = rb[j]'(by omega) := by
          by_cases e : ra[j]'(by omega) = rb[j]'(by omega)
          · exact e
          · rw [hb.2 e] at h; cases h
        exact ⟨_, by omega, ⟨j + 1, d, rfl, hj, fun i hi => by rcases Nat.lt_succ_iff_lt_or_eq.1 hi with h | h; exact hno i h; subst h; simp [show i < ra.length by omega, show i < rb.length by omega, he], rfl⟩, rfl⟩
    · have hj : j = al := by simp only [decide_eq_false_iff_not] at hc; omega
      subst hj
      simp only [Ret_nil]
      refine hK true d0 ⟨fun _ => ?_, fun _ => rfl⟩
      apply List.ext_getElem?
      intro i
      by_cases hi : i < j
      · exact hno i hi
      · rw [List.getElem?_eq_none (by omega), List.getElem?_eq_none (by omega)]
theorem same_recsQ {ap bp : Option Addr} {al ac bl bc : Nat} {ra rb : List Rec} {w : World} {K : Value → Prop} (ha : SlL recLay w ap al ra) (hb : SlL recLay w bp bl rb) (hl : al ≤ maxLen) (oa : ∀ r ∈ ra, RecOk r) (ob : ∀ r ∈ rb, RecOk r)
    (hK : ∀ b : Bool, (b = true ↔ ra = rb) → K (.bool b)) :
    CallQ Try.prog 21 #[.slice ap al ac, .slice bp bl bc] (At w) K := by
  classical
  refine ⟨.bool (decide (ra = rb)), ?_, hK _ (by simp)⟩
  rintro w' ⟨d, rfl⟩
  have kd : Keep (fun _ => False) w (w.dr d) := Keep.drew _ _ _
  refine Calls.mono (same_recsD (R := fun v w' => v = .bool (decide (ra = rb)) ∧ At w w') (ac := ac) (bc := bc) (ha.keepB kd (by simp)) (hb.keepB kd (by simp)) hl oa ob ?_) fun e w' ⟨v, he, hv, hw⟩ => by subst hv; exact ⟨he, hw⟩
  intro b d2 hb
  refine ⟨?_, ⟨d2, rfl⟩⟩
  congr 1
  cases b <;> simp_all

/-! ### slices of slices -/
def hdLay : Lay (Option Addr × Nat × Nat) := ⟨1, fun P => [.slice P.1 P.2.1 P.2.2], fun _ => rfl, fun P v hv => by simp at hv; subst hv; rfl, by decide⟩
theorem hdT : LayT Try.prog hdLay 44 37 24 := ⟨by kernel_rfl, (Try.prog.info? 37).get (by kernel_rfl), ((((Try.prog.info? 37).get (by kernel_rfl)).zero).get (by kernel_rfl)), by kernel_rfl, by kernel_rfl, by kernel_rfl, by kernel_rfl, by kernel_rfl⟩
/-- lists: heads, and what stands behind each -/
def ListsL (w : World) (xp : Option Addr) (n : Nat) (rss : List (List Rec)) : Prop :=
  ∃ Ps : List (Option Addr × Nat × Nat), SlL hdLay w xp n Ps ∧ Ps.length = rss.length ∧ ∀ (i : Nat) (P : Option Addr × Nat × Nat) (rs : List Rec), Ps[i]? = some P → rss[i]? = some rs → SlL recLay w P.1 P.2.1 rs
theorem ListsL.lists {w : World} {xp : Option Addr} {n : Nat} {rss : List (List Rec)} (h : ListsL w xp n rss) : Lists w xp n rss := by
  obtain ⟨Ps, h1, h2, h3⟩ := h
  refine ⟨by rw [h1.1, h2], fun i => Ps.getD i (none, 0, 0), Sl_of_SlL h1 (none, 0, 0) (fun i x hi => by simp [List.getD, hi]; rfl) rfl, fun i hi => ?_⟩
  have hi' : i < Ps.length := by rw [← h1.1]; exact hi
  have hi2 : i < rss.length := by omega
  have := h3 i Ps[i] rss[i] (by simp [hi']) (by simp [hi2])
  simp only [List.getD, List.getElem?_eq_getElem hi', List.getElem?_eq_getElem hi2, Option.getD_some]
  exact SlL.recSl this
theorem Lists.listsL {w : World} {xp : Option Addr} {n : Nat} {rss : List (List Rec)} (h : Lists w xp n rss) : ListsL w xp n rss := by
  obtain ⟨h1, P, h2, h3⟩ := h
  refine ⟨(List.range n).map P, ⟨by simp, fun i x hi => ?_⟩, by simp [h1], fun i p rs hi hr => ?_⟩
  · have hlt : i < n := by have := (List.getElem?_eq_some_iff.1 hi).1; simpa using this
    have : x = P i := by simp [hlt] at hi; exact hi.symm
    subst this
    obtain ⟨_, b, o, hp, hc⟩ := h2 i hlt
    exact ⟨b, o, hp, fun j hj => hc j hj⟩
  · have hlt : i < n := by have := (List.getElem?_eq_some_iff.1 hi).1; simpa using this
    have : p = P i := by simp [hlt] at hi; exact hi.symm
    subst this
    have := h3 i hlt
    rw [List.getD, hr, Option.getD_some] at this
    exact this.slL
theorem ListsL.keepB {S : Nat → Prop} {w w' : World} {xp : Option Addr} {n : Nat} {rss : List (List Rec)} (h : ListsL w xp n rss) (hk : Keep S w w') (hS : ∀ k, k < w.heap.size → ¬ S k) : ListsL w' xp n rss := by
  obtain ⟨Ps, h1, h2, h3⟩ := h
  exact ⟨Ps, h1.keepB hk hS, h2, fun i P rs a b => (h3 i P rs a b).keepB hk hS⟩
/-- lists of one's own -/
def OwnLs (w : World) (base : Nat) (xp : Option Addr) (n c : Nat) (rss : List (List Rec)) : Prop :=
  ∃ Ps : List (Option Addr × Nat × Nat), OwnL hdLay w base 37 xp n c Ps ∧ Ps.length = rss.length ∧ ∀ (i : Nat) (P : Option Addr × Nat × Nat) (rs : List Rec), Ps[i]? = some P → rss[i]? = some rs → OwnL recLay w base 42 P.1 P.2.1 P.2.2 rs
theorem OwnLs.lists {w : World} {base : Nat} {xp : Option Addr} {n c : Nat} {rss : List (List Rec)} (h : OwnLs w base xp n c rss) : ListsL w xp n rss := by
  obtain ⟨Ps, h1, h2, h3⟩ := h
  exact ⟨Ps, h1.sl, h2, fun i P rs a b => (h3 i P rs a b).sl⟩
theorem bsls_none (w : World) : (Instr.buildSlice 44 0 #[]).run Try.prog w = .ok (.slice (some ⟨w.heap.size, 0, none⟩) 0 0) (w.alloc (.cells #[] 37)) := by kernel_rfl
theorem bsls_one (p : Option Addr) (l c : Nat) (w : World) : (Instr.buildSlice 44 1 #[(0, .slice p l c)]).run Try.prog w = .ok (.slice (some ⟨w.heap.size, 0, none⟩) 1 1) (w.alloc (.cells #[.slice p l c] 37)) :=
  run_buildSlice w 44 37 1 _ #[.slice p l c] ((Try.prog.info? 37).get (by kernel_rfl)) (.slice none 0 0) (by kernel_rfl) (by kernel_rfl) (by kernel_rfl) (by decide +kernel) (by decide +kernel) (by kernel_rfl)

theorem law_copies {xp : Option Addr} {n c : Nat} {rss : List (List Rec)} {w : World} {R : Value → World → Prop} (h : ListsL w xp n rss) (hn : n ≤ 10000000) (ht : total rss ≤ 10000000)
    (hK : ∀ p l cp w', OwnLs w' w.heap.size p l cp rss → Keep (fun _ => False) w w' → R (.slice p l cp) w') :
    CallV Try.prog 22 #[.slice xp n c] w R := by
  apply C_ravelinlaw13_copies
  unfold F_ravelinlaw13_copies
  obtain ⟨Qs, hQ, hQl, hQr⟩ := id h
  refine ⟨_, _, bsls_none w, ?_⟩
  simp only [OpS_slice]
  have k1 := Keep.new (fun _ => False) w (.cells #[] 37)
  have hk0 : OwnL hdLay (w.alloc (.cells #[] 37)) w.heap.size 37 (some ⟨w.heap.size, 0, none⟩) 0 0 [] := OwnL.new (L := hdLay) (xs := []) (by simp) rfl
  refine LoopC_of (σ := (Option Addr × Nat × Nat) × Int × Unit) (fun s w' => ∃ (i : Nat), s.2.1 = i ∧ i ≤ n ∧ OwnLs w' w.heap.size s.1.1 s.1.2.1 s.1.2.2 (rss.take i) ∧ Keep (fun _ => False) w w')
    (fun s _ => (n - s.2.1).toNat) ⟨0, rfl, by omega, ⟨[], hk0, by simp, fun i P rs a b => by simp at a⟩, k1⟩ ?_
  clear hk0 k1
  intro _ s w1 hs
  obtain ⟨⟨q, lq, cq⟩, i, u⟩ := s
  obtain ⟨i, hi, hil, ⟨Ps, hP, hPl, hPr⟩, k1⟩ := hs
  simp only at hi hP ⊢
  subst hi
  refine Cb_of (fun hc => ?_) (fun hc => ?_)
  · have hi : i < n := by simp only [decide_eq_true_eq] at hc; omega
    have ew : IntKind.wrap .i64 ((i : Int) + 1) = ((i + 1 : Nat) : Int) := by rw [wrapI (by omega) (by omega)]; omega
    rw [ew]
    have hil1 : i < Qs.length := by rw [← hQ.1]; exact hi
    have hil2 : i < rss.length := by omega
    refine ⟨_, _, bsl_none w1, ?_⟩
    simp only [OpS_slice]
    have k2 := Keep.new (fun _ => False) w1 (.cells #[] 42)
    have hk0 : OwnL recLay (w1.alloc (.cells #[] 42)) w1.heap.size 42 (some ⟨w1.heap.size, 0, none⟩) 0 0 [] := OwnL.new (L := recLay) (xs := []) (by simp) rfl
    have k12 := k1.trans k2
    have gq : Qs[((i : Nat) : Int).toNat]? = some Qs[i] := by rw [Int.toNat_natCast]; simp [hil1]
    refine (hQ.keepB k12 (by simp)).ld0 rfl (by omega) gq (v := .slice Qs[i].1 Qs[i].2.1 Qs[i].2.2) rfl ?_
    simp only [OpS_slice]
    have hsrc := (hQr i Qs[i] rss[i] (by simp [hil1]) (by simp [hil2])).keepB k12 (by simp)
    have hln : Qs[i].2.1 = rss[i].length := hsrc.1
    have hlt : rss[i].length ≤ total rss := by
      have e1 := take_succ_get (rss := rss) (j := i) hil2
      have e2 := total_take (rss := rss) (i + 1)
      rw [e1, List.length_append] at e2
      simp only [List.getD, List.getElem?_eq_getElem hil2, Option.getD_some] at e2
      omega
    obtain ⟨p3, c3, w3, hr3, ho3, k3⟩ := run_appendL recT hk0 hsrc (c2 := Qs[i].2.2) (ty := 37) (by omega) (by simp [maxLen]; omega) (by have := k2.size; omega)
    refine ⟨_, _, hr3, ?_⟩
    simp only [OpS_slice]
    have k13 : Keep (fun _ => False) w1 w3 := k2.trans' k3 (fun x hx hp => by simp only [Option.some.injEq, Addr.mk.injEq] at hp; omega)
    refine ⟨_, _, bsls_one p3 _ c3 w3, ?_⟩
    simp only [OpS_slice]
    have k4 := Keep.new (fun _ => False) w3 (.cells #[.slice p3 (0 + Qs[i].2.1) c3] 37)
    have k14 := k13.trans k4
    have hP4 := hP.keep k14 (by simp)
    have hlq := hP.length
    have htk : (rss.take i).length = i := by simp; omega
    obtain ⟨p5, c5, w5, hr5, ho5, k5⟩ := run_appendL1 hdT hP4 (y := (p3, 0 + Qs[i].2.1, c3)) (Has.new w3 (.cells #[.slice p3 (0 + Qs[i].2.1) c3] 37)) rfl (ty := 44) (c2 := 1) (by omega) (by simp [maxLen]; omega) (by have := k1.size; have := k14.size; omega)
    refine ⟨_, _, hr5, ?_⟩
    simp only [OpS_slice]
    have ho4 : OwnL recLay (w3.alloc (.cells #[.slice p3 (0 + Qs[i].2.1) c3] 37)) w1.heap.size 42 p3 (0 + Qs[i].2.1) c3 ([] ++ rss[i]) := ho3.keep k4 (by simp)
    refine ⟨_, by omega, ⟨i + 1, rfl, by omega, ⟨Ps ++ [(p3, 0 + Qs[i].2.1, c3)], ho5, by simp; omega, fun j P rs hj hr => ?_⟩, ?_⟩, rfl⟩
    · by_cases hji : j < i
      · rw [List.getElem?_append_left (by omega)] at hj
        have hj4 : OwnL recLay (w3.alloc (.cells #[.slice p3 (0 + Qs[i].2.1) c3] 37)) w.heap.size 42 P.1 P.2.1 P.2.2 rs := (hPr j P rs hj (by rw [List.getElem?_take] at hr ⊢; rw [if_pos hji]; rwa [if_pos (by omega)] at hr)).keep k14 (by simp)
        exact hj4.keep k5 (fun k hk => hj4.apart hP4 (by decide) hk)
      · have hjl := (List.getElem?_eq_some_iff.1 hj).1
        have : j = i := by simp at hjl; omega
        subst this
        have hjP : (Ps ++ [(p3, 0 + Qs[j].2.1, c3)])[j]? = some (p3, 0 + Qs[j].2.1, c3) := by rw [List.getElem?_append_right (by omega), show j - Ps.length = 0 by omega]; rfl
        rw [hjP] at hj
        cases hj
        rw [List.getElem?_take, if_pos (by omega), List.getElem?_eq_getElem hil2] at hr
        cases hr
        exact (ho4.keep k5 (fun k hk => ho4.apart hP4 (by decide) hk)).rebase k1.size
    · exact (k1.trans k14).trans' k5 (fun x hx hp => by have := (hP.lt hp).1; omega)
  · have hi : i = n := by simp only [decide_eq_false_iff_not] at hc; omega
    subst hi
    simp only [Ret_nil]
    have e0 : rss.take i = rss := by rw [hQ.1, hQl]; simp
    rw [e0] at hPl hPr
    exact hK q lq cq w1 ⟨Ps, hP, hPl, hPr⟩ k1

theorem dirties_walk {xp : Option Addr} {n c : Nat} {rss : List (List Rec)} {W : World} (h : ListsL W xp n rss) (hn : n ≤ 10000000) (ht : total rss ≤ 10000000) (hok : ∀ rs ∈ rss, ∀ r ∈ rs, RecOk r) :
    CallV Try.prog 6 #[.slice xp n c] W fun v w' => v = .bool true ∧ Below W.heap.size W w' := by
  apply C_ravelinlaw13_MergeDirties
  unfold F_ravelinlaw13_MergeDirties
  refine law_copies h hn ht fun p l cp w1 ho k1 => ?_
  simp only [OpS_slice]
  refine law13_awake fun w2 k2 => ?_
  simp only [OpB_bool, Bool.not_true, Cb_false]
  have hown2 : ListsL w2 p l rss := ho.lists.keepB k2 (by simp)
  have k12 := k1.trans k2
  have hin2 := h.keepB k12 (by simp)
  have hnl : l = rss.length := by obtain ⟨Ps, a, b, _⟩ := hown2; rw [a.1, b]
  have hnn : n = rss.length := by obtain ⟨Ps, a, b, _⟩ := h; rw [a.1, b]
  have mem_ok : ∀ r ∈ rss.flatten, RecOk r := fun r hr => by
    obtain ⟨rs, h1, h2⟩ := List.mem_flatten.1 hr
    exact hok rs h1 r h2
  refine merge_Dirty hown2.lists (by omega) ht fun p1 l1 c1 rs w3 hrp hrs ho3 k3 => ?_
  have ho3 : OwnL recLay w3 w2.heap.size 42 p1 l1 c1 rs := ho3
  simp only [OpS_slice]
  have hin3 := hin2.keepB k3 (by simp)
  refine ref_Dirty hin3.lists (by omega) ht fun p2 l2 c2 ks ss w4 hkept hsp hss ho4 k4 => ?_
  simp only [OpS_slice]
  have hsr : rs = ss := left_kept hkept hrp hrs hsp hss
  have rok : ∀ r ∈ rs, RecOk r := fun r hr => by
    have := (left_mem _ r).1 (hrp.subset hr)
    obtain ⟨⟨i, hi, _⟩, _⟩ := this
    exact mem_ok r (List.mem_of_getElem? hi)
  have ho34 := ho3.keep k4 (by simp)
  refine same_recsD ho34.sl ho4.sl (Nat.le_trans ho34.cap.1 ho34.cap.2) rok (by rw [← hsr]; exact rok) fun b d hb => ?_
  have hbt : b = true := hb.2 hsr
  subst hbt
  simp only [OpB_bool, Bool.not_true, Cb_false]
  have k5 : Keep (fun _ => False) w4 (w4.dr d) := Keep.drew _ _ _
  have k35 := (k3.trans k4).trans k5
  refine merge_Top (hown2.keepB k35 (by simp)).lists (by omega) ht fun w6 k6 => ?_
  simp only [OpI_int]
  have k36 := k35.trans k6
  refine ref_Top (hin2.keepB k36 (by simp)).lists (by omega) ht fun w7 k7 => ?_
  simp only [OpI_int, bne_self_eq_false, Cb_false]
  have k37 := k36.trans k7
  have hown7 := hown2.keepB k37 (by simp)
  have hin7 := hin2.keepB k37 (by simp)
  refine LoopC_of (σ := Int × Unit) (fun s w' => ∃ j d : Nat, s.1 = j ∧ j ≤ n ∧ w' = w7.dr d) (fun s _ => (n - s.1).toNat) ⟨0, w7.drawn, rfl, by omega, rfl⟩ ?_
  intro _ s w8 hs
  obtain ⟨i, u⟩ := s
  obtain ⟨j, d0, hij, hjl, rfl⟩ := hs
  simp only at hij ⊢
  subst hij
  have k8 : Keep (fun _ => False) w7 (w7.dr d0) := Keep.drew _ _ _
  refine Cb_of (fun hc => ?_) (fun hc => ?_)
  · have hj : j < n := by simp only [decide_eq_true_eq] at hc; omega
    have ew : IntKind.wrap .i64 ((j : Int) + 1) = ((j + 1 : Nat) : Int) := by rw [wrapI (by omega) (by omega)]; omega
    rw [ew]
    obtain ⟨Ps, hP, hPl, hPr⟩ := hown7.keepB k8 (by simp)
    obtain ⟨Qs, hQ, hQl, hQr⟩ := hin7.keepB k8 (by simp)
    have gp : Ps[((j : Nat) : Int).toNat]? = some (Ps[j]'(by omega)) := by rw [Int.toNat_natCast]; simp [show j < Ps.length by omega]
    have gq : Qs[((j : Nat) : Int).toNat]? = some (Qs[j]'(by omega)) := by rw [Int.toNat_natCast]; simp [show j < Qs.length by omega]
    have gr : rss[j]? = some (rss[j]'(by omega)) := by simp [show j < rss.length by omega]
    refine hP.ld0 rfl (by omega) gp (v := .slice _ _ _) rfl ?_
    simp only [OpS_slice]
    refine hQ.ld0 rfl (by omega) gq (v := .slice _ _ _) rfl ?_
    simp only [OpS_slice]
    have s1 := hPr j _ _ (by rw [Int.toNat_natCast] at gp; exact gp) gr
    have s2 := hQr j _ _ (by rw [Int.toNat_natCast] at gq; exact gq) gr
    have hlen : (rss[j]'(by omega)).length ≤ 10000000 := by
      have e1 := take_succ_get (rss := rss) (j := j) (by omega)
      have e2 := total_take (rss := rss) (j + 1)
      rw [e1, List.length_append] at e2
      simp only [List.getD, gr, Option.getD_some] at e2
      omega
    refine same_recsQ s1 s2 (by rw [s1.1]; simp [maxLen]; omega) (hok _ (List.getElem_mem _)) (hok _ (List.getElem_mem _)) fun b hb => ?_
    have hbt : b = true := hb.2 rfl
    subst hbt
    simp only [OpB_bool, Bool.not_true]
    intro d
    simp only [Cb_false]
    exact ⟨_, by omega, ⟨j + 1, d, rfl, by omega, rfl⟩, rfl⟩
  · simp only [Ret_nil]
    exact ⟨trivial, ((k12.trans k37).trans k8).below⟩
end Go.Proofs
