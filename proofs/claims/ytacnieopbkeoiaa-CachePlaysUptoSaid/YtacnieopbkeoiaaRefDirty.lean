/-
  The document's Dirty: the records that nothing stands against, sorted.
-/
import Derived.Test.YtacnieopbkeoiaaSorted
import Derived.Test.YtacnieopbkeoiaaFDirt
namespace Go.Proofs
open Go Go.Ev Go.RowKit
set_option linter.unusedSimpArgs false
set_option linter.unusedVariables false
set_option maxRecDepth 100000

def Ag (all : List Rec) (i : Nat) (r : Rec) (j : Nat) : Prop := ∃ q : Rec, all[j]? = some q ∧ q.lba = r.lba ∧ ((q.kind = 1 ∧ (q.ver > r.ver ∨ q.ver = r.ver ∧ j < i)) ∨ (q.kind = 2 ∧ q.ver ≥ r.ver))
theorem keepP_iff {all : List Rec} {i : Nat} {r : Rec} (h : all[i]? = some r) : keepP all i ↔ r.kind = 1 ∧ ∀ j, ¬ Ag all i r j := by
  constructor
  · rintro ⟨r', hr, hk, hno⟩
    rw [h] at hr; cases hr
    refine ⟨hk, ?_⟩
    rintro j ⟨q, hq, hl, h1 | h1⟩
    · exact (hno j q hq hl).1 h1
    · exact (hno j q hq hl).2 h1
  · rintro ⟨hk, hno⟩
    exact ⟨r, h, hk, fun j q hq hl => ⟨fun h1 => hno j ⟨q, hq, hl, Or.inl h1⟩, fun h1 => hno j ⟨q, hq, hl, Or.inr h1⟩⟩⟩
def KeptTo (all : List Rec) (n : Nat) (ks : List Rec) : Prop := ∃ is : List Nat, is.Pairwise (· < ·) ∧ (∀ i, i ∈ is ↔ i < n ∧ keepP all i) ∧ is.map (fun i => all[i]?) = ks.map some
theorem KeptTo.zero (all : List Rec) : KeptTo all 0 [] := ⟨[], by simp, by simp, rfl⟩
theorem KeptTo.no {all ks : List Rec} {n : Nat} (h : KeptTo all n ks) (hn : ¬ keepP all n) : KeptTo all (n + 1) ks := by
  obtain ⟨is, h1, h2, h3⟩ := h
  refine ⟨is, h1, fun i => (h2 i).trans ⟨fun ⟨a, b⟩ => ⟨by omega, b⟩, fun ⟨a, b⟩ => ⟨?_, b⟩⟩, h3⟩
  rcases Nat.lt_succ_iff_lt_or_eq.1 a with h | h
  · exact h
  · subst h; exact absurd b hn
theorem KeptTo.yes {all ks : List Rec} {n : Nat} {r : Rec} (h : KeptTo all n ks) (hr : all[n]? = some r) (hn : keepP all n) : KeptTo all (n + 1) (ks ++ [r]) := by
  obtain ⟨is, h1, h2, h3⟩ := h
  refine ⟨is ++ [n], ?_, fun i => ?_, by simp [h3, hr]⟩
  · rw [List.pairwise_append]
    exact ⟨h1, by simp, fun a ha b hb => by have := ((h2 a).1 ha).1; simp at hb; omega⟩
  · rw [List.mem_append, h2 i]
    simp only [List.mem_cons, List.not_mem_nil, or_false]
    constructor
    · rintro (⟨a, b⟩ | rfl)
      · exact ⟨by omega, b⟩
      · exact ⟨by omega, hn⟩
    · rintro ⟨a, b⟩
      rcases Nat.lt_succ_iff_lt_or_eq.1 a with h | h
      · exact Or.inl ⟨h, b⟩
      · exact Or.inr h
theorem KeptTo.done {all ks : List Rec} (h : KeptTo all all.length ks) : Kept all ks := by
  obtain ⟨is, h1, h2, h3⟩ := h
  refine ⟨is, h1, fun i => (h2 i).trans ⟨fun h => h.2, fun h => ⟨?_, h⟩⟩, h3⟩
  obtain ⟨r, hr, _⟩ := h
  exact (List.getElem?_eq_some_iff.1 hr).1

/-- a bool that says whether p -/
def Kp (b : Bool) (p : Prop) : Prop := b = true ↔ p
theorem ref_Dirty {xp : Option Addr} {n c : Nat} {rss : List (List Rec)} {w : World} {R : Value → World → Prop} (h : Lists w xp n rss) (hn : n ≤ 1000000000) (ht : total rss ≤ 10000000)
    (hK : ∀ p l cp ks ss w', Kept rss.flatten ks → ss.Perm ks → ByVer ss → OwnL recLay w' w.heap.size 42 p l cp ss → Keep (fun _ => False) w w' → R (.slice p l cp) w') :
    CallV Try.prog 23 #[.slice xp n c] w R := by
  apply C_ravelinref13_Dirty
  unfold F_ravelinref13_Dirty
  refine ref_joined h hn (by omega) fun p l cp w1 ho k1 => ?_
  have ho : OwnL recLay w1 w.heap.size 42 p l cp rss.flatten := ho
  have hbd : rss.flatten.length ≤ 10000000 := ht
  generalize rss.flatten = all at *
  have hlen := ho.length
  simp only [OpS_slice]
  refine ⟨_, _, bsl_none w1, ?_⟩
  simp only [OpS_slice]
  have k2 := Keep.new (fun _ => False) w1 (.cells #[] 42)
  have hk0 : OwnL recLay (w1.alloc (.cells #[] 42)) w1.heap.size 42 (some ⟨w1.heap.size, 0, none⟩) 0 0 [] := OwnL.new (L := recLay) (xs := []) (by simp) rfl
  refine LoopC_of (σ := (Option Addr × Nat × Nat) × Int × Unit) (fun s w' => ∃ (i : Nat) (ks : List Rec), s.2.1 = i ∧ i ≤ l ∧ KeptTo all i ks ∧ ks.length ≤ i ∧ OwnL recLay w' w1.heap.size 42 s.1.1 s.1.2.1 s.1.2.2 ks ∧ Keep (fun _ => False) w1 w')
    (fun s _ => (l - s.2.1).toNat) ⟨0, [], rfl, by omega, KeptTo.zero all, by simp, hk0, k2⟩ ?_
  clear hk0 k2
  intro _ s w2 hs
  obtain ⟨⟨q, lq, cq⟩, i, u⟩ := s
  obtain ⟨i, ks, hi, hil, hkt, hkl, hk, k2⟩ := hs
  simp only at hi hk ⊢
  subst hi
  refine Cb_of (fun hc => ?_) (fun hc => ?_)
  · have hi : i < l := by simp only [decide_eq_true_eq] at hc; omega
    have ew : IntKind.wrap .i64 ((i : Int) + 1) = ((i + 1 : Nat) : Int) := by rw [wrapI (by omega) (by omega)]; omega
    rw [ew]
    obtain ⟨r, hr⟩ : ∃ r, all[((i : Nat) : Int).toNat]? = some r := ⟨all[i]'(by omega), by rw [Int.toNat_natCast]; simp [show i < all.length by omega]⟩
    have hr' : all[i]? = some r := by rw [Int.toNat_natCast] at hr; exact hr
    have ho2 := ho.keep k2 (by simp)
    refine ho2.ld0 rfl (by omega) hr (v := .int .i64 r.kind) rfl ?_
    simp only [OpI_int]
    have kp := keepP_iff hr'
    refine LoopC_of (σ := Bool × Int × Unit) (fun s w' => ∃ j : Nat, s.2.1 = j ∧ j ≤ l ∧ Kp s.1 (r.kind = 1 ∧ ∀ j', j' < j → ¬ Ag all i r j') ∧ OwnL recLay w' w1.heap.size 42 q lq cq ks ∧ Keep (fun _ => False) w1 w')
      (fun s _ => (l - s.2.1).toNat) ⟨0, rfl, by omega, by simp [Kp], hk, k2⟩ ?_
    clear hk k2 ho2
    intro _ s w3 hs
    obtain ⟨b, j, u⟩ := s
    obtain ⟨j, hj, hjl, hb, hk, k3⟩ := hs
    unfold Kp at hb
    simp only at hj hb ⊢
    subst hj
    refine ⟨by trivial, ?_⟩
    have ho3 := ho.keep k3 (by simp)
    have ew2 : IntKind.wrap .i64 ((j : Int) + 1) = ((j + 1 : Nat) : Int) ∨ l ≤ j := by
      by_cases hjl2 : j < l
      · left; rw [wrapI (by omega) (by omega)]; omega
      · right; omega
    refine Cb_of (fun hc => ?_) (fun hc => ?_)
    · have hjl2 : j < l := by
        by_cases hh : ((j : Nat) : Int) < ((l : Nat) : Int)
        · omega
        · simp [hh] at hc
      have hbt : b = true := by simpa [hjl2] using hc
      subst hbt
      have ew2 := ew2.resolve_right (by omega)
      rw [ew2]
      have hb' := hb.1 rfl
      obtain ⟨x, hx⟩ : ∃ r, all[((j : Nat) : Int).toNat]? = some r := ⟨all[j]'(by omega), by rw [Int.toNat_natCast]; simp [show j < all.length by omega]⟩
      have agq : Ag all i r j ↔ x.lba = r.lba ∧ ((x.kind = 1 ∧ (x.ver > r.ver ∨ x.ver = r.ver ∧ j < i)) ∨ (x.kind = 2 ∧ x.ver ≥ r.ver)) := by
        rw [Int.toNat_natCast] at hx
        constructor
        · rintro ⟨q', hq, h⟩; rw [hx] at hq; cases hq; exact h
        · exact fun h => ⟨x, hx, h⟩
      refine ho3.ldA rfl (by omega) hx ?_
      refine copy_of (K := fun b1 w => _) (by rw [zc_rec']; rfl) rfl (one_recV' x) fun w4 hb1 k4 _ => ?_
      have k34 := k3.trans k4
      have ho4 := ho.keep k34 (by simp)
      have hk4 := hk.keep k4 (by simp)
      have finT : ∀ d, ¬ Ag all i r j → ∃ m', m' < ((l : Int) - (j : Int)).toNat ∧ ((∃ j' : Nat, ((j + 1 : Nat) : Int) = j' ∧ j' ≤ l ∧ Kp true (r.kind = 1 ∧ ∀ j'', j'' < j' → ¬ Ag all i r j'') ∧ OwnL recLay (w4.dr d) w1.heap.size 42 q lq cq ks ∧ Keep (fun _ => False) w1 (w4.dr d)) ∧ ((l : Int) - ((j + 1 : Nat) : Int)).toNat = m') :=
        fun d hn => ⟨_, by omega, ⟨j + 1, rfl, by omega, ⟨fun _ => ⟨hb'.1, fun j'' hj'' => by rcases Nat.lt_succ_iff_lt_or_eq.1 hj'' with h | h; exact hb'.2 j'' h; subst h; exact hn⟩, fun _ => rfl⟩, hk4.keep (Keep.drew (fun _ => False) w4 d) (by simp), k34.dr d⟩, rfl⟩
      have finF : ∀ d, Ag all i r j → ∃ m', m' < ((l : Int) - (j : Int)).toNat ∧ ((∃ j' : Nat, ((j + 1 : Nat) : Int) = j' ∧ j' ≤ l ∧ Kp false (r.kind = 1 ∧ ∀ j'', j'' < j' → ¬ Ag all i r j'') ∧ OwnL recLay (w4.dr d) w1.heap.size 42 q lq cq ks ∧ Keep (fun _ => False) w1 (w4.dr d)) ∧ ((l : Int) - ((j + 1 : Nat) : Int)).toNat = m') :=
        fun d hn => ⟨_, by omega, ⟨j + 1, rfl, by omega, ⟨fun h => by simp at h, fun h => absurd hn (h.2 j (by omega))⟩, hk4.keep (Keep.drew (fun _ => False) w4 d) (by simp), k34.dr d⟩, rfl⟩
      refine LdV_has (v := .int .i64 x.lba) hb1 rfl ?_
      simp only [OpI_int]
      refine ho4.ldF (t := 2) rfl (by omega) hr (v := .int .i64 r.lba) rfl ?_
      simp only [OpI_int]
      intro d
      have hbd := hb1.dr d
      have ho5 := ho4.keep (Keep.drew (fun _ => False) w4 d) (by simp)
      refine Cb_of (fun h1 => ?_) (fun h1 => ?_)
      · exact finT d (by rw [agq]; simp only [bne_iff_ne, ne_eq] at h1; omega)
      simp only [bne_eq_false_iff_eq] at h1
      refine LdV_has (v := .int .i64 x.kind) hbd rfl ?_
      simp only [OpI_int]
      have last : ¬ (x.kind = 1 ∧ (x.ver > r.ver ∨ x.ver = r.ver ∧ j < i)) → ∀ d2, LdV w3.heap.size 0 (At (w4.dr d2)) fun v10 => OpI .i64 v10 fun n8 => Cb (n8 == 2) (LdV w3.heap.size 1 (At (w4.dr d2)) fun v11 => OpI .u64 v11 fun n9 => IdxS p l (i : Int) 19 fun b6 o5 => LdV b6 (o5 + 1) (At (w4.dr d2)) fun v12 => OpI .u64 v12 fun n10 => Drw (w4.dr d2) fun w => Cb (decide (n9 ≥ n10))
          (∃ m', m' < ((l : Int) - (j : Int)).toNat ∧ ((∃ j' : Nat, ((j + 1 : Nat) : Int) = j' ∧ j' ≤ l ∧ Kp false (r.kind = 1 ∧ ∀ j'', j'' < j' → ¬ Ag all i r j'') ∧ OwnL recLay w w1.heap.size 42 q lq cq ks ∧ Keep (fun _ => False) w1 w) ∧ ((l : Int) - ((j + 1 : Nat) : Int)).toNat = m'))
          (∃ m', m' < ((l : Int) - (j : Int)).toNat ∧ ((∃ j' : Nat, ((j + 1 : Nat) : Int) = j' ∧ j' ≤ l ∧ Kp true (r.kind = 1 ∧ ∀ j'', j'' < j' → ¬ Ag all i r j'') ∧ OwnL recLay w w1.heap.size 42 q lq cq ks ∧ Keep (fun _ => False) w1 w) ∧ ((l : Int) - ((j + 1 : Nat) : Int)).toNat = m')))
          (Drw (w4.dr d2) fun w => ∃ m', m' < ((l : Int) - (j : Int)).toNat ∧ ((∃ j' : Nat, ((j + 1 : Nat) : Int) = j' ∧ j' ≤ l ∧ Kp true (r.kind = 1 ∧ ∀ j'', j'' < j' → ¬ Ag all i r j'') ∧ OwnL recLay w w1.heap.size 42 q lq cq ks ∧ Keep (fun _ => False) w1 w) ∧ ((l : Int) - ((j + 1 : Nat) : Int)).toNat = m')) := by
        intro hn d2
        refine LdV_has (v := .int .i64 x.kind) (hb1.dr d2) rfl ?_
        simp only [OpI_int]
        refine Cb_of (fun h6 => ?_) (fun h6 => ?_)
        · refine LdV_has (v := .int .u64 x.ver) (hb1.dr d2) rfl ?_
          simp only [OpI_int]
          refine (ho4.keep (Keep.drew (fun _ => False) w4 d2) (by simp)).ldF (t := 1) rfl (by omega) hr (v := .int .u64 r.ver) rfl ?_
          simp only [OpI_int]
          intro d3
          refine Cb_of (fun h7 => ?_) (fun h7 => ?_)
          · refine finF d3 (agq.2 ?_); simp only [beq_iff_eq, decide_eq_true_eq] at h6 h7; omega
          · refine finT d3 ((not_congr agq).2 ?_); simp only [beq_iff_eq, decide_eq_false_iff_not] at h6 h7; omega
        · intro d3
          refine finT d3 ((not_congr agq).2 ?_); simp only [beq_eq_false_iff_ne] at h6; omega
      refine Cb_of (fun h2 => ?_) (fun h2 => ?_)
      · simp only [beq_iff_eq] at h2
        refine LdV_has (v := .int .u64 x.ver) hbd rfl ?_
        simp only [OpI_int]
        refine ho5.ldF (t := 1) rfl (by omega) hr (v := .int .u64 r.ver) rfl ?_
        simp only [OpI_int]
        refine Cb_of (fun h3 => ?_) (fun h3 => ?_)
        · intro d2 d3
          refine finF d3 (agq.2 ?_); simp only [decide_eq_true_eq] at h3; omega
        · simp only [decide_eq_false_iff_not] at h3
          refine LdV_has (v := .int .u64 x.ver) hbd rfl ?_
          simp only [OpI_int]
          refine ho5.ldF (t := 1) rfl (by omega) hr (v := .int .u64 r.ver) rfl ?_
          simp only [OpI_int]
          refine Cb_of (fun h4 => ?_) (fun h4 => ?_)
          · simp only [beq_iff_eq] at h4
            intro d2
            refine Cb_of (fun h5 => ?_) (fun h5 => ?_)
            · intro d3
              refine finF d3 (agq.2 ?_); simp only [decide_eq_true_eq] at h5; omega
            · exact last (by simp only [decide_eq_false_iff_not] at h5; omega) d2
          · intro d2
            exact last (by simp only [beq_eq_false_iff_ne] at h4; omega) d2
      · intro d2
        exact last (by simp only [beq_eq_false_iff_ne] at h2; omega) d2
    · have hk' : b = true ↔ keepP all i := by
        rw [hb, kp]
        constructor
        · rintro ⟨a, b'⟩
          refine ⟨a, fun j' hj' => ?_⟩
          by_cases hjj : j' < j
          · exact b' j' hjj hj'
          · have hbt : b = true := hb.2 ⟨a, b'⟩
            subst hbt
            have hge : ¬ j < l := fun h => by simp [h] at hc
            obtain ⟨y, hy, _⟩ := hj'
            have := (List.getElem?_eq_some_iff.1 hy).1
            omega
        · exact fun h => ⟨h.1, fun j' _ => h.2 j'⟩
      refine Cb_of (fun hbt => ?_) (fun hbf => ?_)
      · refine ho3.ldA rfl (by omega) hr ?_
        refine ⟨_, _, bsl_rec r w3, ?_⟩
        simp only [OpS_slice]
        have k4 := Keep.new (fun _ => False) w3 (.cells (recV r) 42)
        have hlq := hk.length
        obtain ⟨p', c', w5, hr5, ho5, k5⟩ := run_appendL1 recT (hk.keep k4 (by simp)) (Has.new w3 (.cells (recV r) 42)) rfl (ty := 37) (c2 := 1) (by omega) (by simp [maxLen]; omega) (by have := k3.size; have := k4.size; omega)
        refine ⟨_, _, hr5, ?_⟩
        simp only [OpS_slice]
        exact ⟨_, by omega, ⟨i + 1, ks ++ [r], rfl, by omega, hkt.yes hr' (hk'.1 hbt), by simp; omega, ho5, (k3.trans k4).trans' k5 (fun x hx hp => by have := (hk.lt hp).1; omega)⟩, rfl⟩
      · exact ⟨_, by omega, ⟨i + 1, ks, rfl, by omega, hkt.no (fun h => by rw [hk'.2 h] at hbf; cases hbf), by omega, hk, k3⟩, rfl⟩
  · have hi : i = l := by simp only [decide_eq_false_iff_not] at hc; omega
    subst hi
    have hlq := hk.length
    refine ref_Sorted hk.sl (by omega) fun p l2 c2 ss w3 hp hb ho3 k3 => ?_
    simp only [OpS_slice, Ret_nil]
    rw [hlen] at hkt
    exact hK p l2 c2 ks ss w3 hkt.done hp hb (ho3.rebase (by have := k1.size; have := k2.size; omega)) (k1.trans (k2.trans k3))
end Go.Proofs
