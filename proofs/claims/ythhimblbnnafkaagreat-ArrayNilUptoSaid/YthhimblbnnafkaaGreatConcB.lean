/-
  slices.Concat of two lists of columns; slices.Clone of bytes.
-/
import Derived.Test.YthhimblbnnafkaaGreatCrc
import Derived.Test.YthhimblbnnafkaaGreatFStrp
import Derived.Lib.AppendZeros
import Derived.Deep.Upon
namespace Go.Proofs
open Go Go.Ev
set_option linter.unusedSimpArgs false
set_option linter.unusedVariables false
set_option maxRecDepth 100000

/-- headers of slices -/
def hLay : Lay (Option Addr × Nat × Nat) := ⟨1, fun h => [.slice h.1 h.2.1 h.2.2], fun _ => rfl, fun y v hv => by rw [List.mem_singleton.1 hv]; rfl, by decide⟩
theorem hLayT : LayT Tryz.prog hLay 187 22 24 := ⟨by kernel_rfl, ⟨(Tryz.prog.info? 22).get (by kernel_rfl), ((Tryz.prog.info? 22).get (by kernel_rfl)).zero.get (by kernel_rfl), by kernel_rfl, by kernel_rfl, by kernel_rfl, by kernel_rfl, by kernel_rfl⟩⟩
theorem bsl_h1 (p : Option Addr) (l c : Nat) (w : World) : (Instr.buildSlice 187 1 #[(0, .slice p l c)]).run Tryz.prog w = .ok (.slice (some ⟨w.heap.size, 0, none⟩) 1 1) (w.alloc (.cells #[.slice p l c] 22)) :=
  run_buildSlice w 187 22 1 _ #[.slice p l c] ((Tryz.prog.info? 22).get (by kernel_rfl)) (((Tryz.prog.info? 22).get (by kernel_rfl)).zero.get (by kernel_rfl)) (by kernel_rfl) (by kernel_rfl) (by kernel_rfl) (by decide +kernel) (by decide +kernel) (by kernel_rfl)
theorem bsl_h2 (p1 p2 : Option Addr) (l1 c1 l2 c2 : Nat) (w : World) : (Instr.buildSlice 187 2 #[(0, .slice p1 l1 c1), (1, .slice p2 l2 c2)]).run Tryz.prog w = .ok (.slice (some ⟨w.heap.size, 0, none⟩) 2 2) (w.alloc (.cells #[.slice p1 l1 c1, .slice p2 l2 c2] 22)) :=
  run_buildSlice w 187 22 2 _ #[.slice p1 l1 c1, .slice p2 l2 c2] ((Tryz.prog.info? 22).get (by kernel_rfl)) (((Tryz.prog.info? 22).get (by kernel_rfl)).zero.get (by kernel_rfl)) (by kernel_rfl) (by kernel_rfl) (by kernel_rfl) (by decide +kernel) (by decide +kernel) (by kernel_rfl)
theorem bsl_hh2 (p1 p2 : Option Addr) (l1 c1 l2 c2 : Nat) (w : World) : (Instr.buildSlice 361 2 #[(0, .slice p1 l1 c1), (1, .slice p2 l2 c2)]).run Tryz.prog w = .ok (.slice (some ⟨w.heap.size, 0, none⟩) 2 2) (w.alloc (.cells #[.slice p1 l1 c1, .slice p2 l2 c2] 187)) :=
  run_buildSlice w 361 187 2 _ #[.slice p1 l1 c1, .slice p2 l2 c2] ((Tryz.prog.info? 187).get (by kernel_rfl)) (((Tryz.prog.info? 187).get (by kernel_rfl)).zero.get (by kernel_rfl)) (by kernel_rfl) (by kernel_rfl) (by kernel_rfl) (by decide +kernel) (by decide +kernel) (by kernel_rfl)
section calls
variable {w : World} {R : Value → World → Prop}
theorem growB {n : Int} (h0 : 0 ≤ n) (h1 : n ≤ 1000000) (hK : ∀ p c w', OwnL hLay w' w.heap.size 22 p 0 c [] → Keep (fun _ => False) w w' → R (.slice p 0 c) w') :
    CallV Tryz.prog 268 #[.slice none 0 0, .int .i64 n] w R := by
  apply C_slices_Grow_byte
  unfold F_slices_Grow_byte
  rw [show decide (n < 0) = false by simp; omega, Cb_false]
  have ew : IntKind.wrap .i64 (n - IntKind.wrap .i64 (((0 : Nat) : Int) - ((0 : Nat) : Int))) = n := by
    rw [show IntKind.wrap .i64 (((0 : Nat) : Int) - ((0 : Nat) : Int)) = 0 from rfl, Int.sub_zero]
    exact wrapI (by omega) (by omega)
  rw [ew]
  refine Cb_of (fun hn => ?_) (fun hn => ?_)
  · have hn' : 0 < n := by simpa using hn
    refine ⟨by decide, by decide, by decide, by decide, ?_⟩
    have hnn : n = ((n.toNat : Nat) : Int) := by omega
    have hr := Lib.run_append_nil_zeros (P := Tryz.prog) w 187 3 187 22 ((Tryz.prog.info? 22).get (by kernel_rfl)) ((((Tryz.prog.info? 22).get (by kernel_rfl)).zero).get (by kernel_rfl)) .i64 .i64 (by kernel_rfl) (by kernel_rfl) (by kernel_rfl) (by kernel_rfl)
      n.toNat (by omega) (by decide +kernel) (by omega) (by rw [show ((Tryz.prog.info? 22).get (by kernel_rfl)).bytes = 24 by kernel_rfl]; omega)
    rw [← hnn] at hr
    refine ⟨_, _, hr, OpS_slice.2 ?_⟩
    have hge := grownCap_ge w n.toNat 0 22
    have hcm : grownCap w n.toNat 0 22 ≤ maxLen := grownCap_le_maxLen w n.toNat 0 22 (by simp [maxLen]; omega)
    generalize grownCap w n.toNat 0 22 = cp at *
    refine ⟨by simp, by simp, by simp, by simp, ?_⟩
    simp only [Ret_nil, Option.getD_none, Option.getD_some, Int.toNat_zero, Int.toNat_natCast, Nat.sub_zero]
    have hs : slcP 1 0 cp (some ⟨w.heap.size, 0, none⟩) = some ⟨w.heap.size, 0, none⟩ := by
      unfold slcP
      split
      · rfl
      · simp [Addr.add]
    refine (congrArg (fun q => R (Value.slice q 0 cp) _) hs).mpr ?_
    refine hK _ _ _ (Own.mk (Nat.le_refl _) (Has.new _ _) (by omega) hcm ?_ (by simp [Lay.rows])) ?_
    · rw [Array.size_append, size_zeroCells, size_zeroCells, show ((((Tryz.prog.info? 22).get (by kernel_rfl)).zero).get (by kernel_rfl)).cells.size = 1 by kernel_rfl, ← Nat.add_mul]
      show _ = cp * 1
      congr 1; omega
    · exact (Keep.refl (fun _ => False) w).trans ⟨rfl, rfl, rfl, by simp, fun k hk _ => by show (w.heap.push _)[k]? = _; rw [Array.getElem?_push, if_neg (by omega)]⟩
  · simp only [Ret_nil]
    exact hK none 0 w OwnL.nil (Keep.refl _ _)
/-- two lists of columns, one behind the other -/
theorem concatB {b : Nat} {p1 p2 : Option Addr} {l1 c1 l2 c2 : Nat} {hs1 hs2 : List (Option Addr × Nat × Nat)} (hb : Has w b (.cells #[.slice p1 l1 c1, .slice p2 l2 c2] 187 (0, 0))) (h1 : SlL hLay w p1 l1 hs1) (h2 : SlL hLay w p2 l2 hs2) (hl1 : l1 ≤ 1000) (hl2 : l2 ≤ 1000)
    (hK : ∀ p c w', OwnL hLay w' w.heap.size 22 p (hs1 ++ hs2).length c (hs1 ++ hs2) → Keep (fun _ => False) w w' → R (.slice p (hs1 ++ hs2).length c) w') :
    CallV Tryz.prog 237 #[.slice (some ⟨b, 0, none⟩) 2 2] w R := by
  apply C_slices_Concat_byte
  unfold F_slices_Concat_byte
  have e1 := h1.1
  have e2 := h2.1
  have ob : OwnL hLay w 0 187 (some ⟨b, 0, none⟩) 2 2 [(p1, l1, c1), (p2, l2, c2)] := OwnL.mk (xs := [(p1, l1, c1), (p2, l2, c2)]) (Nat.zero_le _) hb (by simp [maxLen]) rfl
  obtain ⟨qs, hqs⟩ : ∃ qs : List ((Option Addr × Nat × Nat) × List (Option Addr × Nat × Nat)), qs = [((p1, l1, c1), hs1), ((p2, l2, c2), hs2)] := ⟨_, rfl⟩
  have hq : ∀ (i : Nat) (x : (Option Addr × Nat × Nat) × List (Option Addr × Nat × Nat)), qs[i]? = some x → SlL hLay w x.1.1 x.1.2.1 x.2 ∧ [(p1, l1, c1), (p2, l2, c2)][i]? = some x.1 ∧ x.1.2.1 ≤ 1000 := by
    intro i x hx
    rw [hqs] at hx
    match i, hx with
    | 0, hx => cases hx; exact ⟨h1, rfl, hl1⟩
    | 1, hx => cases hx; exact ⟨h2, rfl, hl2⟩
    | i + 2, hx => simp at hx
  have hql : qs.length = 2 := by rw [hqs]; rfl
  have hall : (qs.map (·.2)).flatten = hs1 ++ hs2 := by rw [hqs]; simp
  have hsum : ∀ k, k ≤ 2 → ((qs.take k).map (·.2)).flatten.length ≤ 2000 := by
    intro k hk
    rw [hqs]
    match k, hk with
    | 0, _ => simp
    | 1, _ => simp; omega
    | 2, _ => simp; omega
  clear hqs
  refine LoopC_of (σ := Int × Int × Unit) (fun s w' => w' = w ∧ ∃ j : Nat, s.2.1 = j ∧ j ≤ 2 ∧ s.1 = (((qs.take j).map (·.2)).flatten.length : Int)) (fun s _ => (2 - s.2.1).toNat) ⟨rfl, 0, rfl, by omega, by simp⟩ ?_
  rintro _ ⟨sz, i, u⟩ w1 ⟨hw, j, hij, hjn, hsz⟩
  simp only at hij hsz ⊢
  subst hij hsz
  rw [hw]
  clear hw
  have tk : ∀ {k : Nat} {x : (Option Addr × Nat × Nat) × List (Option Addr × Nat × Nat)}, qs[k]? = some x → ((qs.take (k + 1)).map (·.2)).flatten = ((qs.take k).map (·.2)).flatten ++ x.2 := by
    intro k x hx
    rw [List.take_add_one, hx]
    simp
  refine Cb_of (fun hc => ?_) (fun hc => ?_)
  · have hj : j < 2 := by simp only [decide_eq_true_eq] at hc; omega
    obtain ⟨x, hx⟩ : ∃ x, qs[j]? = some x := ⟨_, List.getElem?_eq_getElem (by omega)⟩
    obtain ⟨g1, g2, g3⟩ := hq j x hx
    refine ob.ld0 (i := (j : Int)) (n := 1) (x := x.1) (v := .slice x.1.1 x.1.2.1 x.1.2.2) rfl (by omega) (by simpa using g2) rfl (OpS_slice.2 ?_)
    have hlen := hsum (j + 1) (by omega)
    rw [tk hx, List.length_append] at hlen
    have g4 := g1.1
    have ew : IntKind.wrap .i64 ((((qs.take j).map (·.2)).flatten.length : Int) + (x.1.2.1 : Int)) = (((qs.take (j + 1)).map (·.2)).flatten.length : Int) := by
      rw [wrapI (by omega) (by omega), tk hx, List.length_append, g4]; omega
    rw [ew, decide_eq_false (by omega)]
    refine (Cb_false (p := _)).2 ?_
    have ew2 : IntKind.wrap .i64 ((j : Int) + 1) = ((j + 1 : Nat) : Int) := by rw [wrapI (by omega) (by omega)]; omega
    rw [ew2]
    exact ⟨_, by show (2 - ((j + 1 : Nat) : Int)).toNat < (2 - (j : Int)).toNat; omega, ⟨by trivial, j + 1, rfl, by omega, rfl⟩, rfl⟩
  · have hj : j = 2 := by simp only [decide_eq_false_iff_not] at hc; omega
    subst hj
    have hlen := hsum 2 (by omega)
    refine growB (by omega) (by omega) fun p c' w2 ho k2 => ?_
    refine OpS_slice.2 ?_
    refine LoopC_of (σ := (Option Addr × Nat × Nat) × Int × Unit) (fun s w' => ∃ i : Nat, s.2.1 = i ∧ i ≤ 2 ∧ Keep (fun _ => False) w w' ∧ OwnL hLay w' w.heap.size 22 s.1.1 s.1.2.1 s.1.2.2 (((qs.take i).map (·.2)).flatten)) (fun s _ => (2 - s.2.1).toNat)
      ⟨0, rfl, by omega, k2, by simpa using ho⟩ ?_
    rintro _ ⟨⟨q, l, cq⟩, i, u⟩ w3 ⟨i', hij, hin, k3, ho3⟩
    simp only at hij ho3 ⊢
    subst hij
    refine Cb_of (fun hc => ?_) (fun hc => ?_)
    · have hi : i' < 2 := by simp only [decide_eq_true_eq] at hc; omega
      obtain ⟨x, hx⟩ : ∃ x, qs[i']? = some x := ⟨_, List.getElem?_eq_getElem (by omega)⟩
      obtain ⟨g1, g2, g3⟩ := hq i' x hx
      refine (ob.keep k3 (by simp)).ld0 (i := (i' : Int)) (n := 1) (x := x.1) (v := .slice x.1.1 x.1.2.1 x.1.2.2) rfl (by omega) (by simpa using g2) rfl (OpS_slice.2 ?_)
      have hlen2 := hsum (i' + 1) (by omega)
      rw [tk hx, List.length_append] at hlen2
      have g4 := g1.1
      have hlq := ho3.length
      obtain ⟨p', c2, w4, hr4, ho4, k4⟩ := run_appendL hLayT ho3 (g1.keepB k3 (by simp)) (ty := 187) (c2 := x.1.2.2) (by omega) (by simp only [maxLen]; omega) k3.size
      refine ⟨_, _, hr4, OpS_slice.2 ?_⟩
      have ew2 : IntKind.wrap .i64 ((i' : Int) + 1) = ((i' + 1 : Nat) : Int) := by rw [wrapI (by omega) (by omega)]; omega
      rw [ew2]
      refine ⟨_, by show (2 - ((i' + 1 : Nat) : Int)).toNat < (2 - (i' : Int)).toNat; omega, ⟨i' + 1, rfl, by omega, k3.trans' k4 (fun k hk hp => by have := (ho3.lt hp).1; omega), by rw [tk hx]; exact ho4⟩, rfl⟩
    · have hi : i' = 2 := by simp only [decide_eq_false_iff_not] at hc; omega
      subst hi
      have hfin : ((qs.take 2).map (·.2)).flatten = hs1 ++ hs2 := by
        rw [List.take_of_length_le (by omega)]; exact hall
      rw [hfin] at ho3
      have hll := ho3.length
      subst hll
      exact Ret_nil.2 (hK q cq w3 ho3 k3)
theorem run_mt0 (w : World) : (Instr.buildSlice 22 0 #[]).run Tryz.prog w = .ok (.slice (some ⟨w.heap.size, 0, none⟩) 0 0) (w.alloc (.cells #[] 5)) := by kernel_rfl
/-- a column, or none -/
def ColAt (w : World) (h : Option Addr × Nat × Nat) : Option Sec → Prop
  | none => h = (none, 0, 0)
  | some f => (∃ b o, h.1 = some ⟨b, o, none⟩) ∧ h.2.1 = 16 ∧ 16 ≤ h.2.2 ∧ SlL byLay w h.1 16 (secB f)
theorem ColAt.keep {w' : World} {h : Option Addr × Nat × Nat} : ∀ {C : Option Sec}, ColAt w h C → Keep (fun _ => False) w w' → ColAt w' h C
  | none, hc, _ => hc
  | some f, ⟨h1, h2, h3, h4⟩, k => ⟨h1, h2, h3, h4.keepB k (by simp)⟩
theorem p_Clone {h : Option Addr × Nat × Nat} {C : Option Sec} (hc : ColAt w h C) (hK : ∀ h' w', ColAt w' h' C → (∀ f, C = some f → OwnL byLay w' w.heap.size 5 h'.1 16 h'.2.2 (secB f)) → Keep (fun _ => False) w w' → R (.slice h'.1 h'.2.1 h'.2.2) w') :
    CallV Tryz.prog 181 #[.slice h.1 h.2.1 h.2.2] w R := by
  apply C_slices_Clone_byte
  unfold F_slices_Clone_byte
  cases C with
  | none =>
    have hc : h = (none, 0, 0) := hc
    subst hc
    exact (Cb_true (q := _)).2 (Ret_nil.2 (hK (none, 0, 0) w rfl (fun f hf => by cases hf) (Keep.refl _ _)))
  | some f =>
    obtain ⟨⟨b, o, hp⟩, hl, hcap, hs⟩ := hc
    obtain ⟨hp0, hl0, hc0⟩ := h
    simp only at hp hl hcap hs
    subst hp hl
    refine (Cb_false (p := _)).2 ?_
    refine ⟨_, _, run_mt0 w, OpS_slice.2 ?_⟩
    have k1 := Keep.new (fun _ => False) w (.cells #[] 5)
    have h1 := Has.new w (.cells #[] 5)
    generalize hw1 : w.alloc (.cells #[] 5) = w1 at *
    have o1 : OwnL byLay w1 w.heap.size 5 (some ⟨w.heap.size, 0, none⟩) 0 0 [] := OwnL.mk (xs := []) (Nat.le_refl _) h1 (by simp [maxLen]) rfl
    obtain ⟨p', c2, w2, hr, o2, k2⟩ := run_appendL byLayT o1 (hs.keepB k1 (by simp)) (ty := 22) (c2 := hc0) (by omega) (by simp only [maxLen]; omega) k1.size
    refine ⟨_, _, hr, OpS_slice.2 (Ret_nil.2 ?_)⟩
    have o2 : OwnL byLay w2 w.heap.size 5 p' 16 c2 (secB f) := o2
    have hsome : ∃ b o, p' = some ⟨b, o, none⟩ := by
      obtain ⟨b, cur, e, _⟩ := o2.cells (by omega)
      exact ⟨b, 0, e⟩
    refine hK (p', 16, c2) w2 ⟨hsome, rfl, o2.cap.1, o2.sl⟩ (fun f' hf => by cases hf; exact o2) (k1.trans' k2 fun i hi e => ?_)
    cases e
    omega
end calls
end Go.Proofs
