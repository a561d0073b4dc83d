/-
  slices.Concat of lists of records: a row of its own that holds them one behind the other.
-/
import Derived.Test.YthhimblbnnafkaaGreatFIntent
import Derived.Test.YthhimblbnnafkaaGreatRec
import Derived.Test.YthhimblbnnafkaaGreatRow
import Derived.Test.YthhimblbnnafkaaGreatLift
import Derived.Lib.AppendZeros
import Derived.Deep.Upon
namespace Go.Proofs
open Go Go.Ev
set_option linter.unusedSimpArgs false
set_option linter.unusedVariables false
set_option maxRecDepth 100000

theorem flatMap_rows (d : List Rec) : d.flatMap recL = (d.map recL).flatten := by rw [List.flatMap_def]
theorem rows_len (d : List Rec) : ∀ r ∈ d.map recL, r.length = 19 := by
  intro r hr
  obtain ⟨x, _, rfl⟩ := List.mem_map.1 hr
  rfl
/-- a slice of records, as it lies in memory -/
def RecSl (w : World) (p : Option Addr) (l : Nat) (rs : List Rec) : Prop := l = rs.length ∧ Sl w 19 p l fun i => recL (rs.getD i default)
/-- a slice of slices of records -/
def Lists (w : World) (xp : Option Addr) (n : Nat) (rss : List (List Rec)) : Prop :=
  n = rss.length ∧ ∃ P : Nat → Option Addr × Nat × Nat, Sl w 1 xp n (fun i => [.slice (P i).1 (P i).2.1 (P i).2.2]) ∧ ∀ i, i < n → RecSl w (P i).1 (P i).2.1 (rss.getD i [])
theorem RecSl.keep {S : Nat → Prop} {w w' : World} {p : Option Addr} {l : Nat} {rs : List Rec} (h : RecSl w p l rs) (hk : Keep S w w') (hS : ∀ k, k < w.heap.size → ¬ S k) : RecSl w' p l rs := ⟨h.1, h.2.keep hk hS⟩
theorem Lists.keep {S : Nat → Prop} {w w' : World} {xp : Option Addr} {n : Nat} {rss : List (List Rec)} (h : Lists w xp n rss) (hk : Keep S w w') (hS : ∀ k, k < w.heap.size → ¬ S k) : Lists w' xp n rss := by
  obtain ⟨h1, P, h2, h3⟩ := h
  exact ⟨h1, P, h2.keep hk hS, fun i hi => (h3 i hi).keep hk hS⟩
theorem info_rec : ∃ i, Tryz.prog.info? 246 = some i := ⟨(Tryz.prog.info? 246).get (by kernel_rfl), by kernel_rfl⟩
/-- the cells of a slice of records that is not empty -/
theorem RecSl.cells {w : World} {p : Option Addr} {l : Nat} {rs : List Rec} (h : RecSl w p l rs) (h0 : 0 < l) : ∃ b o, p = some ⟨b, o, none⟩ ∧ ∀ j u, (rs.flatMap recL)[j]? = some u → w.cell? ⟨b, o + j, none⟩ = some u := by
  obtain ⟨hl, hs⟩ := h
  obtain ⟨_, b, o, hp, _⟩ := hs 0 h0
  refine ⟨b, o, hp, fun j u hj => ?_⟩
  have hjl : j < rs.length * 19 := by
    have := (List.getElem?_eq_some_iff.1 hj).1
    rwa [flatMap_rows, length_rows (rows_len _), List.length_map] at this
  obtain ⟨_, b', o', hp', hc⟩ := hs (j / 19) (by omega)
  rw [hp] at hp'
  cases hp'
  have h1 := hc (j % 19) (by omega)
  have h2 : j / 19 < rs.length := by omega
  have h3 := get_rows (rows_len rs) (i := j / 19) (r := recL rs[j / 19]) (by simp [h2]) (j % 19) (by omega)
  rw [← flatMap_rows, show j / 19 * 19 + j % 19 = j by omega, hj] at h3
  rw [show o + j = o + j / 19 * 19 + j % 19 by omega, h1, h3]
  simp [List.getD, h2]
/-- append of a slice of records -/
theorem app_recs {w : World} {base : Nat} {p : Option Addr} {l c : Nat} {rs : List Rec} (h : Own w base 246 19 p l c (rs.flatMap recL)) {p2 : Option Addr} {l2 c2 : Nat} {rs2 : List Rec} (h2 : RecSl w p2 l2 rs2)
    (hl : l + l2 ≤ 1000000000) (hbase : base ≤ w.heap.size) :
    ∃ p' c' w', (Builtin.append_ #[113, 113] 113 #[.slice p l c, .slice p2 l2 c2]).run Tryz.prog w = .ok (.slice p' (l + l2) c') w' ∧
      Own w' base 246 19 p' (l + l2) c' ((rs ++ rs2).flatMap recL) ∧ Keep (fun k => p = some ⟨k, 0, none⟩) w w' := by
  by_cases h0 : 0 < l2
  · obtain ⟨b, o, rfl, hc⟩ := h2.cells h0
    have hlen : (rs2.flatMap recL).length = l2 * 19 := by rw [flatMap_rows, length_rows (rows_len _), List.length_map, h2.1]
    have := run_appendOwn (P := Tryz.prog) (t := 113) (ty := 113) (i := ((Tryz.prog.info? 246).get (by kernel_rfl))) (z := ((((Tryz.prog.info? 246).get (by kernel_rfl)).zero).get (by kernel_rfl))) (size := 19) (bytes := 40) (by kernel_rfl) (by kernel_rfl) (by kernel_rfl) (by kernel_rfl) (by kernel_rfl) (by kernel_rfl) (by decide) h
      (a := ⟨b, o, none⟩) (m := l2) (c2 := c2) (news := rs2.flatMap recL) hlen (fun jj u hu => by
        have : Addr.add ⟨b, o, none⟩ jj = ⟨b, o + jj, none⟩ := by unfold Addr.add; split <;> simp_all
        rw [this]
        exact hc jj u hu) (fun u hu => by obtain ⟨r, _, hr⟩ := List.mem_flatMap.1 hu; exact one_recL' r u hr) (by omega) (by simp [maxLen]; omega) hbase
    simpa using this
  · have hz : l2 = 0 := by omega
    subst hz
    have hrs : rs2 = [] := List.eq_nil_of_length_eq_zero h2.1.symm
    subst hrs
    refine ⟨p, c, w, ?_, by simpa using h, Keep.refl _ _⟩
    have hle : l ≤ c := by
      rcases h.cases with ⟨_, rfl, rfl, _⟩ | ⟨b, cur, _, _, _, hle, _⟩
      · exact Nat.le_refl _
      · exact hle
    have ht : Tryz.prog.underlying 113 = some (.slice 246) := by kernel_rfl
    obtain ⟨i, hi⟩ := info_rec
    have hsrc : ∀ q : Option Addr, Src Tryz.prog i.size 113 (.slice q 0 c2) 0 [] w := by
      intro q
      cases q with
      | none => exact Src.ofNil (e' := 246) w ht c2
      | some a => exact Src.ofSlice (e' := 246) w ht a 0 c2 [] (by simp) (fun j u h => by simp at h) (fun u h => by simp at h)
    exact run_append_nothing w _ _ _ _ i ht hi p l c hle _ (hsrc p2)

theorem grow_nil {n : Int} (h0 : 0 ≤ n) (h1 : n ≤ 1000000000) {w : World} {R : Value → World → Prop}
    (hK : ∀ p c w', Own w' w.heap.size 246 19 p 0 c [] → Keep (fun _ => False) w w' → R (.slice p 0 c) w') :
    CallV Tryz.prog 249 #[.slice none 0 0, .int .i64 n] w R := by
  apply C_slices_Grow_Record
  unfold F_slices_Grow_Record
  rw [show decide (n < 0) = false by simp; omega, Cb_false]
  have ew : IntKind.wrap .i64 (n - IntKind.wrap .i64 (((0 : Nat) : Int) - ((0 : Nat) : Int))) = n := by
    rw [show IntKind.wrap .i64 (((0 : Nat) : Int) - ((0 : Nat) : Int)) = 0 from rfl, Int.sub_zero]
    exact wrapI (by omega) (by omega)
  rw [ew]
  refine Cb_of (fun hn => ?_) (fun hn => ?_)
  · have hn' : 0 < n := by simpa using hn
    refine ⟨by decide, by decide, by decide, by decide, ?_⟩
    have hnn : n = ((n.toNat : Nat) : Int) := by omega
    have hr := Lib.run_append_nil_zeros (P := Tryz.prog) w 113 3 113 246 ((Tryz.prog.info? 246).get (by kernel_rfl)) ((((Tryz.prog.info? 246).get (by kernel_rfl)).zero).get (by kernel_rfl)) .i64 .i64 (by kernel_rfl) (by kernel_rfl) (by kernel_rfl) (by kernel_rfl)
      n.toNat (by omega) (by decide +kernel) (by omega) (by rw [show ((Tryz.prog.info? 246).get (by kernel_rfl)).bytes = 40 by kernel_rfl]; omega)
    rw [← hnn] at hr
    refine ⟨_, _, hr, ?_⟩
    simp only [OpS_slice]
    have hge := grownCap_ge w n.toNat 0 246
    have hcm : grownCap w n.toNat 0 246 ≤ maxLen := grownCap_le_maxLen w n.toNat 0 246 (by simp [maxLen]; omega)
    generalize grownCap w n.toNat 0 246 = cp at *
    refine ⟨by simp, by simp, by simp, by simp, ?_⟩
    simp only [Ret_nil, Option.getD_none, Option.getD_some, Int.toNat_zero, Int.toNat_natCast, Nat.sub_zero]
    have hs : slcP 19 0 cp (some ⟨w.heap.size, 0, none⟩) = some ⟨w.heap.size, 0, none⟩ := by
      unfold slcP
      split
      · rfl
      · simp [Addr.add]
    refine (congrArg (fun q => R (Value.slice q 0 cp) _) hs).mpr ?_
    refine hK _ _ _ (Own.mk (Nat.le_refl _) (Has.new _ _) (by omega) hcm ?_ (by simp)) ?_
    · rw [Array.size_append, size_zeroCells, size_zeroCells, show ((((Tryz.prog.info? 246).get (by kernel_rfl)).zero).get (by kernel_rfl)).cells.size = 19 by kernel_rfl, ← Nat.add_mul]
      congr 1; omega
    · exact (Keep.refl (fun _ => False) w).trans ⟨rfl, rfl, rfl, by simp, fun k hk _ => by show (w.heap.push _)[k]? = _; rw [Array.getElem?_push, if_neg (by omega)]⟩
  · simp only [Ret_nil]
    exact hK none 0 w (Own.nil _ _ _ _) (Keep.refl _ _)

def total (rss : List (List Rec)) : Nat := rss.flatten.length
theorem take_succ_get {rss : List (List Rec)} {j : Nat} (h : j < rss.length) : (rss.take (j + 1)).flatten = (rss.take j).flatten ++ rss.getD j [] := by
  rw [List.take_add_one, List.flatten_append]
  simp [List.getD, h]
theorem total_take {rss : List (List Rec)} (j : Nat) : (rss.take j).flatten.length ≤ total rss := by
  unfold total
  conv => rhs; rw [← List.take_append_drop j rss, List.flatten_append, List.length_append]
  omega
theorem concat_recs {xp : Option Addr} {n c : Nat} {rss : List (List Rec)} {w : World} {R : Value → World → Prop} (h : Lists w xp n rss) (hn : n ≤ 1000000000) (ht : total rss ≤ 1000000000)
    (hK : ∀ p l cp w', Own w' w.heap.size 246 19 p l cp (rss.flatten.flatMap recL) → Keep (fun _ => False) w w' → R (.slice p l cp) w') :
    CallV Tryz.prog 201 #[.slice xp n c] w R := by
  apply C_slices_Concat_Record
  unfold F_slices_Concat_Record
  obtain ⟨hl, P, hP, hr⟩ := id h
  have ld : ∀ {w' : World}, Keep (fun _ => False) w w' → ∀ j : Nat, j < n → ∀ K : Value → Prop, K (.slice (P j).1 (P j).2.1 (P j).2.2) → IdxS xp n (j : Int) 1 fun b o => LdV b o (At w') K := by
    intro w' hk j hj K hK
    exact ((hP.keep hk (by simp)).ld_iff (i := (j : Int)) (by omega) (by omega) (v := .slice (P j).1 (P j).2.1 (P j).2.2) (by simp)).2 hK
  refine LoopC_of (σ := Int × Int × Unit) (fun s w' => w' = w ∧ ∃ j : Nat, s.2.1 = j ∧ j ≤ n ∧ s.1 = ((rss.take j).flatten.length : Int)) (fun s _ => (n - s.2.1).toNat) ⟨rfl, 0, rfl, by omega, by simp⟩ ?_
  intro _ s w1 hs
  obtain ⟨sz, i, u⟩ := s
  obtain ⟨rfl, j, hij, hjn, hsz⟩ := hs
  simp only at hij hsz ⊢
  subst hij hsz
  refine Cb_of (fun hc => ?_) (fun hc => ?_)
  · have hj : j < n := by simp only [decide_eq_true_eq] at hc; omega
    refine ld (Keep.refl _ _) j hj _ ?_
    simp only [OpS_slice]
    have e1 := take_succ_get (rss := rss) (j := j) (by omega)
    have e2 := total_take (rss := rss) (j + 1)
    rw [e1, List.length_append] at e2
    have e3 := (hr j hj).1
    have ew : IntKind.wrap .i64 (((rss.take j).flatten.length : Int) + ((P j).2.1 : Int)) = ((rss.take (j + 1)).flatten.length : Int) := by
      rw [wrapI (by omega) (by omega), e1, List.length_append, e3]; omega
    rw [ew, show decide (((rss.take (j + 1)).flatten.length : Int) < 0) = false by simp, Cb_false]
    have ew2 : IntKind.wrap .i64 ((j : Int) + 1) = ((j + 1 : Nat) : Int) := by rw [wrapI (by omega) (by omega)]; omega
    rw [ew2]
    exact ⟨_, by omega, ⟨trivial, j + 1, rfl, hj, rfl⟩, rfl⟩
  · have hj : j = n := by simp only [decide_eq_false_iff_not] at hc; omega
    subst hj
    refine grow_nil (by omega) (by have := total_take (rss := rss) j; omega) fun p c' w2 ho k2 => ?_
    simp only [OpS_slice]
    refine LoopC_of (σ := (Option Addr × Nat × Nat) × Int × Unit) (fun s w' => ∃ i : Nat, s.2.1 = i ∧ i ≤ j ∧ Keep (fun _ => False) w1 w' ∧ Own w' w1.heap.size 246 19 s.1.1 s.1.2.1 s.1.2.2 ((rss.take i).flatten.flatMap recL)) (fun s _ => (j - s.2.1).toNat)
      ⟨0, rfl, by omega, k2, by simpa using ho⟩ ?_
    intro _ s w3 hs
    obtain ⟨⟨q, l, cq⟩, i, u⟩ := s
    obtain ⟨i, hij, hin, k3, ho3⟩ := hs
    simp only at hij ho3 ⊢
    subst hij
    refine Cb_of (fun hc => ?_) (fun hc => ?_)
    · have hi : i < j := by simp only [decide_eq_true_eq] at hc; omega
      refine ld k3 i hi _ ?_
      simp only [OpS_slice]
      have e1 := take_succ_get (rss := rss) (j := i) (by omega)
      have e2 := total_take (rss := rss) (i + 1)
      rw [e1, List.length_append] at e2
      have e3 := (hr i hi).1
      have hlq : l = (rss.take i).flatten.length := by
        have h5 := ho3
        rw [flatMap_rows] at h5
        have h6 := h5.count (rows_len _) (by decide)
        rwa [List.length_map] at h6
      obtain ⟨p', c2, w4, hr4, ho4, k4⟩ := app_recs (c2 := (P i).2.2) ho3 ((hr i hi).keep k3 (by simp)) (by omega) (by have := k3.size; omega)
      refine ⟨_, _, hr4, ?_⟩
      simp only [OpS_slice]
      have ew2 : IntKind.wrap .i64 ((i : Int) + 1) = ((i + 1 : Nat) : Int) := by rw [wrapI (by omega) (by omega)]; omega
      rw [ew2]
      refine ⟨_, by omega, ⟨i + 1, rfl, hi, k3.trans' k4 (fun k hk hp => by have := (ho3.lt hp).1; omega), by rw [e1]; exact ho4⟩, rfl⟩
    · have hi : i = j := by simp only [decide_eq_false_iff_not] at hc; omega
      subst hi
      simp only [Ret_nil]
      have : rss.take i = rss := by rw [hl]; simp
      rw [this] at ho3
      exact hK q l cq w3 ho3 k3
end Go.Proofs
