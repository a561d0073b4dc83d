/-
  ARGUMENTS AS CELLS, on: slices of slices of flat elements; how many elements there are, by the bulk of what is read.
-/
import Derived.Test.YthhimblbnnafkaaGreatLift
import Derived.Test.YthhimblbnnafkaaGreatRow
namespace Go.Proofs
open Go Go.Ev Go.ChangeShapes Go.WideShapes Go.ChangeAt Go.RowKit
set_option linter.unusedVariables false
set_option linter.unusedSimpArgs false
open Go.Proofs.YthhimblbnnafkaaGreat.Rows (uptoBulk uptoBulkAll uptoBulkEntries uptoSmall)
section
variable {H : Type} {enc : TypeId × Value → H} {P : Program} {w : World} {base : Nat} {spare : Nat → Bool} {held : Bool}
theorem bulk_pos : ∀ d : DataW H, 1 ≤ uptoBulk d
  | .lit l => by cases l <;> simp [uptoBulk]
  | .nil => by simp [uptoBulk]
  | .ptr d => by simp [uptoBulk]
  | .slice e s => by simp [uptoBulk]
  | .agg p => by simp [uptoBulk]
  | .iface _ d => by simp [uptoBulk]
  | .map e => by simp [uptoBulk]
  | .held _ => by simp [uptoBulk]
theorem bulkAll_sum : ∀ l : List (DataW H), uptoBulkAll l = (l.map uptoBulk).sum
  | [] => rfl
  | d :: l => by simp [uptoBulkAll, bulkAll_sum l]
theorem sum_le {α : Type} {f g : α → Nat} : ∀ {l : List α}, (∀ x ∈ l, f x ≤ g x) → (l.map f).sum ≤ (l.map g).sum
  | [], _ => by simp
  | a :: l, h => by
    simp only [List.map_cons, List.sum_cons]
    have := h a (by simp)
    have := sum_le (l := l) fun x hx => h x (by simp [hx])
    omega
theorem bulk_slice (D : Nat → DataW H) (n : Nat) (s : List (DataW H)) (f : Nat → Nat) (h : ∀ i, i < n → f i ≤ uptoBulk (D i)) : ((List.range n).map f).sum + 1 ≤ uptoBulk (.slice ((List.range n).map D) s) := by
  simp only [uptoBulk, bulkAll_sum, List.map_map]
  have := sum_le (l := List.range n) (f := f) (g := uptoBulk ∘ D) fun i hi => h i (List.mem_range.1 hi)
  omega
theorem sum_ones (n : Nat) : ((List.range n).map fun _ => 1).sum = n := by
  induction n with
  | zero => rfl
  | succ n ih => rw [List.range_succ, List.map_append, List.sum_append, ih]; rfl
theorem small_mem {ds : List (DataW H)} (h : uptoSmall H ds = true) {d : DataW H} (hd : d ∈ ds) : uptoBulk d ≤ 1048576 := by
  have h1 : uptoBulkAll ds ≤ 1048576 := by simpa [uptoSmall] using h
  rw [bulkAll_sum] at h1
  have : ∀ l : List (DataW H), d ∈ l → uptoBulk d ≤ (l.map uptoBulk).sum := by
    intro l
    induction l with
    | nil => simp
    | cons a l ih =>
      intro hd
      simp only [List.map_cons, List.sum_cons]
      rcases List.mem_cons.1 hd with rfl | hd
      · omega
      · have := ih hd; omega
  have := this ds hd
  omega
theorem sl_cells {t e : TypeId} {ks : List CK} {fuel : Nat} {cs : List Value} {x : DataW H × List MemPlace} (ht : P.underlying t = some (.slice e)) (hf : flat P 9 e = some ks) (hc : P.cellsOf e = ks.length) (hpos : 0 < ks.length)
    (hfu : DataW.trod enc P w base spare held fuel t cs = some x) :
    ∃ xp l c g, cs = [.slice xp l c] ∧ l ≤ c ∧ c ≤ maxLen ∧ Sl w ks.length xp l g ∧ (∀ i, i < l → Fits ks (g i)) ∧ l + 1 ≤ uptoBulk x.1 := by
  rcases Deep.open_slice ht hfu with ⟨rfl, rfl⟩ | ⟨a, len, cap, m, n, D, Pl, rfl, hb, hl, hm, hmm, rfl, hx⟩
  · exact ⟨none, 0, 0, fun _ => [], rfl, Nat.le_refl _, by simp [maxLen], fun i hi => absurd hi (Nat.not_lt_zero _), fun i hi => absurd hi (Nat.not_lt_zero _), by simp [uptoBulk]⟩
  · have hlm : len ≤ m := by rw [hmm]; split <;> omega
    obtain ⟨g, hg⟩ := Deep.choose_lt (α := List Value) (n := len) (p := fun i es => w.cells? base (a.add (i * P.cellsOf e)) (P.cellsOf e) = some es ∧ Fits ks es) (fun i hi => by
      obtain ⟨es, h1, h2⟩ := hx i (by omega)
      exact ⟨es, h1, fits_of_trod hf h2⟩)
    refine ⟨some a, len, cap, g, rfl, hl, hm, fun i hi => ?_, fun i hi => (hg i hi).2, ?_⟩
    · obtain ⟨h1, h2⟩ := hg i hi
      obtain ⟨_, hlen, hcell⟩ := World.cells?_some h1
      rw [hc] at hlen hcell
      refine ⟨hlen, ?_⟩
      have hsp : a.spot = none := by
        obtain ⟨k1, k2⟩ := hg 0 (by omega)
        obtain ⟨_, klen, kcell⟩ := World.cells?_some k1
        rw [hc] at klen kcell
        have h0 := kcell 0 hpos
        rw [List.getElem?_eq_getElem (by omega)] at h0
        have e0 : (a.add (0 * ks.length)).add 0 = a := by simp [Addr.add]
        rw [e0] at h0
        unfold World.cell? at h0
        split at h0
        · split at h0
          · cases h0
          · rename_i hs
            cases hsa : a.spot with
            | none => rfl
            | some q => exact absurd (by simp [hsa]) hs
        · cases h0
      obtain ⟨b, o, sp⟩ := a
      simp only at hsp
      subst hsp
      refine ⟨b, o, rfl, fun j hj => ?_⟩
      have := hcell j hj
      rw [Deep.add_add] at this
      rw [← this]
      congr 1
      unfold Addr.add
      split
      · rename_i hz; rw [Nat.add_assoc, hz, Nat.add_zero]
      · rw [Nat.add_assoc]
    · have := bulk_slice D len ((List.range (m - len)).map fun j => D (len + j)) (fun _ => 1) (fun i _ => bulk_pos _)
      rw [sum_ones] at this
      exact this
/-- a slice argument, and how long it is -/
theorem sl_openB {t e : TypeId} {ks : List CK} {v : Value} {r : Reach} {b0 : Nat} {dd : DataW H} {ps : List MemPlace} (ht : P.underlying t = some (.slice e)) (hf : flat P 9 e = some ks) (hc : P.cellsOf e = ks.length) (hpos : 0 < ks.length)
    (hval : Value.okWide P w r b0 t v) (hd : DataW.Trod enc P w base spare held t v dd ps) :
    ∃ xp l c g, v = .slice xp l c ∧ l ≤ c ∧ c ≤ maxLen ∧ Sl w ks.length xp l g ∧ (∀ i, i < l → Fits ks (g i)) ∧ l + 1 ≤ uptoBulk dd := by
  obtain ⟨xp, l, c, rfl⟩ := okWide_slice ht hval
  obtain ⟨fuel, hfu⟩ := hd
  obtain ⟨xp', l', c', g, h0, h1, h2, h3, h4, h5⟩ := sl_cells ht hf hc hpos hfu
  simp only [Value.cells, List.cons.injEq, Value.slice.injEq, and_true] at h0
  obtain ⟨rfl, rfl, rfl⟩ := h0
  exact ⟨_, _, _, g, rfl, h1, h2, h3, h4, h5⟩
/-- a slice that is handed in, as a list of elements -/
theorem slL_of {α : Type} {L : Lay α} {n : Nat} {xp : Option Addr} {l : Nat} {g : Nat → List Value} (h : Sl w n xp l g) (hn : L.size = n) {f : Nat → α} (hg : ∀ i, i < l → g i = L.row (f i)) : SlL L w xp l ((List.range l).map f) := by
  subst hn
  refine ⟨by simp, fun i x hi => ?_⟩
  have hlt : i < l := by have := (List.getElem?_eq_some_iff.1 hi).1; simpa using this
  have : x = f i := by simp [hlt] at hi; exact hi.symm
  subst this
  obtain ⟨_, b, o, hp, hc⟩ := h i hlt
  exact ⟨b, o, hp, fun j hj => by rw [hc j hj, hg i hlt]⟩
/-- ... with what is known of each -/
theorem slL_ex {α : Type} [Inhabited α] {L : Lay α} {ks : List CK} {ok : α → Prop} {n : Nat} {xp : Option Addr} {l : Nat} {g : Nat → List Value} (h : Sl w n xp l g) (hn : L.size = n) (hf : ∀ i, i < l → Fits ks (g i)) (ho : ∀ cs, Fits ks cs → ∃ x, cs = L.row x ∧ ok x) :
    ∃ xs : List α, SlL L w xp l xs ∧ ∀ x ∈ xs, ok x := by
  obtain ⟨f, hf2⟩ := Deep.choose_lt (α := α) (n := l) (p := fun i o => g i = L.row o ∧ ok o) fun i hi => ho _ (hf i hi)
  refine ⟨_, slL_of h hn fun i hi => (hf2 i hi).1, fun x hx => ?_⟩
  obtain ⟨i, hi, rfl⟩ := List.mem_map.1 hx
  exact (hf2 i (List.mem_range.1 hi)).2
theorem fits_nil {cs : List Value} (h : Fits [] cs) : cs = [] := by cases cs with | nil => rfl | cons a l => exact h.elim
theorem fits_cons {k : CK} {ks : List CK} {cs : List Value} (h : Fits (k :: ks) cs) : ∃ a l, cs = a :: l ∧ CK.ok k a ∧ Fits ks l := by cases cs with | nil => exact h.elim | cons a l => exact ⟨a, l, rfl, h.1, h.2⟩
/-- a slice of slices -/
theorem sls_open {t s e : TypeId} {ks : List CK} {v : Value} {r : Reach} {b0 : Nat} {dd : DataW H} {ps : List MemPlace} (ht : P.underlying t = some (.slice s)) (hs : P.underlying s = some (.slice e)) (hc1 : P.cellsOf s = 1)
    (hf : flat P 9 e = some ks) (hc : P.cellsOf e = ks.length) (hpos : 0 < ks.length) (hval : Value.okWide P w r b0 t v) (hd : DataW.Trod enc P w base spare held t v dd ps) :
    ∃ (xp : Option Addr) (l c : Nat) (Q : Nat → Option Addr × Nat × Nat) (g : Nat → Nat → List Value), v = .slice xp l c ∧ l ≤ c ∧ c ≤ maxLen ∧ Sl w 1 xp l (fun i => [.slice (Q i).1 (Q i).2.1 (Q i).2.2]) ∧
      (∀ i, i < l → (Q i).2.1 ≤ (Q i).2.2 ∧ (Q i).2.2 ≤ maxLen ∧ Sl w ks.length (Q i).1 (Q i).2.1 (g i) ∧ ∀ j, j < (Q i).2.1 → Fits ks (g i j)) ∧ ((List.range l).map fun i => (Q i).2.1 + 1).sum + 1 ≤ uptoBulk dd := by
  obtain ⟨xp, l, c, rfl⟩ := okWide_slice ht hval
  obtain ⟨fuel, hfu⟩ := hd
  rcases Deep.open_slice1 ht hc1 hfu with ⟨h0, hx0⟩ | ⟨a, len, cap, m, n, V, D, Pl, h0, hb, hl, hm, hmm, hD, hx⟩
  · simp only [Value.cells, List.cons.injEq, Value.slice.injEq, and_true] at h0
    obtain ⟨rfl, rfl, rfl⟩ := h0
    cases hx0
    exact ⟨none, 0, 0, fun _ => (none, 0, 0), fun _ _ => [], rfl, Nat.le_refl _, by simp [maxLen], fun i hi => absurd hi (Nat.not_lt_zero _), fun i hi => absurd hi (Nat.not_lt_zero _), by simp [uptoBulk]⟩
  · simp only [Value.cells, List.cons.injEq, Value.slice.injEq, and_true] at h0
    obtain ⟨rfl, rfl, rfl⟩ := h0
    have hlm : l ≤ m := by rw [hmm]; split <;> omega
    obtain ⟨QG, hQ⟩ := Deep.choose_lt (α := (Option Addr × Nat × Nat) × (Nat → List Value)) (n := l)
      (p := fun i q => V i = .slice q.1.1 q.1.2.1 q.1.2.2 ∧ q.1.2.1 ≤ q.1.2.2 ∧ q.1.2.2 ≤ maxLen ∧ Sl w ks.length q.1.1 q.1.2.1 q.2 ∧ (∀ j, j < q.1.2.1 → Fits ks (q.2 j)) ∧ q.1.2.1 + 1 ≤ uptoBulk (D i)) (fun i hi => by
      obtain ⟨_, h2⟩ := hx i (by omega)
      obtain ⟨xp', l', c', g, g0, g1, g2, g3, g4, g5⟩ := sl_cells hs hf hc hpos h2
      simp only [List.cons.injEq, and_true] at g0
      exact ⟨((xp', l', c'), g), g0, g1, g2, g3, g4, g5⟩)
    refine ⟨some a, l, c, fun i => (QG i).1, fun i => (QG i).2, rfl, hl, hm, fun i hi => ⟨rfl, ?_⟩, fun i hi => ?_, ?_⟩
    · obtain ⟨h1, _⟩ := hx i (by omega)
      obtain ⟨h1', _⟩ := hx 0 (by omega)
      obtain ⟨b, o, sp⟩ := a
      have hsp : sp = none := by
        have e0 : Addr.add ⟨b, o, sp⟩ 0 = ⟨b, o, sp⟩ := by simp [Addr.add]
        rw [e0] at h1'
        unfold World.cell? at h1'
        split at h1'
        · split at h1'
          · cases h1'
          · rename_i hs'
            cases hsa : sp with
            | none => rfl
            | some q => exact absurd (by simp [hsa]) hs'
        · cases h1'
      subst hsp
      refine ⟨b, o, rfl, fun j hj => ?_⟩
      have : j = 0 := by omega
      subst this
      have e1 : Addr.add ⟨b, o, none⟩ i = ⟨b, o + i, none⟩ := by unfold Addr.add; split <;> simp_all
      rw [e1] at h1
      rw [Nat.mul_one, Nat.add_zero, h1, (hQ i hi).1]
      rfl
    · obtain ⟨_, g1, g2, g3, g4, _⟩ := hQ i hi
      exact ⟨g1, g2, g3, g4⟩
    · simp only [Prod.mk.injEq] at hD
      rw [hD.1]
      exact bulk_slice D l _ _ fun i hi => (hQ i hi).2.2.2.2.2
end
end Go.Proofs
