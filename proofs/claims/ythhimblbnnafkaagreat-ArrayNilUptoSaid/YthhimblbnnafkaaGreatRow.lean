/-
  ROWS OF ELEMENTS OF ANY FLAT KIND: how an element lies in cells, rows of one's own (loads, stores, append), slices that are read, copies in blocks of their own. No program is named here.
-/
import Derived.Test.YthhimblbnnafkaaGreatRun
import Derived.Deep.Upon
import Derived.Lib.AppendZeros
namespace Go.Ev
open Go
set_option linter.unusedSimpArgs false
set_option linter.unusedVariables false

theorem set_rows {size : Nat} {rows : List (List Value)} (h : ∀ r ∈ rows, r.length = size) {i : Nat} (hi : i < rows.length) (r : List Value) :
    (rows.set i r).flatten = rows.flatten.take (i * size) ++ r ++ rows.flatten.drop (i * size + size) := by
  have h1 : rows = rows.take i ++ rows[i] :: rows.drop (i + 1) := by simp
  have ht : (rows.take i).length = i := by simp; omega
  have l1 : (rows.take i).flatten.length = i * size := by
    rw [length_rows (fun r hr => h r (List.mem_of_mem_take hr)), ht]
  have l2 : rows[i].length = size := h _ (List.getElem_mem _)
  generalize rows.take i = A at *
  generalize rows.drop (i + 1) = B at *
  generalize rows[i] = x at *
  rw [h1, List.set_append_right _ _ (by omega), ht, Nat.sub_self, List.set_cons_zero]
  simp only [List.flatten_append, List.flatten_cons]
  rw [← l1, List.take_left' rfl, ← l2, ← List.length_append, ← List.append_assoc A.flatten x, List.drop_left' rfl]
  simp
theorem spl_take {cur : Array Value} {o n m : Nat} {r : List Value} (hr : r.length = n) (h1 : o + n ≤ m) (h2 : m ≤ cur.size) :
    (spl cur o r.toArray).toList.take m = (cur.toList.take m).take o ++ r ++ (cur.toList.take m).drop (o + n) := by
  unfold spl
  simp only [List.size_toArray, hr]
  have e1 : (List.take o cur.toList).length = o := by simp; omega
  rw [List.take_take, Nat.min_eq_left (by omega), List.take_append, List.take_of_length_le (by rw [List.length_append, e1, hr]; omega), List.length_append, e1, hr, List.drop_take]
theorem size_spl {cur : Array Value} {o : Nat} {cs : Array Value} (h : o + cs.size ≤ cur.size) : (spl cur o cs).size = cur.size := by
  unfold spl
  simp only [List.size_toArray, List.length_append, List.length_take, List.length_drop, Array.length_toList]
  omega
/-- a store over one element of a row of one's own -/
theorem Own.set {w : World} {base : Nat} {e : TypeId} {size : Nat} {p : Option Addr} {l c : Nat} {rows : List (List Value)} (h : Own w base e size p l c rows.flatten) (hr : ∀ r ∈ rows, r.length = size) (hs : 0 < size)
    {i : Nat} (hi : i < l) {r : List Value} (hl : r.length = size) (h1 : ∀ v ∈ r, oneV v = true) {K : World → Prop}
    (hK : ∀ w', Own w' base e size p l c (rows.set i r).flatten → Keep (fun k => p = some ⟨k, 0, none⟩) w w' → w'.heap.size = w.heap.size → K w') :
    ∃ b, p = some ⟨b, 0, none⟩ ∧ StA size b (i * size) r.toArray w K := by
  have hc := h.count hr hs
  rcases h.cases with ⟨rfl, rfl, rfl, h0⟩ | ⟨b, cur, rfl, hb, hg, hle, hm, hsz, ht⟩
  · omega
  refine ⟨b, rfl, ?_⟩
  have hle2 : i * size + size ≤ l * size := by
    have : (i + 1) * size ≤ l * size := Nat.mul_le_mul_right _ hi
    rw [Nat.add_mul] at this; omega
  have hle3 : l * size ≤ c * size := Nat.mul_le_mul_right _ hle
  refine StA_of hg (by simpa using hl) (by omega) (by simpa using h1) ?_
  refine hK _ (Own.mk hb (hg.upd_same _) hle hm ?_ ?_) ((Keep.one w b _).mono fun k hk => by rw [hk]) (by simp)
  · rw [size_spl (by simp [hl]; omega), hsz]
  · rw [set_rows hr (by omega), ← ht, spl_take hl hle2 (by omega)]
theorem set_set' {r : List Value} {t : Nat} {v : Value} (h : t < r.length) : r.take t ++ [v] ++ r.drop (t + 1) = r.set t v := by
  rw [List.set_eq_take_append_cons_drop, if_pos h]; simp
/-- a store over one cell of one element -/
theorem Own.setF {w : World} {base : Nat} {e : TypeId} {size : Nat} {p : Option Addr} {l c : Nat} {rows : List (List Value)} (h : Own w base e size p l c rows.flatten) (hr : ∀ r ∈ rows, r.length = size) (hs : 0 < size)
    {i : Nat} {r : List Value} (hi : rows[i]? = some r) {t : Nat} (ht : t < size) {v : Value} (h1 : oneV v = true) {K : World → Prop}
    (hK : ∀ w', Own w' base e size p l c (rows.set i (r.set t v)).flatten → Keep (fun k => p = some ⟨k, 0, none⟩) w w' → w'.heap.size = w.heap.size → K w') :
    ∃ b, p = some ⟨b, 0, none⟩ ∧ StV b (i * size + t) v w K := by
  have hc := h.count hr hs
  have hil := (List.getElem?_eq_some_iff.1 hi)
  have hrl : r.length = size := hr r (List.mem_of_getElem? hi)
  have hlt := hil.1
  rcases h.cases with ⟨rfl, rfl, rfl, h0⟩ | ⟨b, cur, rfl, hb, hg, hle, hm, hsz, htk⟩
  · omega
  refine ⟨b, rfl, ?_⟩
  have hle2 : i * size + size ≤ l * size := by
    have : (i + 1) * size ≤ l * size := Nat.mul_le_mul_right _ (by omega)
    rw [Nat.add_mul] at this; omega
  have hle3 : l * size ≤ c * size := Nat.mul_le_mul_right _ hle
  refine StV_of hg (by omega) h1 ?_
  refine hK _ (Own.mk hb (hg.upd_same _) hle hm (by simp [hsz]) ?_) ((Keep.one w b _).mono fun k hk => by rw [hk]) (by simp)
  rw [set_rows hr hlt, ← htk]
  have hg2 : ∀ j, j < size → (cur.toList.take (l * size))[i * size + j]? = r[j]? := fun j hj => by rw [htk]; exact get_rows hr hi j hj
  apply List.ext_getElem?
  intro q
  have lt : (cur.toList.take (l * size)).length = l * size := by simp; omega
  by_cases hq : q < l * size
  · rw [List.getElem?_take_of_lt hq, Array.getElem?_toList, Array.getElem?_setIfInBounds]
    by_cases h3 : q < i * size
    · rw [if_neg (by omega), List.append_assoc, List.getElem?_append_left (by rw [List.length_take, lt]; omega), List.getElem?_take_of_lt h3, List.getElem?_take_of_lt hq]; simp
    · by_cases h4 : q < i * size + size
      · rw [List.getElem?_append_left (by rw [List.length_append, List.length_take, lt, List.length_set, hrl]; omega), List.getElem?_append_right (by rw [List.length_take, lt]; omega), List.length_take, lt, Nat.min_eq_left (by omega),
          List.getElem?_set]
        by_cases h5 : i * size + t = q
        · rw [if_pos h5, if_pos (by omega), if_pos (by omega), if_pos (by omega)]
        · rw [if_neg h5, if_neg (by omega), ← hg2 (q - i * size) (by omega), List.getElem?_take_of_lt (by omega)]
          rw [show i * size + (q - i * size) = q by omega]; simp
      · rw [if_neg (by omega), List.getElem?_append_right (by rw [List.length_append, List.length_take, lt, List.length_set, hrl]; omega), List.length_append, List.length_take, lt, List.length_set, hrl, Nat.min_eq_left (by omega),
          List.getElem?_drop, show i * size + size + (q - (i * size + size)) = q by omega, List.getElem?_take_of_lt hq]; simp
  · rw [List.getElem?_eq_none (by simp; omega), List.getElem?_eq_none]
    rw [List.length_append, List.length_append, List.length_take, List.length_drop, lt, List.length_set, hrl]; omega

/-! ### how an element lies -/
structure Lay (α : Type) where
  size : Nat
  row : α → List Value
  len : ∀ a, (row a).length = size
  one : ∀ a, ∀ v ∈ row a, oneV v = true
  pos : 0 < size
theorem oneCell_of {v : Value} (h : oneV v = true) : v.oneCell' = true := by cases v <;> first | rfl | (simp [oneV] at h)
section lay
variable {α : Type} (L : Lay α)
def Lay.rows (xs : List α) : List Value := xs.flatMap L.row
theorem Lay.rows_eq (xs : List α) : L.rows xs = (xs.map L.row).flatten := by unfold Lay.rows; rw [List.flatMap_def]
theorem Lay.rlen (xs : List α) : ∀ r ∈ xs.map L.row, r.length = L.size := by
  intro r hr; obtain ⟨x, _, rfl⟩ := List.mem_map.1 hr; exact L.len x
theorem Lay.rows_len (xs : List α) : (L.rows xs).length = xs.length * L.size := by rw [L.rows_eq, length_rows (L.rlen xs), List.length_map]
theorem Lay.rows_one (xs : List α) : ∀ v ∈ L.rows xs, oneV v = true := by
  intro v hv; obtain ⟨x, _, h⟩ := List.mem_flatMap.1 hv; exact L.one x v h
@[simp] theorem Lay.rows_nil : L.rows [] = [] := rfl
theorem Lay.rows_append (xs ys : List α) : L.rows (xs ++ ys) = L.rows xs ++ L.rows ys := by unfold Lay.rows; simp
theorem Lay.rows_one' (x : α) : L.rows [x] = L.row x := by unfold Lay.rows; simp
/-- a row of one's own of elements -/
def OwnL (w : World) (base : Nat) (e : TypeId) (p : Option Addr) (l c : Nat) (xs : List α) : Prop := Own w base e L.size p l c (L.rows xs)
variable {L} {w : World} {base : Nat} {e : TypeId} {p : Option Addr} {l c : Nat} {xs : List α}
theorem OwnL.nil : OwnL L w base e none 0 0 [] := Own.nil _ _ _ _
theorem OwnL.length (h : OwnL L w base e p l c xs) : l = xs.length := by
  have h2 : Own w base e L.size p l c (L.rows xs) := h
  rw [L.rows_eq] at h2
  simpa using h2.count (L.rlen xs) L.pos
theorem OwnL.keep {w' : World} {S : Nat → Prop} (h : OwnL L w base e p l c xs) (hk : Keep S w w') (hS : ∀ k, p = some ⟨k, 0, none⟩ → ¬ S k) : OwnL L w' base e p l c xs := Own.keep h hk hS
theorem OwnL.lt (h : OwnL L w base e p l c xs) {b : Nat} (hp : p = some ⟨b, 0, none⟩) : base ≤ b ∧ b < w.heap.size := Own.lt h hp
theorem OwnL.rebase {base' : Nat} (h : OwnL L w base e p l c xs) (hb : base' ≤ base) : OwnL L w base' e p l c xs := by
  rcases Own.cases h with ⟨rfl, rfl, rfl, h0⟩ | ⟨b, cur, rfl, hb', hg, hle, hm, hs, ht⟩
  · have : xs = [] := List.eq_nil_of_length_eq_zero (by have := h.length; omega)
    subst this; exact Own.nil _ _ _ _
  · exact Own.mk (by omega) hg hle hm hs ht
theorem OwnL.cap (h : OwnL L w base e p l c xs) : l ≤ c ∧ c ≤ maxLen := by
  rcases Own.cases h with ⟨rfl, rfl, rfl, h0⟩ | ⟨b, cur, rfl, hb', hg, hle, hm, hs, ht⟩
  · exact ⟨Nat.le_refl _, by simp [maxLen]⟩
  · exact ⟨hle, hm⟩
theorem OwnL.at (h : OwnL L w base e p l c xs) {i : Nat} {x : α} (hi : xs[i]? = some x) : ∃ b, p = some ⟨b, 0, none⟩ ∧ ∀ j, j < L.size → w.cell? ⟨b, i * L.size + j, none⟩ = (L.row x)[j]? := by
  have h2 : Own w base e L.size p l c (L.rows xs) := h
  rw [L.rows_eq] at h2
  exact h2.at (L.rlen xs) L.pos (i := i) (r := L.row x) (by simp [hi])
theorem OwnL.ldA (h : OwnL L w base e p l c xs) {i : Int} {x : α} {n : Nat} (hn : L.size = n) (h0 : 0 ≤ i) (hi : xs[i.toNat]? = some x) {K : Array Value → Prop} (hK : K (L.row x).toArray) : IdxS p l i n fun b o => LdA n b o (At w) K := by
  subst hn
  obtain ⟨b, rfl, hc⟩ := h.at hi
  have hlt := (List.getElem?_eq_some_iff.1 hi).1
  refine ⟨b, 0, rfl, h0, by have := h.length; omega, (L.row x).toArray, by simp [L.len], ?_, hK⟩
  rintro w' ⟨d, rfl⟩ j hj
  rw [Nat.zero_add]
  have := hc j hj
  rw [show (w.dr d).cell? ⟨b, i.toNat * L.size + j, none⟩ = w.cell? ⟨b, i.toNat * L.size + j, none⟩ from rfl, this]
  simp
theorem OwnL.ldF (h : OwnL L w base e p l c xs) {i : Int} {x : α} {n t : Nat} {v : Value} (hn : L.size = n) (h0 : 0 ≤ i) (hi : xs[i.toNat]? = some x) (hv : (L.row x)[t]? = some v) {K : Value → Prop} (hK : K v) :
    IdxS p l i n fun b o => LdV b (o + t) (At w) K := by
  subst hn
  obtain ⟨b, rfl, hc⟩ := h.at hi
  have hlt := (List.getElem?_eq_some_iff.1 hi).1
  have ht : t < L.size := by have := (List.getElem?_eq_some_iff.1 hv).1; rwa [L.len] at this
  exact ⟨b, 0, rfl, h0, by have := h.length; omega, LdV_at.2 ⟨v, by rw [Nat.zero_add, hc t ht, hv], hK⟩⟩
theorem OwnL.ld0 (h : OwnL L w base e p l c xs) {i : Int} {x : α} {n : Nat} {v : Value} (hn : L.size = n) (h0 : 0 ≤ i) (hi : xs[i.toNat]? = some x) (hv : (L.row x)[0]? = some v) {K : Value → Prop} (hK : K v) :
    IdxS p l i n fun b o => LdV b o (At w) K := h.ldF hn h0 hi hv hK
/-- the row as a slice that is read -/
theorem OwnL.cells (h : OwnL L w base e p l c xs) (hl : 0 < l) : ∃ b cur, p = some ⟨b, 0, none⟩ ∧ base ≤ b ∧ Has w b (.cells cur e (0, 0)) ∧ l * L.size ≤ cur.size ∧ cur.size = c * L.size ∧ cur.toList.take (l * L.size) = L.rows xs := by
  rcases Own.cases h with ⟨rfl, rfl, rfl, h0⟩ | ⟨b, cur, rfl, hb', hg, hle, hm, hs, ht⟩
  · omega
  · exact ⟨b, cur, rfl, hb', hg, by rw [hs]; exact Nat.mul_le_mul_right _ hle, hs, ht⟩
theorem OwnL.stA (h : OwnL L w base e p l c xs) {i : Int} {n : Nat} (hn : L.size = n) (h0 : 0 ≤ i) (h1 : i < l) (x : α) {cs : Array Value} (hcs : cs = (L.row x).toArray) {K : World → Prop}
    (hK : ∀ w', OwnL L w' base e p l c (xs.set i.toNat x) → Keep (fun k => p = some ⟨k, 0, none⟩) w w' → w'.heap.size = w.heap.size → K w') : IdxS p l i n fun b o => StA n b o cs w K := by
  subst hn hcs
  have h2 : Own w base e L.size p l c (L.rows xs) := h
  rw [L.rows_eq] at h2
  obtain ⟨b, hp, hst⟩ := h2.set (L.rlen xs) L.pos (i := i.toNat) (by omega) (L.len x) (L.one x) (K := K) fun w' ho hk hz => hK w' (by
    unfold OwnL
    rw [L.rows_eq, List.map_set]; exact ho) hk hz
  exact ⟨b, 0, hp, h0, h1, by rw [Nat.zero_add]; exact hst⟩
theorem OwnL.stF (h : OwnL L w base e p l c xs) {i : Int} {n t : Nat} {x y : α} {v : Value} (hn : L.size = n) (h0 : 0 ≤ i) (hi : xs[i.toNat]? = some x) (ht : t < n) (hy : L.row y = (L.row x).set t v) (h1 : oneV v = true) {K : World → Prop}
    (hK : ∀ w', OwnL L w' base e p l c (xs.set i.toNat y) → Keep (fun k => p = some ⟨k, 0, none⟩) w w' → w'.heap.size = w.heap.size → K w') : IdxS p l i n fun b o => StV b (o + t) v w K := by
  subst hn
  have h2 : Own w base e L.size p l c (L.rows xs) := h
  rw [L.rows_eq] at h2
  have hlt := (List.getElem?_eq_some_iff.1 hi).1
  obtain ⟨b, hp, hst⟩ := h2.setF (L.rlen xs) L.pos (i := i.toNat) (r := L.row x) (by simp [hi]) ht h1 (K := K) fun w' ho hk hz => hK w' (by
    unfold OwnL
    rw [L.rows_eq, List.map_set, hy]; exact ho) hk hz
  exact ⟨b, 0, hp, h0, by have := h.length; omega, by rw [Nat.zero_add]; exact hst⟩
/-- a whole block as a row -/
theorem OwnL.mk {b : Nat} {cs : Array Value} (hb : base ≤ b) (h : Has w b (.cells cs e (0, 0))) (hm : xs.length ≤ maxLen) (hcs : cs.toList = L.rows xs) : OwnL L w base e (some ⟨b, 0, none⟩) xs.length xs.length xs := by
  have hl := L.rows_len xs
  refine Own.mk hb h (Nat.le_refl _) hm ?_ ?_
  · rw [← hl, ← hcs]; simp
  · rw [hcs, ← hl, List.take_length]
/-- ... in a new block -/
theorem OwnL.new {cs : Array Value} (hm : xs.length ≤ maxLen) (hcs : cs.toList = L.rows xs) : OwnL L (w.alloc (.cells cs e)) w.heap.size e (some ⟨w.heap.size, 0, none⟩) xs.length xs.length xs :=
  OwnL.mk (Nat.le_refl _) (Has.new _ _) hm hcs
end lay

/-- two lists, place by place -/
inductive All2 {α β : Type} (R : α → β → Prop) : List α → List β → Prop
  | nil : All2 R [] []
  | cons {a : α} {b : β} {l : List α} {m : List β} : R a b → All2 R l m → All2 R (a :: l) (b :: m)
theorem All2.len {α β : Type} {R : α → β → Prop} {l : List α} {m : List β} (h : All2 R l m) : l.length = m.length := by
  induction h with
  | nil => rfl
  | cons _ _ ih => simp [ih]

theorem add_add' (b o j : Nat) : Addr.add ⟨b, o, none⟩ j = ⟨b, o + j, none⟩ := by unfold Addr.add; split <;> simp_all
/-! ### slices that are read -/
section sll
variable {α : Type} (L : Lay α)
/-- a slice of elements, as it lies in memory, wherever -/
def SlL (w : World) (p : Option Addr) (l : Nat) (xs : List α) : Prop := l = xs.length ∧ ∀ i x, xs[i]? = some x → ∃ b o, p = some ⟨b, o, none⟩ ∧ ∀ j, j < L.size → w.cell? ⟨b, o + i * L.size + j, none⟩ = (L.row x)[j]?
variable {L} {w : World} {base : Nat} {e : TypeId} {p : Option Addr} {l c : Nat} {xs : List α}
theorem OwnL.sl (h : OwnL L w base e p l c xs) : SlL L w p l xs := ⟨h.length, fun i x hi => by
  obtain ⟨b, hp, hc⟩ := h.at hi
  exact ⟨b, 0, hp, fun j hj => by rw [Nat.zero_add]; exact hc j hj⟩⟩
theorem SlL.nil : SlL L w p 0 [] := ⟨rfl, fun i x h => by simp at h⟩
theorem cell_keep {S : Nat → Prop} {w w' : World} (hk : Keep S w w') {b o : Nat} {v : Value} (h : w.cell? ⟨b, o, none⟩ = some v) (hS : ¬ S b) : w'.cell? ⟨b, o, none⟩ = some v := by
  have hb : b < w.heap.size := by
    unfold World.cell? at h
    cases hh : w.heap[b]? with
    | none => simp [hh] at h
    | some x => exact (Array.getElem?_eq_some_iff.1 hh).1
  rw [← h]
  exact World.cell?_of_block (w := w) (hk.block b hb hS)
theorem SlL.keep {S : Nat → Prop} {w' : World} (h : SlL L w p l xs) (hk : Keep S w w') (hS : ∀ b o, p = some ⟨b, o, none⟩ → ¬ S b) : SlL L w' p l xs :=
  ⟨h.1, fun i x hi => by
    obtain ⟨b, o, rfl, hc⟩ := h.2 i x hi
    refine ⟨b, o, rfl, fun j hj => ?_⟩
    have := hc j hj
    rw [List.getElem?_eq_getElem (by rw [L.len]; exact hj)] at this ⊢
    exact cell_keep hk this (hS b o rfl)⟩
theorem SlL.keepB {S : Nat → Prop} {w' : World} (h : SlL L w p l xs) (hk : Keep S w w') (hS : ∀ k, k < w.heap.size → ¬ S k) : SlL L w' p l xs :=
  ⟨h.1, fun i x hi => by
    obtain ⟨b, o, rfl, hc⟩ := h.2 i x hi
    refine ⟨b, o, rfl, fun j hj => ?_⟩
    have := hc j hj
    rw [List.getElem?_eq_getElem (by rw [L.len]; exact hj)] at this ⊢
    refine cell_keep hk this (hS b ?_)
    unfold World.cell? at this
    cases hh : w.heap[b]? with
    | none => simp [hh] at this
    | some x => exact (Array.getElem?_eq_some_iff.1 hh).1⟩
theorem SlL.ldA (h : SlL L w p l xs) {i : Int} {x : α} {n : Nat} (hn : L.size = n) (h0 : 0 ≤ i) (hi : xs[i.toNat]? = some x) {K : Array Value → Prop} (hK : K (L.row x).toArray) : IdxS p l i n fun b o => LdA n b o (At w) K := by
  subst hn
  obtain ⟨b, o, rfl, hc⟩ := h.2 _ x hi
  have hlt := (List.getElem?_eq_some_iff.1 hi).1
  refine ⟨b, o, rfl, h0, by have := h.1; omega, (L.row x).toArray, by simp [L.len], ?_, hK⟩
  rintro w' ⟨d, rfl⟩ j hj
  rw [show (w.dr d).cell? ⟨b, o + i.toNat * L.size + j, none⟩ = w.cell? ⟨b, o + i.toNat * L.size + j, none⟩ from rfl, hc j hj]
  simp
theorem SlL.ldF (h : SlL L w p l xs) {i : Int} {x : α} {n t : Nat} {v : Value} (hn : L.size = n) (h0 : 0 ≤ i) (hi : xs[i.toNat]? = some x) (hv : (L.row x)[t]? = some v) {K : Value → Prop} (hK : K v) :
    IdxS p l i n fun b o => LdV b (o + t) (At w) K := by
  subst hn
  obtain ⟨b, o, rfl, hc⟩ := h.2 _ x hi
  have hlt := (List.getElem?_eq_some_iff.1 hi).1
  have ht : t < L.size := by have := (List.getElem?_eq_some_iff.1 hv).1; rwa [L.len] at this
  exact ⟨b, o, rfl, h0, by have := h.1; omega, LdV_at.2 ⟨v, by rw [hc t ht, hv], hK⟩⟩
theorem SlL.ld0 (h : SlL L w p l xs) {i : Int} {x : α} {n : Nat} {v : Value} (hn : L.size = n) (h0 : 0 ≤ i) (hi : xs[i.toNat]? = some x) (hv : (L.row x)[0]? = some v) {K : Value → Prop} (hK : K v) :
    IdxS p l i n fun b o => LdV b o (At w) K := h.ldF hn h0 hi hv hK
/-- its cells, one behind the other -/
theorem SlL.cells (h : SlL L w p l xs) (h0 : 0 < l) : ∃ b o, p = some ⟨b, o, none⟩ ∧ ∀ j u, (L.rows xs)[j]? = some u → w.cell? ⟨b, o + j, none⟩ = some u := by
  obtain ⟨hl, hs⟩ := h
  obtain ⟨b, o, hp, _⟩ := hs 0 xs[0] (by simp [← hl, h0])
  refine ⟨b, o, hp, fun j u hj => ?_⟩
  have hpos := L.pos
  have hjl : j < xs.length * L.size := by
    have := (List.getElem?_eq_some_iff.1 hj).1
    rwa [L.rows_len] at this
  have h2 : j / L.size < xs.length := Nat.div_lt_of_lt_mul (by rw [Nat.mul_comm]; exact hjl)
  have hmod : j % L.size < L.size := Nat.mod_lt _ hpos
  have hdm : j / L.size * L.size + j % L.size = j := by have := Nat.div_add_mod j L.size; rw [Nat.mul_comm] at this; exact this
  obtain ⟨b', o', hp', hc⟩ := hs (j / L.size) xs[j / L.size] (by simp [h2])
  rw [hp] at hp'
  cases hp'
  have h1 := hc (j % L.size) hmod
  have h3 := get_rows (L.rlen xs) (i := j / L.size) (r := L.row xs[j / L.size]) (by simp [h2]) (j % L.size) hmod
  rw [← L.rows_eq, hdm, hj] at h3
  rw [show o + j = o + j / L.size * L.size + j % L.size by omega, h1, h3]
/-- a row of one cell's elements is read like this, too -/
theorem Sl_of_SlL (h : SlL L w p l xs) (d : α) {g : Nat → List Value} (hg : ∀ i x, xs[i]? = some x → g i = L.row x) {n : Nat} (hn : L.size = n) : ∀ i, i < l → (g i).length = n ∧ ∃ b o, p = some ⟨b, o, none⟩ ∧ ∀ j, j < n → w.cell? ⟨b, o + i * n + j, none⟩ = (g i)[j]? := by
  subst hn
  intro i hi
  have hlt : i < xs.length := by have := h.1; omega
  have hx : xs[i]? = some xs[i] := by simp [hlt]
  rw [hg i _ hx]
  exact ⟨L.len _, h.2 i _ hx⟩
end sll

/-! ### slices in blocks of their kind -/
section slt
variable {α : Type} (L : Lay α)
/-- a slice of elements, in a block of their kind; 'c' is its room -/
structure SlT (w : World) (e : TypeId) (p : Option Addr) (l c : Nat) (xs : List α) : Prop where
  sl : SlL L w p l xs
  ty : ∀ a, p = some a → ∃ cur, Has w a.block (.cells cur e (0, 0))
  cap : l ≤ c ∧ c ≤ maxLen
variable {L} {w w' : World} {base : Nat} {e : TypeId} {p : Option Addr} {l c : Nat} {xs : List α} {S : Nat → Prop}
theorem SlT.keep (h : SlT L w e p l c xs) (hk : Keep S w w') (hS : ∀ a, p = some a → ¬ S a.block) : SlT L w' e p l c xs :=
  ⟨h.sl.keep hk fun b o q => hS _ q, fun a q => by obtain ⟨cur, hc⟩ := h.ty a q; exact ⟨cur, hk.has hc (hS a q)⟩, h.cap⟩
theorem SlT.keepB (h : SlT L w e p l c xs) (hk : Keep S w w') (hS : ∀ k cur, Has w k (.cells cur e (0, 0)) → ¬ S k) : SlT L w' e p l c xs :=
  h.keep hk fun a q => by obtain ⟨cur, hc⟩ := h.ty a q; exact hS _ cur hc
theorem SlT.ldA (h : SlT L w e p l c xs) {i : Int} {x : α} {n : Nat} (hn : L.size = n) (h0 : 0 ≤ i) (hi : xs[i.toNat]? = some x) {K : Array Value → Prop} (hK : K (L.row x).toArray) : IdxS p l i n fun b o => LdA n b o (At w) K := h.sl.ldA hn h0 hi hK
theorem SlT.ldF (h : SlT L w e p l c xs) {i : Int} {x : α} {n t : Nat} {v : Value} (hn : L.size = n) (h0 : 0 ≤ i) (hi : xs[i.toNat]? = some x) (hv : (L.row x)[t]? = some v) {K : Value → Prop} (hK : K v) : IdxS p l i n fun b o => LdV b (o + t) (At w) K :=
  h.sl.ldF hn h0 hi hv hK
theorem SlT.ld0 (h : SlT L w e p l c xs) {i : Int} {x : α} {n : Nat} {v : Value} (hn : L.size = n) (h0 : 0 ≤ i) (hi : xs[i.toNat]? = some x) (hv : (L.row x)[0]? = some v) {K : Value → Prop} (hK : K v) : IdxS p l i n fun b o => LdV b o (At w) K :=
  h.sl.ld0 hn h0 hi hv hK
theorem SlT.of (h : OwnL L w base e p l c xs) : SlT L w e p l c xs :=
  ⟨h.sl, fun a q => by
    rcases Own.cases h with ⟨h0, _⟩ | ⟨b, cur, h0, _, hg, _⟩
    · rw [h0] at q; cases q
    · rw [h0] at q; cases q; exact ⟨cur, hg⟩, h.cap⟩
theorem SlT.len (h : SlT L w e p l c xs) : l = xs.length := h.sl.1
theorem SlT.nil (h : c ≤ maxLen) : SlT L w e none 0 c [] := ⟨SlL.nil, fun a q => by simp at q, ⟨Nat.zero_le _, h⟩⟩
/-- a part of a slice -/
theorem SlL.sub (h : SlL L w p l xs) {lo hi m : Nat} (h1 : lo ≤ hi) (h2 : hi ≤ l) (h3 : hi ≤ m) : SlL L w (slcP L.size lo m p) (hi - lo) ((xs.take hi).drop lo) := by
  have hl := h.1
  refine ⟨by simp; omega, fun i x hx => ?_⟩
  rw [List.getElem?_drop, List.getElem?_take] at hx
  split at hx
  · rename_i hlt
    obtain ⟨b, o, rfl, hc⟩ := h.2 (lo + i) x hx
    refine ⟨b, o + lo * L.size, ?_, fun j hj => ?_⟩
    · unfold slcP
      rw [if_neg (by omega)]
      simp [add_add']
    · have := hc j hj
      rw [← this]
      congr 2
      rw [Nat.add_mul]; omega
  · cases hx
theorem SlT.sub (h : SlT L w e p l c xs) {lo hi m : Nat} (h1 : lo ≤ hi) (h2 : hi ≤ l) (h3 : hi ≤ m) (h4 : m ≤ c) : SlT L w e (slcP L.size lo m p) (hi - lo) (m - lo) ((xs.take hi).drop lo) := by
  refine ⟨h.sl.sub h1 h2 h3, fun a q => ?_, by omega, by have := h.cap; omega⟩
  unfold slcP at q
  split at q
  · exact h.ty a q
  · cases p with
    | none => cases q
    | some a' =>
      simp only [Option.map_some, Option.some.injEq] at q
      have : a.block = a'.block := by rw [← q]; unfold Addr.add; split <;> rfl
      rw [this]
      exact h.ty a' rfl
end slt

/-! ### append -/
/-- what a program says of a slice type and its elements -/
structure LayT (P : Program) {α : Type} (L : Lay α) (t e : TypeId) (bytes : Nat) : Prop where
  under : P.underlying t = some (.slice e)
  info : ∃ i z, P.info? e = some i ∧ i.zero = some z ∧ i.size = L.size ∧ i.bytes = bytes ∧ z.cells.size = L.size
section app
variable {P : Program} {α : Type} {L : Lay α} {t e : TypeId} {bytes : Nat} {w : World} {base : Nat} {p : Option Addr} {l c : Nat} {xs : List α}
theorem add_add (b o j : Nat) : Addr.add ⟨b, o, none⟩ j = ⟨b, o + j, none⟩ := by unfold Addr.add; split <;> simp_all
/-- 'append(xs, ys...)' -/
theorem run_appendL (T : LayT P L t e bytes) (h : OwnL L w base e p l c xs) {p2 : Option Addr} {l2 c2 : Nat} {ys : List α} (h2 : SlL L w p2 l2 ys) {ty : TypeId}
    (hl : ((l + l2) + (l + l2) / 4 + 192) * bytes ≤ 281474976710656) (hm : l + l2 ≤ maxLen) (hbase : base ≤ w.heap.size) :
    ∃ p' c' w', (Builtin.append_ #[t, t] ty #[.slice p l c, .slice p2 l2 c2]).run P w = .ok (.slice p' (l + l2) c') w' ∧ OwnL L w' base e p' (l + l2) c' (xs ++ ys) ∧ Keep (fun k => p = some ⟨k, 0, none⟩) w w' := by
  obtain ⟨i, z, hi, hz, hsize, hby, hzs⟩ := T.info
  by_cases h0 : 0 < l2
  · obtain ⟨b, o, rfl, hc⟩ := h2.cells h0
    have := run_appendOwn (P := P) (t := t) (ty := ty) (i := i) (z := z) (size := L.size) (bytes := bytes) T.under hi hz hsize hby hzs L.pos h (a := ⟨b, o, none⟩) (m := l2) (c2 := c2) (news := L.rows ys)
      (by rw [L.rows_len, h2.1]) (fun j u hu => by rw [add_add]; exact hc j u hu) (fun u hu => oneCell_of (L.rows_one ys u hu)) hl hm hbase
    obtain ⟨p', c', w', hr, ho, hk⟩ := this
    exact ⟨p', c', w', hr, by unfold OwnL; rw [L.rows_append]; exact ho, hk⟩
  · have hz0 : l2 = 0 := by omega
    subst hz0
    have hys : ys = [] := List.eq_nil_of_length_eq_zero h2.1.symm
    subst hys
    refine ⟨p, c, w, ?_, by simpa using h, Keep.refl _ _⟩
    have hsrc : ∀ q : Option Addr, Src P i.size t (.slice q 0 c2) 0 [] w := by
      intro q
      cases q with
      | none => exact Src.ofNil (e' := e) w T.under c2
      | some a => exact Src.ofSlice (e' := e) w T.under a 0 c2 [] (by simp) (fun j u h => by simp at h) (fun u h => by simp at h)
    exact run_append_nothing w _ _ _ _ i T.under hi p l c h.cap.1 _ (hsrc p2)
/-- 'append(xs, y)' -/
theorem run_appendL1 (T : LayT P L t e bytes) (h : OwnL L w base e p l c xs) {a : Nat} {y : α} {cs : Array Value} {f : Nat × Nat} {e2 : TypeId} (ha : Has w a (.cells cs e2 f)) (hcs : cs = (L.row y).toArray) {ty : TypeId}
    (hl : ((l + 1) + (l + 1) / 4 + 192) * bytes ≤ 281474976710656) (hm : l + 1 ≤ maxLen) (hbase : base ≤ w.heap.size) {c2 : Nat} :
    ∃ p' c' w', (Builtin.append_ #[t, t] ty #[.slice p l c, .slice (some ⟨a, 0, none⟩) 1 c2]).run P w = .ok (.slice p' (l + 1) c') w' ∧ OwnL L w' base e p' (l + 1) c' (xs ++ [y]) ∧ Keep (fun k => p = some ⟨k, 0, none⟩) w w' := by
  refine run_appendL T h (ys := [y]) ⟨rfl, fun i x hi => ?_⟩ hl hm hbase
  match i, hi with
  | 0, hi =>
    cases hi
    exact ⟨a, 0, rfl, fun j hj => by rw [cell_of ha, hcs]; simp⟩
  | i + 1, hi => simp at hi
end app

theorem OwnL.apart {α β : Type} {L : Lay α} {M : Lay β} {w : World} {b1 b2 : Nat} {e1 e2 : TypeId} {p q : Option Addr} {l c m d : Nat} {xs : List α} {ys : List β} (h1 : OwnL L w b1 e1 p l c xs) (h2 : OwnL M w b2 e2 q m d ys) (hne : e1 ≠ e2)
    {k : Nat} (hp : p = some ⟨k, 0, none⟩) : ¬ q = some ⟨k, 0, none⟩ := by
  intro hq
  rcases Own.cases h1 with ⟨rfl, _⟩ | ⟨b, cur, rfl, _, hg, _⟩
  · cases hp
  · cases hp
    rcases Own.cases h2 with ⟨rfl, _⟩ | ⟨b', cur', rfl, _, hg', _⟩
    · cases hq
    · cases hq
      have := hg.inj hg'
      simp only [Obj.cells.injEq] at this
      exact hne this.2.1

/-! ### copies in blocks of their own -/
theorem copy_of {P : Program} {w : World} {n : Nat} {t : TypeId} {cs : Array Value} {K : Nat → World → Prop} (hz : (zc P t).size = n) (hc : cs.size = n) (h1 : ∀ v ∈ cs.toList, oneV v = true)
    (hK : ∀ w', Has w' w.heap.size (.cells cs t (0, 0)) → Keep (fun _ => False) w w' → w'.heap.size = w.heap.size + 1 → K w.heap.size w') :
    Alc t (zc P t) w fun b w => StA n b 0 cs w fun w => K b w := by
  rw [Alc_iff]
  refine StA_all (Has.new _ _) hc hz h1 ?_
  exact hK _ ((Has.new _ _).upd_same _) ((Keep.new _ _ _).upd (by omega) _) (by simp)
end Go.Ev
