/-
  RANGING OVER A MAP WITH INTEGER KEYS, AND GROWING ROWS: the steps of a range, whatever their order; append and copies of whole rows.
-/
import Derived.Test.YthhimblbnnafkaaGreatMap
import Derived.Maps.RangeRun
import Derived.Deep.DeepAppendWide
import Derived.Great.BuildSlice
namespace Go.Ev
open Go.ChangeMaps (setBlock)
open Go
set_option linter.unusedSimpArgs false
set_option linter.unusedVariables false

/-- the range in block r over the map in block m has these entries left -/
def Iter (k : IntKind) (w : World) (r m : Nat) (left : List (Int × Value)) : Prop :=
  ∃ since seen c0 arr clk es, Has w r (.mapIter (some m) since seen c0) ∧ Has w m (.map arr clk) ∧ MapOk k arr clk es ∧ (∀ x ∈ arr.toList, x.born < since) ∧ since ≤ c0 ∧ since ≤ clk ∧
    (leftOf arr seen).toList.map (fun e => (e.key, e.val)) = left.map fun p => (Value.int k p.1, p.2)
/-- the entry that the range has come to -/
def AtEnt (k : IntKind) (w : World) (r m : Nat) (x : Int) (v : Value) : Prop :=
  ∃ (since : Nat) (seen : Array Nat) (clk : Nat) (arr : Array MapEntry) (e : MapEntry), Has w r (.mapIter (some m) since (seen.push e.born) clk) ∧ Has w m (.map arr clk) ∧ e ∈ arr.toList ∧ e.key = .int k x ∧ e.val = v ∧ (arr.toList.map (·.born)).Nodup
theorem Iter.keep {k : IntKind} {w w' : World} {r m : Nat} {left : List (Int × Value)} {S : Nat → Prop} (h : Iter k w r m left) (hk : Keep S w w') (hr : ¬ S r) (hm : ¬ S m) : Iter k w' r m left := by
  obtain ⟨since, seen, c0, arr, clk, es, h1, h2, h3⟩ := h
  exact ⟨since, seen, c0, arr, clk, es, hk.has h1 hr, hk.has h2 hm, h3⟩
theorem AtEnt.keep {k : IntKind} {w w' : World} {r m : Nat} {x : Int} {v : Value} {S : Nat → Prop} (h : AtEnt k w r m x v) (hk : Keep S w w') (hr : ¬ S r) (hm : ¬ S m) : AtEnt k w' r m x v := by
  obtain ⟨since, seen, clk, arr, e, h1, h2, h3⟩ := h
  exact ⟨since, seen, clk, arr, e, hk.has h1 hr, hk.has h2 hm, h3⟩
theorem Iter.lt {k : IntKind} {w : World} {r m : Nat} {left : List (Int × Value)} (h : Iter k w r m left) : r < w.heap.size ∧ m < w.heap.size := by
  obtain ⟨since, seen, c0, arr, clk, es, h1, h2, h3⟩ := h
  exact ⟨h1.lt, h2.lt⟩

theorem Iter.ne {k : IntKind} {w : World} {r m : Nat} {left : List (Int × Value)} (h : Iter k w r m left) : r ≠ m := by
  obtain ⟨since, seen, c0, arr, clk, es, h1, h2, h3⟩ := h
  exact h1.ne h2 (by simp)

section
variable {P : Program} {k : IntKind}
theorem run_rangeM {w : World} {t kt et : TypeId} {m : Nat} {es : List (Int × Value)} (ht : P.underlying t = some (.map kt et)) (h : MapAt k w m es) :
    ∃ w', (Instr.range t (.map (some m))).run P w = .ok (.pointer (some ⟨w.heap.size, 0, none⟩)) w' ∧ Iter k w' w.heap.size m es ∧ Keep (fun _ => False) w w' := by
  obtain ⟨arr, clk, hb, ho⟩ := h
  refine ⟨_, run_range_map w t kt et m arr clk ht hb, ⟨clk, #[], clk, arr, clk, es, Has.new _ _, hb.alloc, ho, ho.clock, Nat.le_refl _, Nat.le_refl _, ?_⟩, Keep.new _ _ _⟩
  have : leftOf arr #[] = arr := by simp [leftOf]
  rw [this]
  exact ho.ent

theorem setBlock_upd (w : World) (b : Nat) (x : Obj) (y : Obj) (h : Has w b y) : setBlock w b x = w.upd b x := by
  unfold setBlock World.upd
  congr 1
theorem run_entryM {w : World} {r m : Nat} {x : Int} {v : Value} (h : AtEnt k w r m x v) : (Instr.entry (.pointer (some ⟨r, 0, none⟩))).run P w = .ok (.tuple #[.int k x, v]) w := by
  obtain ⟨since, seen, clk, arr, e, h1, h2, h3, h4, h5, h6⟩ := h
  rw [run_entry_at w r m since seen arr clk e h1 h2 h3 h6, h4, h5]

theorem perm_of_filter {l : List MapEntry} {e : MapEntry} (he : e ∈ l) (hn : (l.map (·.born)).Nodup) : l.Perm (e :: l.filter fun x => !(x.born == e.born)) := by
  induction l with
  | nil => simp at he
  | cons a l ih =>
    simp only [List.map_cons, List.nodup_cons] at hn
    rcases List.mem_cons.1 he with rfl | he
    · have : (e :: l).filter (fun x => !(x.born == e.born)) = l := by
        rw [List.filter_cons]
        simp only [BEq.rfl, Bool.not_true, Bool.false_eq_true, if_false]
        apply List.filter_eq_self.2
        intro x hx
        simp only [Bool.not_eq_true', beq_eq_false_iff_ne]
        exact fun e' => hn.1 (List.mem_map.2 ⟨x, hx, e'⟩)
      rw [this]
    · have hne : a.born ≠ e.born := fun e' => hn.1 (List.mem_map.2 ⟨e, he, e'.symm⟩)
      have : (a :: l).filter (fun x => !(x.born == e.born)) = a :: l.filter fun x => !(x.born == e.born) := by
        rw [List.filter_cons]
        simp [hne]
      rw [this]
      exact ((ih he hn.2).cons a).trans (List.Perm.swap e a _)

theorem run_nextM {w : World} {r m : Nat} {ty : TypeId} {left : List (Int × Value)} (h : Iter k w r m left) :
    (left = [] ∧ (Instr.next (.pointer (some ⟨r, 0, none⟩)) false ty).run P w = .ok (.tuple #[.bool false]) w) ∨
    ∃ x v left' w', left.Perm ((x, v) :: left') ∧ (Instr.next (.pointer (some ⟨r, 0, none⟩)) false ty).run P w = .ok (.tuple #[.bool true, .int k x, v]) w' ∧ Iter k w' r m left' ∧ AtEnt k w' r m x v ∧ Keep (fun i => i = r) w w' := by
  have hrm := h.ne
  obtain ⟨since, seen, c0, arr, clk, es, h1, h2, h3, h4, h5, h6, h7⟩ := h
  rcases run_next_at (P := P) w ty r m since c0 seen arr clk h1 h2 h4 h5 with ⟨hs, hr⟩ | ⟨e, he, w1, hw1, hr⟩
  · left
    refine ⟨?_, hr⟩
    have : (leftOf arr seen).toList = [] := by
      apply List.eq_nil_of_length_eq_zero
      simpa using hs
    rw [this] at h7
    cases left
    · rfl
    · simp at h7
  · right
    have hea : e ∈ arr.toList := by
      unfold leftOf at he
      rw [Array.toList_filter] at he
      exact (List.mem_filter.1 he).1
    have hes : seen.contains e.born = false := by
      unfold leftOf at he
      rw [Array.toList_filter] at he
      simpa using (List.mem_filter.1 he).2
    have hkey : ∃ p ∈ es, (Value.int k p.1, p.2) = (e.key, e.val) := by
      have : (e.key, e.val) ∈ arr.toList.map (fun e => (e.key, e.val)) := List.mem_map.2 ⟨e, hea, rfl⟩
      rw [h3.ent] at this
      obtain ⟨p, hp, hpe⟩ := List.mem_map.1 this
      exact ⟨p, hp, hpe⟩
    obtain ⟨p, hp, hpe⟩ := hkey
    simp only [Prod.mk.injEq] at hpe
    have hw : Has w1 r (.mapIter (some m) since seen c0) ∧ Has w1 m (.map arr clk) ∧ Keep (fun i => i = r) w w1 := by
      rcases hw1 with rfl | rfl
      · exact ⟨h1, h2, Keep.refl _ _⟩
      · exact ⟨h1, h2, ⟨rfl, rfl, rfl, Nat.le_refl _, fun _ _ _ => rfl⟩⟩
    obtain ⟨g1, g2, g3⟩ := hw
    rw [setBlock_upd w1 r _ _ g1] at hr
    have hleft : (leftOf arr (seen.push e.born)).toList = (leftOf arr seen).toList.filter fun x => !(x.born == e.born) := by
      unfold leftOf
      rw [Array.toList_filter, Array.toList_filter, List.filter_filter]
      congr 1
      funext x
      simp only [Array.contains_push]
      cases hx : seen.contains x.born <;> cases hy : x.born == e.born <;> rfl
    have hnl : ((leftOf arr seen).toList.map (·.born)).Nodup := by
      unfold leftOf
      rw [Array.toList_filter]
      exact h3.stamps.sublist (List.Sublist.map _ List.filter_sublist)
    have hperm := (perm_of_filter he hnl).map (fun e => (e.key, e.val))
    rw [h7, List.map_cons, ← hleft] at hperm
    -- the entries that are left, as pairs
    have hall : ∀ (l : List MapEntry), (∀ x ∈ l, x ∈ arr.toList) → ∃ q : List (Int × Value), l.map (fun e => (e.key, e.val)) = q.map fun p => (Value.int k p.1, p.2) := by
      intro l
      induction l with
      | nil => exact fun _ => ⟨[], rfl⟩
      | cons a l ih =>
        intro hl
        obtain ⟨q, hq⟩ := ih fun x hx => hl x (by simp [hx])
        have : (a.key, a.val) ∈ arr.toList.map (fun e => (e.key, e.val)) := List.mem_map.2 ⟨a, hl a (by simp), rfl⟩
        rw [h3.ent] at this
        obtain ⟨p, _, hpe⟩ := List.mem_map.1 this
        exact ⟨p :: q, by simp only [List.map_cons, hq, hpe]⟩
    obtain ⟨q, hq⟩ := hall (leftOf arr (seen.push e.born)).toList (fun x hx => by
      unfold leftOf at hx
      rw [Array.toList_filter] at hx
      exact (List.mem_filter.1 hx).1)
    refine ⟨p.1, p.2, q, _, ?_, by rw [hr, hpe.1, hpe.2], ⟨since, seen.push e.born, clk, arr, clk, es, g1.upd_same _, g2.upd (Ne.symm hrm), h3, h4, h6, h6, hq⟩,
      ⟨since, seen, clk, arr, e, g1.upd_same _, g2.upd (Ne.symm hrm), hea, hpe.1.symm, hpe.2.symm, h3.stamps⟩, g3.trans (Keep.one w1 r _)⟩
    rw [hq, ← hpe.1, ← hpe.2] at hperm
    have inj : ∀ a b : Int × Value, (Value.int k a.1, a.2) = (Value.int k b.1, b.2) → a = b := by
      rintro ⟨a, u⟩ ⟨b, v⟩ h
      simpa using h
    have h8 : (left.map fun p => (Value.int k p.1, p.2)).Perm ((p :: q).map fun p => (Value.int k p.1, p.2)) := hperm
    have h9 := h8.map (fun v : Value × Value => ((match v.1 with | .int _ n => n | _ => 0), v.2))
    simpa [List.map_map, Function.comp_def] using h9
end

/-! ### rows that a call has made itself -/
/-- a slice of l elements (size cells each) that starts a block of its own, from block number base on; xs: its elements' cells -/
def Own (w : World) (base : Nat) (e : TypeId) (size : Nat) (p : Option Addr) (l c : Nat) (xs : List Value) : Prop := w.ownsRow base e size (.slice p l c) l xs
theorem Own.nil (w : World) (base : Nat) (e : TypeId) (size : Nat) : Own w base e size none 0 0 [] := World.ownsRow_nil _ _ _ _
theorem Own.len {w : World} {base : Nat} {e : TypeId} {size : Nat} {p : Option Addr} {l c : Nat} {xs : List Value} (h : Own w base e size p l c xs) : xs.length = l * size := h.1
theorem Own.cases {w : World} {base : Nat} {e : TypeId} {size : Nat} {p : Option Addr} {l c : Nat} {xs : List Value} (h : Own w base e size p l c xs) :
    (p = none ∧ l = 0 ∧ c = 0 ∧ xs = []) ∨ ∃ b cur, p = some ⟨b, 0, none⟩ ∧ base ≤ b ∧ Has w b (.cells cur e (0, 0)) ∧ l ≤ c ∧ c ≤ maxLen ∧ cur.size = c * size ∧ cur.toList.take (l * size) = xs := by
  obtain ⟨hl, h | ⟨g, cap, cur, hv, hb, hg, hle, hm, hs, ht⟩⟩ := h
  · obtain ⟨h1, h2⟩ := h
    simp only [Value.slice.injEq] at h1
    obtain ⟨rfl, rfl, rfl⟩ := h1
    exact Or.inl ⟨rfl, rfl, rfl, List.eq_nil_of_length_eq_zero (by simpa using hl)⟩
  · simp only [Value.slice.injEq] at hv
    obtain ⟨rfl, _, rfl⟩ := hv
    exact Or.inr ⟨g, cur, rfl, hb, hg, hle, hm, hs, ht⟩
theorem Own.mk {w : World} {base : Nat} {e : TypeId} {size b l c : Nat} {cur : Array Value} {xs : List Value} (hb : base ≤ b) (h : Has w b (.cells cur e (0, 0))) (hle : l ≤ c) (hm : c ≤ maxLen) (hs : cur.size = c * size)
    (ht : cur.toList.take (l * size) = xs) : Own w base e size (some ⟨b, 0, none⟩) l c xs := by
  refine ⟨?_, Or.inr ⟨b, c, cur, rfl, hb, h, hle, hm, hs, ht⟩⟩
  rw [← ht, List.length_take, Array.length_toList, hs]
  exact Nat.min_eq_left (Nat.mul_le_mul_right _ hle)
theorem Own.keep {w w' : World} {base : Nat} {e : TypeId} {size : Nat} {p : Option Addr} {l c : Nat} {xs : List Value} {S : Nat → Prop} (h : Own w base e size p l c xs) (hk : Keep S w w') (hS : ∀ k, p = some ⟨k, 0, none⟩ → ¬ S k) :
    Own w' base e size p l c xs := by
  rcases h.cases with ⟨rfl, rfl, rfl, rfl⟩ | ⟨b, cur, rfl, hb, hg, hle, hm, hs, ht⟩
  · exact Own.nil _ _ _ _
  · exact Own.mk hb (hk.has hg (hS b rfl)) hle hm hs ht
theorem Own.lt {w : World} {base : Nat} {e : TypeId} {size : Nat} {p : Option Addr} {l c : Nat} {xs : List Value} (h : Own w base e size p l c xs) {b : Nat} (hp : p = some ⟨b, 0, none⟩) : base ≤ b ∧ b < w.heap.size := by
  rcases h.cases with ⟨rfl, _⟩ | ⟨b', cur, rfl, hb, hg, _⟩
  · cases hp
  · cases hp; exact ⟨hb, hg.lt⟩
theorem Own.ne {w : World} {base : Nat} {e : TypeId} {size : Nat} {p : Option Addr} {l c : Nat} {xs : List Value} (h : Own w base e size p l c xs) {b : Nat} (hp : p = some ⟨b, 0, none⟩) {k : Nat} {x : Obj} (hk : Has w k x)
    (hx : ∀ cs, x ≠ .cells cs e (0, 0)) : k ≠ b := by
  rcases h.cases with ⟨rfl, _⟩ | ⟨b', cur, rfl, hb, hg, _⟩
  · cases hp
  · cases hp; intro e; subst e; exact hx _ (hk.inj hg)
theorem Keep.of_grown {w w' : World} {row : Option Nat} (h : w.grownBy w' row) : Keep (fun k => some k = row) w w' := ⟨h.os, h.tape, h.output, h.size, fun k hk hS => h.block k hk hS⟩
/-- 'append(xs, ys...)' onto a row of one's own -/
theorem run_appendOwn {P : Program} {w : World} {base : Nat} {t ty e : TypeId} {i : TypeInfo} {z : Value} {size bytes : Nat} (ht : P.underlying t = some (.slice e)) (hi : P.info? e = some i) (hz : i.zero = some z)
    (hsize : i.size = size) (hby : i.bytes = bytes) (hzs : z.cells.size = size) (hsz : 0 < size) {p : Option Addr} {l c : Nat} {xs : List Value} (h : Own w base e size p l c xs)
    {a : Addr} {m c2 : Nat} {news : List Value} (hl : news.length = m * size) (hnews : ∀ j u, news[j]? = some u → w.cell? (a.add j) = some u) (h1 : ∀ u ∈ news, u.oneCell' = true)
    (hbytes : ((l + m) + (l + m) / 4 + 192) * bytes ≤ 281474976710656) (h63 : l + m ≤ maxLen) (hbase : base ≤ w.heap.size) :
    ∃ p' c' w', (Builtin.append_ #[t, t] ty #[.slice p l c, .slice (some a) m c2]).run P w = .ok (.slice p' (l + m) c') w' ∧ Own w' base e size p' (l + m) c' (xs ++ news) ∧ Keep (fun k => p = some ⟨k, 0, none⟩) w w' := by
  obtain ⟨v', w', hr, ho, hg, hn⟩ := run_append_own_wide (P := P) w base t ty e i z size bytes ht hi hz hsize hby hzs hsz (.slice p l c) l xs h a m c2 news hl hnews h1 h63 hbytes hbase
  have hk : Keep (fun k => p = some ⟨k, 0, none⟩) w w' := by
    refine (Keep.of_grown hg).mono fun k hk => ?_
    rcases h.cases with ⟨rfl, _⟩ | ⟨b', cur, rfl, _⟩
    · simp [Value.ownBlock] at hk
    · simp [Value.ownBlock] at hk; rw [hk]
  obtain ⟨hlen, h | ⟨g, cap, cur, hv, hb, hg, hle, hm, hs, htk⟩⟩ := id ho
  · obtain ⟨h1, h2⟩ := h
    subst h1
    have e0 : Value.slice none 0 0 = .slice none (l + m) 0 := by rw [h2]
    rw [e0] at hr ho
    exact ⟨none, 0, w', hr, ho, hk⟩
  · subst hv
    exact ⟨_, cap, w', hr, ho, hk⟩
/-- a cell of the row -/
theorem Own.cell {w : World} {base : Nat} {e : TypeId} {size : Nat} {b l c : Nat} {xs : List Value} (h : Own w base e size (some ⟨b, 0, none⟩) l c xs) {j : Nat} (hj : j < l * size) : w.cell? ⟨b, j, none⟩ = xs[j]? := by
  rcases h.cases with ⟨h, _⟩ | ⟨b', cur, hp, hb, hg, hle, hm, hs, ht⟩
  · cases h
  · cases hp
    rw [cell_of hg, ← ht, List.getElem?_take_of_lt hj]; simp
theorem length_rows {size : Nat} : ∀ {rows : List (List Value)}, (∀ r ∈ rows, r.length = size) → rows.flatten.length = rows.length * size
  | [], _ => by simp
  | r :: rows, h => by
    rw [List.flatten_cons, List.length_append, length_rows fun r hr => h r (by simp [hr]), h r (by simp), List.length_cons, Nat.add_mul]
    omega
theorem get_rows {size : Nat} : ∀ {rows : List (List Value)}, (∀ r ∈ rows, r.length = size) → ∀ {i : Nat} {r : List Value}, rows[i]? = some r → ∀ j, j < size → rows.flatten[i * size + j]? = r[j]?
  | [], _, i, r, hi, _, _ => by simp at hi
  | r0 :: rows, h, 0, r, hi, j, hj => by
    simp only [List.getElem?_cons_zero, Option.some.injEq] at hi
    subst hi
    rw [List.flatten_cons, Nat.zero_mul, Nat.zero_add, List.getElem?_append_left (by rw [h r0 (by simp)]; exact hj)]
  | r0 :: rows, h, i + 1, r, hi, j, hj => by
    have h0 := h r0 (by simp)
    rw [List.flatten_cons, List.getElem?_append_right (by rw [h0, Nat.add_mul]; omega), h0]
    have : (i + 1) * size + j - size = i * size + j := by rw [Nat.add_mul]; omega
    rw [this]
    exact get_rows (fun r hr => h r (by simp [hr])) (by simpa using hi) j hj
/-- how many elements a row of one's own has -/
theorem Own.count {w : World} {base : Nat} {e : TypeId} {size : Nat} {p : Option Addr} {l c : Nat} {rows : List (List Value)} (h : Own w base e size p l c rows.flatten) (hr : ∀ r ∈ rows, r.length = size) (hs : 0 < size) :
    l = rows.length := by
  have := h.len
  rw [length_rows hr] at this
  exact (Nat.eq_of_mul_eq_mul_right hs this).symm
/-- a row of one's own, as a slice that is read -/
theorem Own.at {w : World} {base : Nat} {e : TypeId} {size : Nat} {p : Option Addr} {l c : Nat} {rows : List (List Value)} (h : Own w base e size p l c rows.flatten) (hr : ∀ r ∈ rows, r.length = size) (hs : 0 < size)
    {i : Nat} {r : List Value} (hi : rows[i]? = some r) : ∃ b, p = some ⟨b, 0, none⟩ ∧ ∀ j, j < size → w.cell? ⟨b, i * size + j, none⟩ = r[j]? := by
  have hl := h.count hr hs
  have hlt := (List.getElem?_eq_some_iff.1 hi).1
  rcases h.cases with ⟨rfl, rfl, rfl, h0⟩ | ⟨b, cur, rfl, hb, hg, hle, hm, hs', ht⟩
  · omega
  · refine ⟨b, rfl, fun j hj => ?_⟩
    have hlt2 : i * size + j < l * size := by
      have : (i + 1) * size ≤ l * size := Nat.mul_le_mul_right _ (by omega)
      rw [Nat.add_mul] at this; omega
    rw [h.cell hlt2, get_rows hr hi j hj]
end Go.Ev
