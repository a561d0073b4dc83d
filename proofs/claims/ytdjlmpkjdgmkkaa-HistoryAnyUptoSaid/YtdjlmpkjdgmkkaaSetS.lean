/-
  SETS AS MAPS WITH STRUCT KEYS (map[K]struct{}): whether a key is there, and a new one. No program is named here.
-/
import Derived.Test.YtdjlmpkjdgmkkaaEq
import Derived.Test.YtdjlmpkjdgmkkaaMap
import Derived.DeepKeys3
namespace Go.Ev
open Go
set_option linter.unusedSimpArgs false
set_option linter.unusedVariables false

/-- block m of w is the set ks, its keys lying as f says -/
def SetAt {α : Type} (f : α → Value) (w : World) (m : Nat) (ks : List α) : Prop := ∃ arr clk, Has w m (.map arr clk) ∧ arr.toList.map (fun e : MapEntry => (e.key, e.val)) = ks.map fun s => (f s, Value.agg #[])
section
set_option linter.unusedSectionVars false
variable {α : Type} [DecidableEq α] {f : α → Value} {P : Program} {k : TypeId} {w w' : World} {m : Nat} {ks : List α}
theorem SetAt.keep {S : Nat → Prop} (h : SetAt f w m ks) (hk : Keep S w w') (hS : ¬ S m) : SetAt f w' m ks := by
  obtain ⟨arr, clk, hb, ho⟩ := h
  exact ⟨arr, clk, hk.has hb hS, ho⟩
theorem SetAt.lt (h : SetAt f w m ks) : m < w.heap.size := by
  obtain ⟨arr, clk, hb, ho⟩ := h
  exact hb.lt
theorem SetAt.ne {b : Nat} (h : SetAt f w m ks) {c : Array Value} {t : TypeId} {g : Nat × Nat} (hb : Has w b (.cells c t g)) : m ≠ b := by
  obtain ⟨arr, clk, hm, ho⟩ := h
  exact hm.ne hb (by simp)
theorem run_findS (L : WideMaps.KeyLaw P k) (hf : ∀ s : α, s ∈ ks → ∃ l, keyOf P k (f s) = some l) (hi : ∀ s t, f s = f t → s = t) {arr : Array MapEntry}
    (h : arr.toList.map (fun e : MapEntry => (e.key, e.val)) = ks.map fun s => (f s, Value.agg #[])) {x : α} {lx : Lit} (hx : keyOf P k (f x) = some lx) :
    ∃ r, (Instr.findKey k (f x) arr.toList).run P w = .ok r w ∧ ((r = none ∧ x ∉ ks) ∨ (∃ j, r = some (j, .agg #[]) ∧ x ∈ ks)) := by
  have hall : ∀ e ∈ arr.toList, ∃ s ∈ ks, e.key = f s ∧ e.val = .agg #[] := by
    intro e he
    have : (e.key, e.val) ∈ arr.toList.map (fun e : MapEntry => (e.key, e.val)) := List.mem_map.2 ⟨e, he, rfl⟩
    rw [h] at this
    obtain ⟨s, hs, e2⟩ := List.mem_map.1 this
    simp only [Prod.mk.injEq] at e2
    exact ⟨s, hs, e2.1.symm, e2.2.symm⟩
  rcases L.find w hx arr.toList (fun e he => by obtain ⟨s, hs, e1, _⟩ := hall e he; rw [e1]; exact hf s hs) with ⟨h1, h2⟩ | ⟨j, e, h1, h2, h3⟩
  · refine ⟨_, h1, Or.inl ⟨rfl, fun hm => ?_⟩⟩
    have : (f x, Value.agg #[]) ∈ arr.toList.map (fun e : MapEntry => (e.key, e.val)) := by rw [h]; exact List.mem_map.2 ⟨x, hm, rfl⟩
    obtain ⟨e, he, e2⟩ := List.mem_map.1 this
    simp only [Prod.mk.injEq] at e2
    exact h2 e he e2.1
  · obtain ⟨s, hs, e1, e2⟩ := hall e (List.mem_of_getElem? h2)
    refine ⟨_, h1, Or.inr ⟨j, by rw [e2], ?_⟩⟩
    have := hi s x (by rw [← e1, h3])
    rw [← this]; exact hs
/-- '_, known := m[x]' -/
theorem run_lookupS {t et : TypeId} (ht : P.underlying t = some (.map k et)) (hz : ∀ w, (zeroValue et).run P w = .ok (.agg #[]) w) (L : WideMaps.KeyLaw P k) (hf : ∀ s : α, s ∈ ks → ∃ l, keyOf P k (f s) = some l) (hi : ∀ s t, f s = f t → s = t)
    (h : SetAt f w m ks) {x : α} {lx : Lit} (hx : keyOf P k (f x) = some lx) :
    ∃ g : Bool, (g = true ↔ x ∈ ks) ∧ (Instr.lookup t (.map (some m)) (f x) true).run P w = .ok (.tuple #[.agg #[], .bool g]) w := by
  refine ⟨decide (x ∈ ks), by simp, ?_⟩
  obtain ⟨arr, clk, hb, ho⟩ := h
  obtain ⟨r, hr, hc⟩ := run_findS (w := w) L hf hi ho hx
  simp only [Instr.lookup, Sem.run_bind, run_dr_underlying ht, Result.andThen_ok, run_getObj_map hb, Sem.run_pure, L.check _ _ hx, hr]
  rcases hc with ⟨rfl, hn⟩ | ⟨j, rfl, hm⟩
  · simp only [Sem.run_bind, hz, Result.andThen_ok, Sem.run_pure, if_true]
    rw [decide_eq_false hn]
  · simp only [Sem.run_bind, Result.andThen_ok, Sem.run_pure, if_true]
    rw [decide_eq_true hm]
/-- 'm[x] = struct{}{}', of a new x -/
theorem run_setS {t et : TypeId} (ht : P.underlying t = some (.map k et)) (L : WideMaps.KeyLaw P k) (hf : ∀ s : α, s ∈ ks → ∃ l, keyOf P k (f s) = some l) (hi : ∀ s t, f s = f t → s = t)
    (h : SetAt f w m ks) {x : α} {lx : Lit} (hx : keyOf P k (f x) = some lx) (hn : x ∉ ks) :
    ∃ o, (Instr.mapUpdate t (.map (some m)) (f x) (.agg #[])).run P w = .ok () (w.upd m o) ∧ SetAt f (w.upd m o) m (ks ++ [x]) := by
  obtain ⟨arr, clk, hb, ho⟩ := h
  obtain ⟨r, hr, hc⟩ := run_findS (w := w) L hf hi ho hx
  rcases hc with ⟨rfl, _⟩ | ⟨j, rfl, hm⟩
  · refine ⟨.map (arr.push { key := f x, val := .agg #[], born := clk }) (clk + 1), ?_, _, _, hb.upd_same _, ?_⟩
    · simp only [Instr.mapUpdate, Sem.run_bind, run_dr_underlying ht, Result.andThen_ok, run_getObj_map hb, L.check _ _ hx, hr, run_setObj_map hb]
    · simp [ho]
  · exact absurd hm hn
theorem SetAt.new (f : α → Value) (w : World) : SetAt f (w.alloc (.map #[] 0)) w.heap.size [] := ⟨_, _, Has.new _ _, rfl⟩
end
end Go.Ev
