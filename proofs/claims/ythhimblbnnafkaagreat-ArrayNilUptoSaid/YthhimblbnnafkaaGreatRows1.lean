/-
  append of one element.
-/
import Derived.Test.YthhimblbnnafkaaGreatRowF
namespace Go.Proofs
open Go Go.Ev
set_option linter.unusedSimpArgs false
set_option linter.unusedVariables false
set_option maxRecDepth 100000
theorem run_appendF1 {P : Program} {α : Type} {L : Lay α} {t e : TypeId} {bytes : Nat} {w : World} {base : Nat} {p : Option Addr} {l c : Nat} {xs : List α} (T : LayT P L t e bytes) (h : OwnL L w base e p l c xs) {a : Nat} {y : α} {cs : Array Value} {f : Nat × Nat} {e2 : TypeId} (ha : Has w a (.cells cs e2 f)) (hcs : cs = (L.row y).toArray) {ty : TypeId}
    (hl : ((l + 1) + (l + 1) / 4 + 192) * bytes ≤ 281474976710656) (hm : l + 1 ≤ maxLen) (hbase : base ≤ w.heap.size) {c2 : Nat} :
    ∃ p' c' w', (Builtin.append_ #[t, t] ty #[.slice p l c, .slice (some ⟨a, 0, none⟩) 1 c2]).run P w = .ok (.slice p' (l + 1) c') w' ∧ OwnL L w' base e p' (l + 1) c' (xs ++ [y]) ∧ Keep (fun k => p = some ⟨k, 0, none⟩) w w' ∧ (p' = p ∨ p' = some ⟨w.heap.size, 0, none⟩) := by
  refine run_appendF T h (ys := [y]) ⟨rfl, fun i x hi => ?_⟩ hl hm hbase
  match i, hi with
  | 0, hi =>
    cases hi
    exact ⟨a, 0, rfl, fun j hj => by rw [cell_of ha, hcs]; simp⟩
  | i + 1, hi => simp at hi
end Go.Proofs
