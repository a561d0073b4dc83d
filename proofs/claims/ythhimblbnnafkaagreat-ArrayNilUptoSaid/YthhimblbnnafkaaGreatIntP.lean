/-
  PUTS OF A JOURNAL, plain: what is seen behind they have been written, once or again.
-/
import Derived.Test.YthhimblbnnafkaaGreatApplyP
namespace Go.Proofs
open Go Go.Ev
set_option linter.unusedSimpArgs false
set_option linter.unusedVariables false
set_option maxRecDepth 100000

/-- the put with its sum anew -/
def sealP (x : PutS) : PutS := ⟨x.plc, ⟨x.cel.data, sumS x.plc.at_ x.cel.data⟩⟩
instance : DecidableEq Plc := fun a b => by
  cases a; cases b
  simp only [Plc.mk.injEq]
  infer_instance
/-- the last data for a place, of a list -/
def lastD (p : Plc) : List PutS → Sec → Sec
  | [], f => f
  | x :: xs, f => lastD p xs (if x.plc = p then x.cel.data else f)
theorem lastD_append (p : Plc) : ∀ (xs ys : List PutS) (f : Sec), lastD p (xs ++ ys) f = lastD p ys (lastD p xs f)
  | [], _, _ => rfl
  | x :: xs, ys, f => lastD_append p xs ys _
theorem lastD_ok {p : Plc} : ∀ (xs : List PutS) (f : Sec), SecOk f → (∀ x ∈ xs, SecOk x.cel.data) → SecOk (lastD p xs f)
  | [], _, h, _ => h
  | x :: xs, f, h, hx => lastD_ok xs _ (by split; exact hx x (by simp); exact h) fun y hy => hx y (by simp [hy])
theorem putV_last (p : Plc) : ∀ (xs : List PutS) (v : Int → Int → Option Sec) (f : Sec), v p.dk p.at_ = some f → putV (xs.map sealP) v p.dk p.at_ = some (lastD p xs f)
  | [], _, _, h => h
  | x :: xs, v, f, h => by
    rw [List.map_cons, putV_cons]
    refine putV_last p xs _ _ ?_
    show (if p.dk = (sealP x).plc.dk ∧ p.at_ = (sealP x).plc.at_ then some (sealP x).cel.data else v p.dk p.at_) = some (if x.plc = p then x.cel.data else f)
    by_cases e : x.plc = p
    · rw [if_pos e, if_pos ⟨by rw [← e]; rfl, by rw [← e]; rfl⟩]; rfl
    · rw [if_neg e, if_neg fun h => e ?_, h]
      have h1 : p.dk = x.plc.dk := h.1
      have h2 : p.at_ = x.plc.at_ := h.2
      cases x with
      | mk q c =>
        cases q; cases p
        simp only at h1 h2
        rw [h1, h2]
/-- the data of a put and of those behind it for its place -/
theorem putV_at {xs : List PutS} {i : Nat} {x : PutS} (hi : xs[i]? = some x) (v : Int → Int → Option Sec) : putV (xs.map sealP) v x.plc.dk x.plc.at_ = some (lastD x.plc (xs.drop (i + 1)) x.cel.data) := by
  induction xs generalizing i v with
  | nil => cases hi
  | cons y ys ih =>
    rw [List.map_cons, putV_cons]
    cases i with
    | zero =>
      cases hi
      rw [List.drop_succ_cons, List.drop_zero]
      exact putV_last _ ys _ _ (if_pos ⟨rfl, rfl⟩)
    | succ n =>
      rw [List.drop_succ_cons]
      exact ih hi _
end Go.Proofs
