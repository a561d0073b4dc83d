/-
  bytes.Equal.
-/
import Derived.Test.YthhimblbnnafkaaGreatPack
import Derived.Laws.BytesArg
namespace Go.Proofs
open Go Go.Ev
set_option linter.unusedSimpArgs false
set_option linter.unusedVariables false
set_option maxRecDepth 100000
theorem bin_str (s t : ByteArray) (w : World) : (binOp .eql 9 (.string s) (.string t)).run Tryz.prog w = .ok (.bool (s.toList == t.toList)) w := by kernel_rfl
theorem EqB_str {x y : Operand} {s t : ByteArray} {C : World → Prop} {K : Bool → Prop} (hK : K (s.toList == t.toList)) : EqB Tryz.prog .eql 9 x y (.string s) (.string t) C K := by
  refine ⟨s.toList == t.toList, fun w _ => ?_, hK⟩
  have hg : Tryz.prog.eqGuardType Tryz.prog.depth 9 = false := by kernel_rfl
  have := bin_str s t w
  simp only [eqGuard, Sem.run_bind, run_program, hg, Bool.not_false, if_true, Result.andThen_ok, this]
  try simp [Sem.run_bind, Sem.run_pure, run_program, hg, this]
theorem strOfNums_inj {xs ys : List Int} (hx : ∀ x ∈ xs, 0 ≤ x ∧ x ≤ 255) (hy : ∀ x ∈ ys, 0 ≤ x ∧ x ≤ 255) (h2 : (strOfNums xs).data.toList = (strOfNums ys).data.toList) : xs = ys := by
  have e : ∀ l : List Int, (strOfNums l).data.toList = l.map fun n => n.toNat.toUInt8 := fun l => by simp [strOfNums]
  simp only [e] at h2
  clear e
  induction xs generalizing ys with
  | nil => cases ys with
    | nil => rfl
    | cons y ys => simp at h2
  | cons x xs ih => cases ys with
    | nil => simp at h2
    | cons y ys =>
      simp only [List.map_cons, List.cons.injEq] at h2
      have h3 := congrArg UInt8.toNat h2.1
      have a := hx x (by simp)
      have b := hy y (by simp)
      have c : ∀ n : Nat, n < 256 → (n.toUInt8).toNat = n := fun n hn => by
        show (UInt8.ofNat n).toNat = n
        rw [UInt8.toNat_ofNat', Nat.mod_eq_of_lt hn]
      rw [c _ (by omega), c _ (by omega)] at h3
      rw [show x = y by omega, ih (fun z hz => hx z (by simp [hz])) (fun z hz => hy z (by simp [hz])) h2.2]
section calls
variable {w : World} {p q : Option Addr} {l m c d : Nat} {xs ys : List Int} {R : Value → World → Prop}
theorem conv_by (h : SlL byLay w p l xs) : (convert 22 9 (.slice p l c)).run Tryz.prog w = .ok (.string (strOfNums xs)) w := by
  by_cases h0 : 0 < l
  · obtain ⟨b, o, rfl, hc⟩ := h.cells h0
    refine run_convert_bytes_arg (P := Tryz.prog) w 22 5 (by kernel_rfl) (by kernel_rfl) b o l c xs h.1.symm (fun i hi => hc i _ ?_) 9 (by kernel_rfl)
    have hlt : i < xs.length := by have := h.1; omega
    rw [by_rows, List.getElem?_map, List.getElem?_eq_getElem hlt, List.getD_eq_getElem?_getD, List.getElem?_eq_getElem hlt]; rfl
  · have hz : l = 0 := by omega
    have hxs : xs = [] := List.eq_nil_of_length_eq_zero (by rw [← h.1]; exact hz)
    subst hz hxs
    cases p with
    | none =>
      have := run_convert_bytes_nil (P := Tryz.prog) w 22 5 (by kernel_rfl) (by kernel_rfl) 0 c 9 (by kernel_rfl)
      rw [this]; rfl
    | some a =>
      rw [run_convert_bytes_string w _ _ 5 _ 0 c (by kernel_rfl) (by kernel_rfl) (by kernel_rfl)]
      have := run_bytesToString (P := Tryz.prog) w a 0 c [] (by rfl)
      rw [this]; rfl
theorem b_Equal (h1 : SlL byLay w p l xs) (h2 : SlL byLay w q m ys) (hx : ∀ x ∈ xs, 0 ≤ x ∧ x ≤ 255) (hy : ∀ x ∈ ys, 0 ≤ x ∧ x ≤ 255) (hK : ∀ g : Bool, (g = true ↔ xs = ys) → R (.bool g) w) : CallV Tryz.prog 253 #[.slice p l c, .slice q m d] w R := by
  apply C_bytes_Equal
  unfold F_bytes_Equal
  refine DoQ_of (fun dd => conv_by (h1.keepB (S := fun _ => False) (Keep.drew _ _ dd) (by simp))) ?_
  refine OpT_str.2 ?_
  refine DoQ_of (fun dd => conv_by (h2.keepB (S := fun _ => False) (Keep.drew _ _ dd) (by simp))) ?_
  refine OpT_str.2 ?_
  refine EqB_str (Ret_nil.2 (hK _ ?_))
  constructor
  · intro h
    rw [ByteArray.toList_eq, ByteArray.toList_eq] at h
    exact strOfNums_inj hx hy (eq_of_beq h)
  · rintro rfl
    simp
end calls
end Go.Proofs
