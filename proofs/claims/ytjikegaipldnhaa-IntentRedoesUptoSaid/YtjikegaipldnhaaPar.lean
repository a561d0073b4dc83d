/-
  PARITY: add, sums, width, Encode.
-/
import Derived.Test.YtjikegaipldnhaaConcB
import Derived.Test.YtjikegaipldnhaaGfM
import Derived.Test.YtjikegaipldnhaaDiskM
namespace Go.Proofs
open Go Go.Ev
set_option linter.unusedSimpArgs false
set_option linter.unusedVariables false
set_option maxRecDepth 100000

theorem get_secB (F : Sec) : ∀ {i : Nat} (h : i < 16), (secB F)[i]? = some (F ⟨i, h⟩)
  | 0, _ => rfl | 1, _ => rfl | 2, _ => rfl | 3, _ => rfl | 4, _ => rfl | 5, _ => rfl | 6, _ => rfl | 7, _ => rfl
  | 8, _ => rfl | 9, _ => rfl | 10, _ => rfl | 11, _ => rfl | 12, _ => rfl | 13, _ => rfl | 14, _ => rfl | 15, _ => rfl
  | n + 16, h => absurd h (by omega)
theorem len_secB (F : Sec) : (secB F).length = 16 := rfl
theorem secB_ext {xs : List Int} {F : Sec} (hl : xs.length = 16) (h : ∀ i (hi : i < 16), xs[i]? = some (F ⟨i, hi⟩)) : xs = secB F := by
  apply List.ext_getElem?
  intro i
  by_cases hi : i < 16
  · rw [h i hi, get_secB F hi]
  · rw [List.getElem?_eq_none (by omega), List.getElem?_eq_none (by rw [len_secB]; omega)]
theorem set_secB (F : Sec) (i : Nat) (v : Int) : (secB F).set i v = secB fun k => if k.val = i then v else F k := by
  refine secB_ext (by simp [len_secB]) fun j hj => ?_
  rw [List.getElem?_set]
  by_cases h : i = j
  · subst h
    rw [if_pos rfl, if_pos (by rw [len_secB]; exact hj)]
    simp
  · rw [if_neg h, get_secB F hj]
    simp only
    rw [if_neg (fun e => h e.symm)]

/-! ### plain -/
def xadd (g : Nat) (f y : Sec) : Sec := fun k => (((f k).toNat ^^^ gmN g (y k).toNat : Nat) : Int)
def xaddO (g : Nat) (f : Sec) : Option Sec → Sec
  | none => f
  | some y => xadd g f y
theorem nat_of {x : Int} (h : 0 ≤ x ∧ x ≤ 255) : x = ((x.toNat : Nat) : Int) ∧ x.toNat < 256 := by omega
theorem xadd_ok {g : Nat} {f y : Sec} (hg : g < 256) (hf : SecOk f) (hy : SecOk y) : SecOk (xadd g f y) := fun k => by
  have h1 := nat_of (hf k)
  have := xor_lt8 h1.2 (gmN_lt (b := (y k).toNat) hg)
  unfold xadd
  omega
def ColOk : Option Sec → Prop
  | none => True
  | some y => SecOk y
theorem xaddO_ok {g : Nat} {f : Sec} {C : Option Sec} (hg : g < 256) (hf : SecOk f) (hc : ColOk C) : SecOk (xaddO g f C) := by
  cases C with
  | none => exact hf
  | some y => exact xadd_ok hg hf hc
/-- the sum of the first k columns, each times its factor -/
def sumI (co : Nat → Nat) (Cs : List (Option Sec)) : Nat → Sec
  | 0 => sec []
  | k + 1 => xaddO (co k) (sumI co Cs k) (Cs.getD k none)
def sumP (Cs : List (Option Sec)) : Sec := sumI (fun _ => 1) Cs Cs.length
def sumQ (Cs : List (Option Sec)) : Sec := sumI expN Cs Cs.length
theorem sec0_ok : SecOk (sec []) := sec_ok (by simp)
theorem sumI_ok {co : Nat → Nat} {Cs : List (Option Sec)} (hco : ∀ i, co i < 256) (hc : ∀ C ∈ Cs, ColOk C) : ∀ k, SecOk (sumI co Cs k)
  | 0 => sec0_ok
  | k + 1 => xaddO_ok (hco k) (sumI_ok hco hc k) (by
      by_cases h : k < Cs.length
      · rw [List.getD_eq_getElem?_getD, List.getElem?_eq_getElem h]; exact hc _ (List.getElem_mem _)
      · rw [List.getD_eq_getElem?_getD, List.getElem?_eq_none (by omega)]; exact True.intro)
theorem expN_lt (i : Nat) : expN i < 256 := powN_lt (by omega)
def lostN (Cs : List (Option Sec)) : Nat := (Cs.filter Option.isNone).length
theorem lostN_append (a b : List (Option Sec)) : lostN (a ++ b) = lostN a + lostN b := by unfold lostN; rw [List.filter_append, List.length_append]
theorem lostN_le (Cs : List (Option Sec)) : lostN Cs ≤ Cs.length := List.length_filter_le _ _

theorem ColAt.keepB {w w' : World} {S : Nat → Prop} {h : Option Addr × Nat × Nat} : ∀ {C : Option Sec}, ColAt w h C → Keep S w w' → (∀ k, k < w.heap.size → ¬ S k) → ColAt w' h C
  | none, hc, _, _ => hc
  | some f, ⟨h1, h2, h3, h4⟩, k, hS => ⟨h1, h2, h3, h4.keepB k hS⟩
theorem SlL.blk_lt {α : Type} {L : Lay α} {w : World} {b o l : Nat} {xs : List α} (h : SlL L w (some ⟨b, o, none⟩) l xs) (h0 : 0 < l) : b < w.heap.size := by
  obtain ⟨b', o', hp, hc⟩ := h.2 0 (xs[0]'(by have := h.1; omega)) (List.getElem?_eq_getElem _)
  cases hp
  have := hc 0 L.pos
  refine Classical.byContradiction fun hn => ?_
  have hnone : w.heap[b]? = none := Array.getElem?_eq_none (by omega)
  unfold World.cell? at this
  have hs : ∃ v, (L.row (xs[0]'(by have := h.1; omega)))[0]? = some v := ⟨_, List.getElem?_eq_getElem (by rw [L.len]; exact L.pos)⟩
  obtain ⟨v, hv⟩ := hs
  simp_all
/-- the columns, as they lie in memory -/
structure Cols (w : World) (p : Option Addr) (l : Nat) (hs : List (Option Addr × Nat × Nat)) (Cs : List (Option Sec)) : Prop where
  sl : SlL hLay w p l hs
  len : hs.length = Cs.length
  at_ : ∀ (i : Nat) h C, hs[i]? = some h → Cs[i]? = some C → ColAt w h C
  ok : ∀ C ∈ Cs, ColOk C
theorem Cols.keepB {w w' : World} {S : Nat → Prop} {p : Option Addr} {l : Nat} {hs : List (Option Addr × Nat × Nat)} {Cs : List (Option Sec)} (h : Cols w p l hs Cs) (k : Keep S w w') (hS : ∀ k, k < w.heap.size → ¬ S k) : Cols w' p l hs Cs :=
  ⟨h.sl.keepB k hS, h.len, fun i hh C h1 h2 => (h.at_ i hh C h1 h2).keepB k hS, h.ok⟩
section calls
variable {w : World} {R : Value → World → Prop}
theorem run_mk16 (w : World) : ∃ w', (Instr.makeSlice 22 (.int .i64 16) (.int .i64 16)).run Try.prog w = .ok (.slice (some ⟨w.heap.size, 0, none⟩) 16 16) w' ∧ OwnL byLay w' w.heap.size 5 (some ⟨w.heap.size, 0, none⟩) 16 16 (secB (sec [])) ∧ Keep (fun _ => False) w w' ∧ w'.heap.size = w.heap.size + 1 :=
  run_makeL (P := Try.prog) (L := byLay) (x0 := 0) (t := 22) (e := 5) (i := (Try.prog.info? 5).get (by kernel_rfl)) (z := ((Try.prog.info? 5).get (by kernel_rfl)).zero.get (by kernel_rfl)) w (by kernel_rfl) (by kernel_rfl) (by kernel_rfl) (by kernel_rfl) (by kernel_rfl) 16 (by decide) (by rw [show ((Try.prog.info? 5).get (by kernel_rfl)).bytes = 1 by kernel_rfl]; decide) (by decide)
end calls
end Go.Proofs
