/-
  ARGUMENTS AS CELLS: puts.
-/
import Derived.Test.YtjikegaipldnhaaLift2
import Derived.Test.YtjikegaipldnhaaIntP
namespace Go.Proofs
open Go Go.Ev Go.RowKit
set_option linter.unusedSimpArgs false
set_option linter.unusedVariables false
set_option maxRecDepth 100000

instance : Inhabited PutS := ⟨⟨⟨0, 0⟩, ⟨sec [], 0⟩⟩⟩
theorem pu_of {cs : List Value} (h : Fits ([.int .i64, .int .i64] ++ (List.replicate 16 (.int .u8) ++ [.int .u32])) cs) : ∃ x : PutS, cs = puLay.row x ∧ SecOk x.cel.data := by
  obtain ⟨_, _, rfl, ⟨a, rfl, a1, a2⟩, q1⟩ := fits_cons h
  obtain ⟨_, _, rfl, ⟨b, rfl, b1, b2⟩, q2⟩ := fits_cons q1
  obtain ⟨_, _, rfl, ⟨x0, rfl, p0⟩, q3⟩ := fits_cons q2
  obtain ⟨_, _, rfl, ⟨x1, rfl, p1⟩, q4⟩ := fits_cons q3
  obtain ⟨_, _, rfl, ⟨x2, rfl, p2⟩, q5⟩ := fits_cons q4
  obtain ⟨_, _, rfl, ⟨x3, rfl, p3⟩, q6⟩ := fits_cons q5
  obtain ⟨_, _, rfl, ⟨x4, rfl, p4⟩, q7⟩ := fits_cons q6
  obtain ⟨_, _, rfl, ⟨x5, rfl, p5⟩, q8⟩ := fits_cons q7
  obtain ⟨_, _, rfl, ⟨x6, rfl, p6⟩, q9⟩ := fits_cons q8
  obtain ⟨_, _, rfl, ⟨x7, rfl, p7⟩, q10⟩ := fits_cons q9
  obtain ⟨_, _, rfl, ⟨x8, rfl, p8⟩, q11⟩ := fits_cons q10
  obtain ⟨_, _, rfl, ⟨x9, rfl, p9⟩, q12⟩ := fits_cons q11
  obtain ⟨_, _, rfl, ⟨xa, rfl, pa⟩, q13⟩ := fits_cons q12
  obtain ⟨_, _, rfl, ⟨xb, rfl, pb⟩, q14⟩ := fits_cons q13
  obtain ⟨_, _, rfl, ⟨xc, rfl, pc⟩, q15⟩ := fits_cons q14
  obtain ⟨_, _, rfl, ⟨xd, rfl, pd⟩, q16⟩ := fits_cons q15
  obtain ⟨_, _, rfl, ⟨xe, rfl, pe⟩, q17⟩ := fits_cons q16
  obtain ⟨_, _, rfl, ⟨xf, rfl, pf⟩, q18⟩ := fits_cons q17
  obtain ⟨_, _, rfl, ⟨e, rfl, e1, e2⟩, q19⟩ := fits_cons q18
  cases fits_nil q19
  refine ⟨⟨⟨a, b⟩, ⟨sec [x0, x1, x2, x3, x4, x5, x6, x7, x8, x9, xa, xb, xc, xd, xe, xf], e⟩⟩, rfl, sec_ok ?_⟩
  intro x hx
  simp only [List.mem_cons, List.not_mem_nil, or_false] at hx
  rcases hx with rfl | rfl | rfl | rfl | rfl | rfl | rfl | rfl | rfl | rfl | rfl | rfl | rfl | rfl | rfl | rfl <;> assumption
theorem puts_list {W : World} {xp : Option Addr} {l : Nat} {g : Nat → List Value} (h : Sl W 19 xp l g) (hf : ∀ i, i < l → Fits ([.int .i64, .int .i64] ++ (List.replicate 16 (.int .u8) ++ [.int .u32])) (g i)) : ∃ ps : List PutS, SlL puLay W xp l ps ∧ ∀ x ∈ ps, SecOk x.cel.data :=
  slL_ex h rfl hf fun cs hc => pu_of hc
end Go.Proofs
