/-
  The pair: the equality of two pointers.
-/
import Derived.Test.YtjikegaipldnhaaRam
import Derived.Test.YtjikegaipldnhaaFPair
import Derived.LaidEql
namespace Go.Proofs
open Go Go.Ev
set_option linter.unusedSimpArgs false
set_option linter.unusedVariables false
set_option maxRecDepth 100000

theorem equalIn_ptr {P : Program} (d : Nat) {t e : TypeId} {j : TypeInfo} {a b : Nat} {ca cb : Array Value} {ta tb : TypeId} {w : World} (hp : P.underlying t = some (.pointer e)) (hte : P.info? e = some j) (hsz : j.size ≠ 0) (hne : a ≠ b) (ha : Has w a (.cells ca ta (0, 0))) (hb : Has w b (.cells cb tb (0, 0))) :
    (Op.equalIn (d + 1) t (.pointer (some ⟨a, 0, none⟩)) (.pointer (some ⟨b, 0, none⟩))).run P w = .ok false w := by
  have hs := run_sameAddr_other (P := P) w (a := ⟨a, 0, none⟩) (b := ⟨b, 0, none⟩) (fun e => by injection e with e; exact hne e) ha hb
  simp [Op.equalIn, run_underlying hp, typeInfo, sizeOf, hte, hsz, hs]
theorem eql_ptr_gen {P : Program} {t e : TypeId} {j : TypeInfo} {a b : Nat} {ca cb : Array Value} {ta tb : TypeId} {w : World} (hp : P.underlying t = some (.pointer e)) (hte : P.info? e = some j) (hsz : j.size ≠ 0) (hne : a ≠ b) (ha : Has w a (.cells ca ta (0, 0))) (hb : Has w b (.cells cb tb (0, 0))) :
    (binOp .eql t (.pointer (some ⟨a, 0, none⟩)) (.pointer (some ⟨b, 0, none⟩))).run P w = .ok (.bool false) w := by
  have := equalIn_ptr 9999 hp hte hsz hne ha hb
  simp only [binOp]
  simp [Op.equal, Op.maxDepth, this]
theorem eql_ptr {a b : Nat} {ca cb : Array Value} {ta tb : TypeId} {w : World} (hne : a ≠ b) (ha : Has w a (.cells ca ta (0, 0))) (hb : Has w b (.cells cb tb (0, 0))) :
    (binOp .eql 27 (.pointer (some ⟨a, 0, none⟩)) (.pointer (some ⟨b, 0, none⟩))).run Try.prog w = .ok (.bool false) w := by
  have hm : (Try.prog.info? 110).map (·.size) = some 3 := by kernel_rfl
  cases hj : Try.prog.info? 110 with
  | none => rw [hj] at hm; cases hm
  | some j =>
    rw [hj] at hm
    have hz : j.size = 3 := Option.some.inj hm
    exact eql_ptr_gen (by kernel_rfl) hj (by rw [hz]; decide) hne ha hb
theorem EqB_ptr {a b : Nat} {ca cb : Array Value} {ta tb : TypeId} {w : World} {x y : Operand} {K : Bool → Prop} (hne : a ≠ b) (ha : Has w a (.cells ca ta (0, 0))) (hb : Has w b (.cells cb tb (0, 0))) (hK : K false) :
    EqB Try.prog .eql 27 x y (.pointer (some ⟨a, 0, none⟩)) (.pointer (some ⟨b, 0, none⟩)) (At w) K := by
  refine ⟨false, fun w' hw => ?_, hK⟩
  obtain ⟨d, rfl⟩ := hw
  have hg : Try.prog.eqGuardType Try.prog.depth 27 = false := by kernel_rfl
  have := eql_ptr (w := w.dr d) hne ha hb
  simp only [eqGuard, Sem.run_bind, run_program, hg, Bool.not_false, if_true, Result.andThen_ok, this]
  try simp [Sem.run_bind, Sem.run_pure, run_program, hg, this]
end Go.Proofs
