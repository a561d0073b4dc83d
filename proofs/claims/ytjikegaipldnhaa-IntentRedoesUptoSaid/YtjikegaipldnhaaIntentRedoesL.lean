/-
  IntentRedoes, lifted: of every input whose bulk is at most 1048576 the law says true, and what was there stays as it was.
-/
import Derived.Test.YtjikegaipldnhaaRedoX
import Derived.Test.YtjikegaipldnhaaLift2
import Derived.Test.YtjikegaipldnhaaArgsI
namespace Go.Proofs.Ytjikegaipldnhaa.intentRedoes
open Go Go.Ev Go.RowKit Go.Proofs Go.ChangeShapes Go.WideShapes Go.ChangeAt
set_option linter.unusedVariables false
set_option maxRecDepth 100000
theorem own : ownKnob Try.prog.godebug = none := by kernel_rfl

theorem contract (H : Type) (enc : TypeId × Value → H) (W : World) (base : Nat) (args : Array Value) (ds gs : List (DataW H)) (before : List MemPlace) (hk : Rows.uptoSmall H (ds ++ gs) = true)
    (hval : ∀ (j : Nat) t v, Try.f7.params[j]? = some t → args[j]? = some v → Value.okWide Try.prog W .any base t v)
    (hW : DataW.Whole enc Try.prog Try.f7.params.toList Rows.intentRedoesSpec.vars false W args.toList ds gs before) :
    Calls Try.prog 7 args W fun e W' => ∃ v, e = .returned v ∧ Rows.intentRedoesSpec.post enc Try.prog Try.f7 false true false false W args v W' := by
  have hW' := hW
  obtain ⟨p, q, hA0, hV, rfl, hfz, hnd⟩ := hW
  have hA : DataW.TrodAll enc Try.prog W 0 (fun _ => true) true Try.f7.params.toList args.toList ds p := hA0
  rw [Try.params7] at hA hval
  obtain ⟨v0, vs0, d0, ds0, pp0, q0, hargs, rfl, rfl, h0, r0⟩ := trodAll_cons hA
  obtain ⟨v1, vs1, d1, ds1, pp1, q1, rfl, rfl, rfl, h1, r1⟩ := trodAll_cons r0
  obtain ⟨v2, vs2, d2, ds2, pp2, q2, rfl, rfl, rfl, h2, r2⟩ := trodAll_cons r1
  obtain ⟨rfl, rfl, rfl⟩ := trodAll_nil r2
  obtain rfl : args = #[v0, v1, v2] := by cases args; simp_all
  obtain ⟨a0, rfl, rfl, rfl, w0⟩ := open_int (t := 5) (k := .u8) (by kernel_rfl) (hval 0 5 v0 rfl rfl) h0
  obtain ⟨p1, l1, c1, g1, rfl, lc1, cm1, s1, f1, b1⟩ := sl_openB (t := 49) (e := 85) (ks := ([.int .i64, .int .i64] ++ (List.replicate 16 (.int .u8) ++ [.int .u32]))) (by kernel_rfl) (by kernel_rfl) (by kernel_rfl) (by decide) (hval 1 49 v1 rfl rfl) h1
  have hb1 := small_mem hk (d := d1) (by simp)
  obtain ⟨a2, rfl, rfl, rfl, w2⟩ := open_int (t := 68) (k := .u32) (by kernel_rfl) (hval 2 68 v2 rfl rfl) h2
  refine Calls.mono (have r := fun (x : Int) (h : (Lit.wf (.int .u8 x)) = true) => (show 0 ≤ x ∧ x ≤ 255 by simp [Lit.wf, IntKind.min, IntKind.max, IntKind.signed, IntKind.bits] at h; omega); have ru := fun (x : Int) (h : (Lit.wf (.int .u32 x)) = true) => (show 0 ≤ x by simp [Lit.wf, IntKind.min, IntKind.max, IntKind.signed, IntKind.bits] at h; omega); have ⟨ps, hp, hd⟩ := puts_list s1 f1; redoes_walk (pc := c1) (r _ w0) hp hd (ru _ w2)) fun e W' ⟨v, he, hv, hg⟩ => ?_
  subst he hv
  exact ⟨_, rfl, post_below hW' (by kernel_rfl) rfl (by kernel_rfl) rfl rfl (by decide +kernel) hg⟩

theorem lifted (os : Os) (started : os.Started) (H : Type) (enc : TypeId × Value → H) (F : Stop.Interp) :
    ReturnsInHanded {} Try.checked os 7 .any ((Rows.OpenSpec.upto Rows.intentRedoesSpec).pre6 enc Try.prog Try.f7 Rows.intentRedoesUptoRow.domain false) (((Rows.OpenSpec.upto Rows.intentRedoesSpec).at F).post enc Try.prog Try.f7 false true false false) := by
  refine returnsInHanded_of_cond (C := Try.checked) (s := Rows.OpenSpec.upto Rows.intentRedoesSpec) (k := Rows.uptoSmall) rfl own started (by kernel_rfl) Try.func7
    (OpenSpec.witness (enc := enc) (C := Try.checked) (s := Rows.OpenSpec.upto Rows.intentRedoesSpec) (k := Rows.uptoSmall) rfl false ⟨#[], #[.int .u8 0, .slice none 0 0, .int .u32 0], []⟩ 8 (by kernel_rfl) (by kernel_rfl) (by kernel_rfl)
      (x := ([.lit (.int .u8 0), .nil, .lit (.int .u32 0)], [], [])) (by kernel_rfl) rfl (by kernel_rfl)) ?_
  intro W base args ds gs before hval hW _ hk _
  exact contract H enc W base args ds gs before hk hval hW

theorem over : Rows.intentRedoesUptoRow.holds Try.pinned (Rows.OpenSpec.upto Rows.intentRedoesSpec) :=
  OpenClaim.holds_of_cond 7 Try.f7 rfl rfl rfl rfl rfl rfl rfl ⟨rfl, rfl, rfl, rfl, rfl⟩ rfl rfl rfl rfl rfl (by kernel_rfl) Try.func7 (by kernel_rfl)
    (of_decide_eq_true (by kernel_rfl)) (by unfold Func.isWrapper; first | (rw [if_pos (by decide +kernel)]; kernel_rfl) | (rw [if_neg (by decide +kernel)]; exact ⟨rfl, rfl⟩))
    (fun os started H enc _ F => lifted os started H enc F)

theorem proved : Rows.IntentRedoesUptoSaid :=
  over
end Go.Proofs.Ytjikegaipldnhaa.intentRedoes
