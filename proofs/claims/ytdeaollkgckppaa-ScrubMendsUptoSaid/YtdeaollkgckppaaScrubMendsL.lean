/-
  ScrubMends, lifted: of every input whose bulk is at most 1048576 the law says true, and what was there stays as it was.
-/
import Derived.Test.YtdeaollkgckppaaMendX
import Derived.Test.YtdeaollkgckppaaLift2
import Derived.Test.YtdeaollkgckppaaArgs9
namespace Go.Proofs.Ytdeaollkgckppaa.scrubMends
open Go Go.Ev Go.RowKit Go.Proofs Go.ChangeShapes Go.WideShapes Go.ChangeAt
set_option linter.unusedVariables false
set_option maxRecDepth 100000
theorem own : ownKnob Try.prog.godebug = none := by kernel_rfl

theorem contract (H : Type) (enc : TypeId × Value → H) (W : World) (base : Nat) (args : Array Value) (ds gs : List (DataW H)) (before : List MemPlace) (hk : Rows.uptoSmall H (ds ++ gs) = true)
    (hval : ∀ (j : Nat) t v, Try.f9.params[j]? = some t → args[j]? = some v → Value.okWide Try.prog W .any base t v)
    (hW : DataW.Whole enc Try.prog Try.f9.params.toList Rows.scrubMendsSpec.vars false W args.toList ds gs before) :
    Calls Try.prog 9 args W fun e W' => ∃ v, e = .returned v ∧ Rows.scrubMendsSpec.post enc Try.prog Try.f9 false true false false W args v W' := by
  have hW' := hW
  obtain ⟨p, q, hA0, hV, rfl, hfz, hnd⟩ := hW
  have hA : DataW.TrodAll enc Try.prog W 0 (fun _ => true) true Try.f9.params.toList args.toList ds p := hA0
  rw [Try.params9] at hA hval
  obtain ⟨v0, vs0, d0, ds0, pp0, q0, hargs, rfl, rfl, h0, r0⟩ := trodAll_cons hA
  obtain ⟨v1, vs1, d1, ds1, pp1, q1, rfl, rfl, rfl, h1, r1⟩ := trodAll_cons r0
  obtain ⟨v2, vs2, d2, ds2, pp2, q2, rfl, rfl, rfl, h2, r2⟩ := trodAll_cons r1
  obtain ⟨v3, vs3, d3, ds3, pp3, q3, rfl, rfl, rfl, h3, r3⟩ := trodAll_cons r2
  obtain ⟨v4, vs4, d4, ds4, pp4, q4, rfl, rfl, rfl, h4, r4⟩ := trodAll_cons r3
  obtain ⟨rfl, rfl, rfl⟩ := trodAll_nil r4
  obtain rfl : args = #[v0, v1, v2, v3, v4] := by cases args; simp_all
  obtain ⟨a0, rfl, rfl, rfl, w0⟩ := open_int (t := 5) (k := .u8) (by kernel_rfl) (hval 0 5 v0 rfl rfl) h0
  obtain ⟨a1, rfl, rfl, rfl, w1⟩ := open_int (t := 5) (k := .u8) (by kernel_rfl) (hval 1 5 v1 rfl rfl) h1
  obtain ⟨a2, rfl, rfl, rfl, w2⟩ := open_int (t := 5) (k := .u8) (by kernel_rfl) (hval 2 5 v2 rfl rfl) h2
  obtain ⟨p3, l3, c3, g3, rfl, lc3, cm3, s3, f3, b3⟩ := sl_openB (t := 72) (e := 5) (ks := [.int .u8]) (by kernel_rfl) (by kernel_rfl) (by kernel_rfl) (by decide) (hval 3 72 v3 rfl rfl) h3
  have hb3 := small_mem hk (d := d3) (by simp)
  obtain ⟨p4, l4, c4, g4, rfl, lc4, cm4, s4, f4, b4⟩ := sl_openB (t := 93) (e := 94) (ks := [.int .u16]) (by kernel_rfl) (by kernel_rfl) (by kernel_rfl) (by decide) (hval 4 93 v4 rfl rfl) h4
  have hb4 := small_mem hk (d := d4) (by simp)
  refine Calls.mono (have r := fun (x : Int) (h : (Lit.wf (.int .u8 x)) = true) => (show 0 ≤ x ∧ x ≤ 255 by simp [Lit.wf, IntKind.min, IntKind.max, IntKind.signed, IntKind.bits] at h; omega); have ⟨ys, hy, hby⟩ := bytes_list s3 f3; have ⟨zs, hz, hhw⟩ := hws_list s4 f4; mend_walk (lc := c3) (hc' := c4) (r _ w0) (r _ w1) (r _ w2) hy hby hz hhw (by omega)) fun e W' ⟨v, he, hv, hg⟩ => ?_
  subst he hv
  exact ⟨_, rfl, post_below hW' (by kernel_rfl) rfl (by kernel_rfl) rfl rfl (by decide +kernel) hg⟩

theorem lifted (os : Os) (started : os.Started) (H : Type) (enc : TypeId × Value → H) (F : Stop.Interp) :
    ReturnsInHanded {} Try.checked os 9 .any ((Rows.OpenSpec.upto Rows.scrubMendsSpec).pre6 enc Try.prog Try.f9 Rows.scrubMendsUptoRow.domain false) (((Rows.OpenSpec.upto Rows.scrubMendsSpec).at F).post enc Try.prog Try.f9 false true false false) := by
  refine returnsInHanded_of_cond (C := Try.checked) (s := Rows.OpenSpec.upto Rows.scrubMendsSpec) (k := Rows.uptoSmall) rfl own started (by kernel_rfl) Try.func9
    (OpenSpec.witness (enc := enc) (C := Try.checked) (s := Rows.OpenSpec.upto Rows.scrubMendsSpec) (k := Rows.uptoSmall) rfl false ⟨#[], #[.int .u8 0, .int .u8 0, .int .u8 0, .slice none 0 0, .slice none 0 0], []⟩ 8 (by kernel_rfl) (by kernel_rfl) (by kernel_rfl)
      (x := ([.lit (.int .u8 0), .lit (.int .u8 0), .lit (.int .u8 0), .nil, .nil], [], [])) (by kernel_rfl) rfl (by kernel_rfl)) ?_
  intro W base args ds gs before hval hW _ hk _
  exact contract H enc W base args ds gs before hk hval hW

theorem over : Rows.scrubMendsUptoRow.holds Try.pinned (Rows.OpenSpec.upto Rows.scrubMendsSpec) :=
  OpenClaim.holds_of_cond 9 Try.f9 rfl rfl rfl rfl rfl rfl rfl ⟨rfl, rfl, rfl, rfl, rfl⟩ rfl rfl rfl rfl rfl (by kernel_rfl) Try.func9 (by kernel_rfl)
    (of_decide_eq_true (by kernel_rfl)) (by unfold Func.isWrapper; first | (rw [if_pos (by decide +kernel)]; kernel_rfl) | (rw [if_neg (by decide +kernel)]; exact ⟨rfl, rfl⟩))
    (fun os started H enc _ F => lifted os started H enc F)

theorem proved : Rows.ScrubMendsUptoSaid :=
  over
end Go.Proofs.Ytdeaollkgckppaa.scrubMends
