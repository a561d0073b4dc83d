/-
  Scan: the records that bytes begin with.
-/
import Derived.Test.YthhimblbnnafkaaGreatUnpack
import Derived.Test.YthhimblbnnafkaaGreatRows1
namespace Go.Proofs
open Go Go.Ev
set_option linter.unusedSimpArgs false
set_option linter.unusedVariables false
set_option maxRecDepth 100000

def rLay : Lay Rec := ⟨19, recL, fun _ => rfl, one_recL, by decide⟩
instance (xs : List Int) : Decidable (unGood xs) := by unfold unGood; infer_instance
/-- the records, at most so many -/
def scanF : Nat → List Int → List Rec
  | 0, _ => []
  | n + 1, xs => if 37 ≤ xs.length ∧ unGood xs then unB xs :: scanF n (xs.drop 37) else []
def scanB (xs : List Int) : List Rec := scanF (xs.length + 1) xs
theorem rLayT : LayT Tryz.prog rLay 113 246 40 := ⟨by kernel_rfl, ⟨(Tryz.prog.info? 246).get (by kernel_rfl), ((Tryz.prog.info? 246).get (by kernel_rfl)).zero.get (by kernel_rfl), by kernel_rfl, by kernel_rfl, by kernel_rfl, by kernel_rfl, by kernel_rfl⟩⟩
theorem bsl_r1 (r : Rec) (w : World) : (Instr.buildSlice 113 1 #[(0, .agg (recV r))]).run Tryz.prog w = .ok (.slice (some ⟨w.heap.size, 0, none⟩) 1 1) (w.alloc (.cells (recV r) 246)) :=
  run_buildSlice w 113 246 1 _ (recV r) ((Tryz.prog.info? 246).get (by kernel_rfl)) (((Tryz.prog.info? 246).get (by kernel_rfl)).zero.get (by kernel_rfl)) (by kernel_rfl) (by kernel_rfl) (by kernel_rfl) (by decide +kernel) (by decide +kernel) (by kernel_rfl)
section calls
variable {w : World} {p : Option Addr} {l c : Nat} {xs : List Int} {R : Value → World → Prop}
theorem c_Scan (h : SlL byLay w p l xs) (hlm : l ≤ 1000000) (hlc : l ≤ c) (hby : By xs)
    (hK : ∀ p' c' w', OwnL rLay w' w.heap.size 246 p' (scanB xs).length c' (scanB xs) → Keep (fun _ => False) w w' → R (.tuple #[.slice p' (scanB xs).length c', .int .i64 (37 * ((scanB xs).length : Int))]) w') : CallV Tryz.prog 136 #[.slice p l c] w R := by
  apply C_codec_Scan
  unfold F_codec_Scan
  have hlen := h.1
  generalize hq : w.heap.size = q at *
  refine LoopC_of (σ := (Option Addr × Nat × Nat) × Int × Unit) (fun st w' => ∃ (k : Nat) (rs : List Rec), st.2.1 = ((37 * k : Nat) : Int) ∧ 37 * k ≤ l ∧ rs.length = k ∧ st.1.2.1 = k ∧ OwnL rLay w' q 246 st.1.1 k st.1.2.2 rs ∧ scanB xs = rs ++ scanF (l + 1 - k) (xs.drop (37 * k)) ∧ Keep (fun k => q ≤ k) w w')
    (fun st _ => (l - st.2.1).toNat) ⟨0, [], rfl, by omega, rfl, rfl, OwnL.nil, by unfold scanB; rw [← hlen]; rfl, Keep.refl _ _⟩ ?_
  rintro _ ⟨⟨p1, l1, c1⟩, i1, u⟩ w1 ⟨k, rs, hi, hk, hrl, hl1, o1, hsc, k1⟩
  simp only at hi hl1 o1 ⊢
  subst hi hl1
  have k01 : Keep (fun _ => False) w w1 := ⟨k1.os, k1.tape, k1.output, k1.size, fun j hj _ => k1.block j hj (by omega)⟩
  have h1 := h.keepB k01 (by simp)
  refine Slc_from hk hlc ?_
  have hs := h1.sub (lo := 37 * l1) (hi := l) (m := c) hk (Nat.le_refl _) hlc
  rw [List.take_of_length_le (by omega)] at hs
  have hby2 : By (xs.drop (37 * l1)) := fun x hx => hby x (List.mem_of_mem_drop hx)
  have hdl : (xs.drop (37 * l1)).length = l - 37 * l1 := by rw [List.length_drop]; omega
  have hfuel : l + 1 - l1 = (l - l1) + 1 := by omega
  rw [hfuel] at hsc
  have stop : ∀ w', Keep (fun _ => False) w1 w' → ¬ (37 ≤ (xs.drop (37 * l1)).length ∧ unGood (xs.drop (37 * l1))) → R (.tuple #[.slice p1 l1 c1, .int .i64 ((37 * l1 : Nat) : Int)]) w' := by
    intro w' k2 hn
    have e : scanB xs = rs := by
      rw [hsc]
      unfold scanF
      rw [if_neg hn, List.append_nil]
    have := hK p1 c1 w' (by rw [e, hrl]; exact o1.keep k2 (by simp)) (k01.trans k2)
    rw [e, hrl] at this
    have e2 : (37 * (l1 : Int)) = ((37 * l1 : Nat) : Int) := by omega
    rw [e2] at this
    exact this
  by_cases h37 : 37 ≤ l - 37 * l1
  · refine c_Unpack hs h37 (by omega) (by omega) hby2 fun g w2 hg k2 => ?_
    refine T2_mk.2 (OpA_agg.2 ⟨rfl, OpI_int.2 ?_⟩)
    refine copy_of zc_rc rfl (one_recV _) fun w3 h3 k3 z3 => ?_
    have k13 := k2.trans k3
    cases g
    · refine (Cb_true (q := _)).2 (Ret_nil.2 (stop w3 k13 fun hn => ?_))
      have := hg.2 hn.2
      cases this
    · have hgood := hg.1 rfl
      refine (Cb_false (p := _)).2 ?_
      refine LdA_all h3 rfl ?_
      refine ⟨_, _, bsl_r1 (unB (xs.drop (37 * l1))) w3, OpS_slice.2 ?_⟩
      have k4 : Keep (fun _ => False) w3 (w3.alloc (.cells (recV (unB (xs.drop (37 * l1)))) 246)) := Keep.new _ _ _
      have h4 : Has (w3.alloc (.cells (recV (unB (xs.drop (37 * l1)))) 246)) w3.heap.size (.cells (recV (unB (xs.drop (37 * l1)))) 246 (0, 0)) := Has.new _ _
      generalize w3.alloc (.cells (recV (unB (xs.drop (37 * l1)))) 246) = w4 at *
      have k14 := k13.trans k4
      have hq4 : q ≤ w4.heap.size := by have := k1.size; have := k14.size; omega
      obtain ⟨p5, c5, w5, hr, o5, k5, _⟩ := run_appendF1 rLayT (o1.keep k14 (by simp)) (y := unB (xs.drop (37 * l1))) h4 rfl (ty := 113) (by omega) (by simp only [maxLen]; omega) hq4 (c2 := 1)
      refine ⟨_, _, hr, OpS_slice.2 ?_⟩
      have ew : IntKind.wrap .i64 (((37 * l1 : Nat) : Int) + 37) = ((37 * (l1 + 1) : Nat) : Int) := by rw [wrapI (by omega) (by omega)]; omega
      refine ⟨_, by show ((l : Int) - IntKind.wrap .i64 (((37 * l1 : Nat) : Int) + 37)).toNat < _; rw [ew]; omega, ⟨l1 + 1, rs ++ [unB (xs.drop (37 * l1))], ew, by omega, by simp [hrl], rfl, o5, ?_, (k1.trans (k14.mono (by simp))).trans (k5.mono fun k hk => (o1.lt hk).1)⟩, rfl⟩
      rw [hsc]
      have e : scanF (l - l1 + 1) (xs.drop (37 * l1)) = unB (xs.drop (37 * l1)) :: scanF (l - l1) ((xs.drop (37 * l1)).drop 37) := by
        show (if _ then _ else _) = _
        rw [if_pos ⟨by omega, hgood⟩]
      rw [e, List.drop_drop, show l + 1 - (l1 + 1) = l - l1 by omega, show 37 * (l1 + 1) = 37 * l1 + 37 by omega]
      simp
  · refine c_Unpack_short hs (by omega) fun w2 k2 => ?_
    refine T2_mk.2 (OpA_agg.2 ⟨rfl, OpI_int.2 ?_⟩)
    refine copy_of zc_rc rfl (one_recV _) fun w3 h3 k3 z3 => ?_
    refine (Cb_true (q := _)).2 (Ret_nil.2 (stop w3 (k2.trans k3) fun hn => ?_))
    omega
end calls
end Go.Proofs
