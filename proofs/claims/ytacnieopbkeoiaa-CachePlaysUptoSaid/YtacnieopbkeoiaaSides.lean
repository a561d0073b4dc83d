/-
  The fixed fact of layer 13, and MergeSides.
-/
import Derived.Test.YtacnieopbkeoiaaDirty
import Derived.Test.YtacnieopbkeoiaaAfter
import Derived.Test.YtacnieopbkeoiaaFLaw13
import Derived.Below
namespace Go.Proofs
open Go Go.Ev Go.RowKit
set_option linter.unusedSimpArgs false
set_option linter.unusedVariables false
set_option maxRecDepth 100000

theorem bld_rec3 (k v l : Int) (w : World) : (Instr.build 42 #[(0, .int .i64 k), (1, .int .u64 v), (2, .int .i64 l)]).run Try.prog w = .ok (.agg (recV ⟨k, v, l, sec []⟩)) w := run_build _ _ _ _ (by kernel_rfl)
theorem law13_awake {w : World} {R : Value → World → Prop} (hK : ∀ w', Keep (fun _ => False) w w' → R (.bool true) w') : CallV Try.prog 18 #[] w R := by
  apply C_ravelinlaw13_awake
  unfold F_ravelinlaw13_awake
  refine DoQ_of (fun d => bld_rec3 _ _ _ _) ?_
  simp only [OpA_agg]
  refine ⟨rfl, DoQ_of (fun d => bld_rec3 _ _ _ _) ?_⟩
  simp only [OpA_agg]
  refine ⟨rfl, ⟨_, _, run_buildSlice w 37 42 2 _ (recV ⟨1, 1, 5, sec []⟩ ++ recV ⟨1, 3, 5, sec []⟩) ((Try.prog.info? 42).get (by kernel_rfl)) ((((Try.prog.info? 42).get (by kernel_rfl)).zero).get (by kernel_rfl)) (by kernel_rfl) (by kernel_rfl) (by kernel_rfl) (by decide +kernel) (by decide +kernel) (by kernel_rfl), ?_⟩⟩
  simp only [OpS_slice]
  have hA := Has.new w (.cells (recV ⟨1, 1, 5, sec []⟩ ++ recV ⟨1, 3, 5, sec []⟩) 42)
  have k1 := Keep.new (fun _ => False) w (.cells (recV ⟨1, 1, 5, sec []⟩ ++ recV ⟨1, 3, 5, sec []⟩) 42)
  generalize w.alloc (.cells (recV ⟨1, 1, 5, sec []⟩ ++ recV ⟨1, 3, 5, sec []⟩) 42) = w1 at *
  refine DoQ_of (fun d => bld_rec3 _ _ _ _) ?_
  simp only [OpA_agg]
  refine ⟨rfl, _, _, bsl_rec _ _, ?_⟩
  simp only [OpS_slice]
  have hB := Has.new w1 (.cells (recV ⟨2, 1, 5, sec []⟩) 42)
  have k2 := Keep.new (fun _ => False) w1 (.cells (recV ⟨2, 1, 5, sec []⟩) 42)
  have hA2 := k2.has hA (by simp)
  generalize w1.alloc (.cells (recV ⟨2, 1, 5, sec []⟩) 42) = w2 at *
  refine ⟨_, _, run_buildSlice w2 44 37 2 _ #[.slice (some ⟨w.heap.size, 0, none⟩) 2 2, .slice (some ⟨w1.heap.size, 0, none⟩) 1 1] ((Try.prog.info? 37).get (by kernel_rfl)) (.slice none 0 0) (by kernel_rfl) (by kernel_rfl) (by kernel_rfl) (by decide +kernel) (by decide +kernel) (by kernel_rfl), ?_⟩
  simp only [OpS_slice]
  have hC := Has.new w2 (.cells #[.slice (some ⟨w.heap.size, 0, none⟩) 2 2, .slice (some ⟨w1.heap.size, 0, none⟩) 1 1] 37)
  have k3 := Keep.new (fun _ => False) w2 (.cells #[.slice (some ⟨w.heap.size, 0, none⟩) 2 2, .slice (some ⟨w1.heap.size, 0, none⟩) 1 1] 37)
  have hA3 := k3.has hA2 (by simp)
  have hB3 := k3.has hB (by simp)
  generalize w2.alloc (.cells #[.slice (some ⟨w.heap.size, 0, none⟩) 2 2, .slice (some ⟨w1.heap.size, 0, none⟩) 1 1] 37) = w3 at *
  have hL : Lists w3 (some ⟨w2.heap.size, 0, none⟩) 2 [[⟨1, 1, 5, sec []⟩, ⟨1, 3, 5, sec []⟩], [⟨2, 1, 5, sec []⟩]] := by
    refine ⟨rfl, fun i => if i = 0 then (some ⟨w.heap.size, 0, none⟩, 2, 2) else (some ⟨w1.heap.size, 0, none⟩, 1, 1), fun i hi => ⟨rfl, _, _, rfl, fun j hj => ?_⟩, fun i hi => ?_⟩
    · have : j = 0 := by omega
      subst this
      rw [cell_of hC]
      match i, hi with
      | 0, _ => rfl
      | 1, _ => rfl
    · match i, hi with
      | 0, _ =>
        refine ⟨rfl, fun i hi => ⟨rfl, _, _, rfl, fun j hj => ?_⟩⟩
        rw [cell_of hA3]
        match i, hi with
        | 0, _ =>
          rw [Array.getElem?_append_left (by simp; omega)]
          simp [recV, List.getD]
        | 1, _ =>
          rw [Array.getElem?_append_right (by simp)]
          simp [recV, List.getD]
      | 1, _ =>
        refine ⟨rfl, fun i hi => ⟨rfl, _, _, rfl, fun j hj => ?_⟩⟩
        have : i = 0 := by simp at hi; omega
        subst this
        rw [cell_of hB3]
        simp [recV, List.getD]
  refine merge_Dirty hL (by decide) (by decide) fun p l cp rs w4 hrp hrs ho k4 => ?_
  simp only [OpS_slice]
  have e1 : leftD (([[⟨1, 1, 5, sec []⟩, ⟨1, 3, 5, sec []⟩], [⟨2, 1, 5, sec []⟩]] : List (List Rec)).flatten.foldl stepD ([], [])) = [⟨1, 3, 5, sec []⟩] := rfl
  rw [e1] at hrp
  have hrs1 : rs = [⟨1, 3, 5, sec []⟩] := by simpa using hrp
  subst hrs1
  have h2 := ho
  rw [flatMap_rows] at h2
  have hl1 : l = 1 := h2.count (rows_len _) (by decide)
  obtain ⟨b, rfl, hc⟩ := h2.at (rows_len _) (by decide) (i := 0) (r := recL ⟨1, 3, 5, sec []⟩) rfl
  subst hl1
  rw [show (((1 : Nat) : Int) == 1) = true from rfl, Cb_true]
  refine ⟨b, 0, rfl, by decide, by decide, LdV_at.2 ⟨.int .u64 3, hc 1 (by decide), ?_⟩⟩
  simp only [OpI_int, Ret_nil]
  exact hK w4 (((k1.trans k2).trans k3).trans k4)

theorem sides_walk {epoch : Int} {sp : Option Addr} {sl sc : Nat} {gs : Nat → List Value} {W : World} (h0 : 0 ≤ epoch) (h1 : epoch ≤ 4294967295) (hll : sl ≤ maxLen) (hs : Sl W 1 sp sl gs) (fs : ∀ i, i < sl → Fits [.bool] (gs i)) :
    CallV Try.prog 7 #[.int .u32 epoch, .slice sp sl sc] W fun v w' => v = .bool true ∧ Below W.heap.size W w' := by
  apply C_ravelinlaw13_MergeSides
  unfold F_ravelinlaw13_MergeSides
  have hmax : sl ≤ 9223372036854775807 := by simpa [maxLen] using hll
  refine law13_awake fun w1 k1 => ?_
  simp only [OpB_bool, Req_true, Req_rfl]
  rw [show (!true) = false from rfl, Cb_false]
  refine LoopC_of (σ := Int × Int × Unit) (fun s w' => 0 ≤ s.1 ∧ s.1 ≤ 4294967295 ∧ 0 ≤ s.2.1 ∧ s.2.1 ≤ sl ∧ Keep (fun _ => False) W w') (fun s _ => (sl - s.2.1).toNat) ⟨h0, h1, by simp, by simp, k1⟩ ?_
  intro _ s w2 hI
  obtain ⟨now, i, u⟩ := s
  obtain ⟨n0, n1, i0, i1, k⟩ := hI
  simp only at n0 n1 i0 i1 ⊢
  refine Cb_of (fun hc => ?_) (fun hc => ?_)
  · simp only [decide_eq_true_eq] at hc
    have hb : ∃ b, gs i.toNat = [.bool b] := by
      have := fs i.toNat (by omega)
      match hgi : gs i.toNat, this with
      | [_], ⟨⟨b, rfl⟩, _⟩ => exact ⟨b, rfl⟩
    obtain ⟨b, hgb⟩ := hb
    refine ((hs.keep k (by simp)).ld_iff i0 hc hgb).2 ?_
    simp only [OpB_bool]
    have ew : IntKind.wrap .i64 (i + 1) = i + 1 := wrapI (by omega) (by omega)
    rw [ew]
    have fin : ∀ e : Int, now < e → e ≤ 4294967295 → ∃ m', m' < ((sl : Int) - i).toNat ∧ ((0 ≤ e ∧ e ≤ 4294967295 ∧ 0 ≤ i + 1 ∧ i + 1 ≤ sl ∧ Keep (fun _ => False) W w2) ∧ ((sl : Int) - (i + 1)).toNat = m') :=
      fun e a b => ⟨_, by omega, ⟨by omega, b, by omega, by omega, k⟩, rfl⟩
    refine Cb_of (fun hb => ?_) (fun hb => ?_)
    · refine merge_After n0 n1 (by omega) ?_
      simp only [T2_mk, OpI_int]
      by_cases hx : 4294967295 < (if (now + 1) % 2 = 1 then now + 1 else now + 2)
      · have e : afterS now 1 = (0, 14) := by unfold afterS; rw [if_neg (by simp [side1])]; simp only; rw [if_pos hx]
        rw [e]
        simp only [show ((14 : Int) != 0) = true from rfl, show ((14 : Int) == 14) = true from rfl, Cb_true, cond_true, Ret_nil]
        refine ⟨?_, k.below⟩
        have : now ≥ 4294967294 := by split at hx <;> omega
        simp [this]
      · have e : afterS now 1 = ((if (now + 1) % 2 = 1 then now + 1 else now + 2), 0) := by unfold afterS; rw [if_neg (by simp [side1])]; simp only; rw [if_neg hx]
        rw [e]
        have hn : now < (if (now + 1) % 2 = 1 then now + 1 else now + 2) ∧ (if (now + 1) % 2 = 1 then now + 1 else now + 2) ≤ now + 2 ∧ (if (now + 1) % 2 = 1 then now + 1 else now + 2) % 2 = 1 := by split <;> omega
        generalize (if (now + 1) % 2 = 1 then now + 1 else now + 2) = e2 at *
        simp only [show ((0 : Int) != 0) = false from rfl, Cb_false]
        rw [show decide (e2 ≤ now) = false by simp; omega, Cb_false]
        refine ⟨by decide, ?_⟩
        rw [Int.tmod_eq_emod_of_nonneg (show 0 ≤ e2 by omega), hn.2.2, show IntKind.wrap .i64 1 = 1 from rfl, wrapU32 (show 0 ≤ e2 - now by omega) (by omega)]
        rw [show (cond ((1 : Int) != 1) true (decide (e2 - now > 2))) = false by rw [show ((1 : Int) != 1) = false from rfl, cond_false]; simp; omega, Cb_false]
        exact fin e2 hn.1 (by omega)
    · refine merge_After n0 n1 (by omega) ?_
      simp only [T2_mk, OpI_int]
      by_cases hx : 4294967295 < (if (now + 1) % 2 = 0 then now + 1 else now + 2)
      · have e : afterS now 0 = (0, 14) := by unfold afterS; rw [if_neg (by simp [side0])]; simp only; rw [if_pos hx]
        rw [e]
        simp only [show ((14 : Int) != 0) = true from rfl, show ((14 : Int) == 14) = true from rfl, Cb_true, cond_true, Ret_nil]
        refine ⟨?_, k.below⟩
        have : now ≥ 4294967294 := by split at hx <;> omega
        simp [this]
      · have e : afterS now 0 = ((if (now + 1) % 2 = 0 then now + 1 else now + 2), 0) := by unfold afterS; rw [if_neg (by simp [side0])]; simp only; rw [if_neg hx]
        rw [e]
        have hn : now < (if (now + 1) % 2 = 0 then now + 1 else now + 2) ∧ (if (now + 1) % 2 = 0 then now + 1 else now + 2) ≤ now + 2 ∧ (if (now + 1) % 2 = 0 then now + 1 else now + 2) % 2 = 0 := by split <;> omega
        generalize (if (now + 1) % 2 = 0 then now + 1 else now + 2) = e2 at *
        simp only [show ((0 : Int) != 0) = false from rfl, Cb_false]
        rw [show decide (e2 ≤ now) = false by simp; omega, Cb_false]
        refine ⟨by decide, ?_⟩
        rw [Int.tmod_eq_emod_of_nonneg (show 0 ≤ e2 by omega), hn.2.2, show IntKind.wrap .i64 0 = 0 from rfl, wrapU32 (show 0 ≤ e2 - now by omega) (by omega)]
        rw [show (cond ((0 : Int) != 0) true (decide (e2 - now > 2))) = false by rw [show ((0 : Int) != 0) = false from rfl, cond_false]; simp; omega, Cb_false]
        exact fin e2 hn.1 (by omega)
  · simp only [Ret_nil]
    first | exact ⟨rfl, k.below⟩ | exact ⟨trivial, k.below⟩
end Go.Proofs
