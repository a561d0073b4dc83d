/-
  NUMBERS AS BYTES: what number and read answer.
-/
import Derived.Test.YthhimblbnnafkaaGreatCrc
import Derived.Test.YthhimblbnnafkaaGreatFCodec
namespace Go.Proofs
open Go Go.Ev
set_option linter.unusedSimpArgs false
set_option linter.unusedVariables false
set_option maxRecDepth 100000

/-- the low bytes, the highest of them first -/
def lowB (n : Int) : Nat → List Int
  | 0 => []
  | i + 1 => IntKind.wrap .u8 (ishr .u64 n (8 * (i : Int))) :: lowB n i
@[simp] theorem len_lowB (n : Int) : ∀ i, (lowB n i).length = i
  | 0 => rfl
  | i + 1 => by simp [lowB, len_lowB n i]
def readB (l : List Int) : Int := l.foldl (fun a b => ibits .or .u64 (ishl .u64 a 8) (IntKind.wrap .u64 b)) 0
section calls
variable {w : World} {p : Option Addr} {l c : Nat} {xs : List Int} {R : Value → World → Prop}
theorem c_read (h : SlL byLay w p l xs) (hl : l ≤ 1000000000) (hK : R (.int .u64 (readB xs)) w) : CallV Tryz.prog 252 #[.slice p l c] w R := by
  apply C_codec_read
  unfold F_codec_read
  have hlen := h.1
  refine LoopC_of (σ := Int × Int × Unit) (fun st w' => w' = w ∧ ∃ j : Nat, st.2.1 = j ∧ j ≤ l ∧ st.1 = readB (xs.take j)) (fun st _ => (l - st.2.1).toNat) ⟨rfl, 0, rfl, by omega, rfl⟩ ?_
  rintro _ ⟨y, i1, u⟩ w1 ⟨rfl, j, hj, hjl, hy⟩
  simp only at hj hy ⊢
  subst hj hy
  refine Cb_of (fun hc => ?_) (fun hc => ?_)
  · have hj : j < l := by simp only [decide_eq_true_eq] at hc; omega
    have ew : IntKind.wrap .i64 ((j : Int) + 1) = ((j + 1 : Nat) : Int) := by rw [wrapI (by omega) (by omega)]; omega
    rw [ew]
    refine h.ld0 rfl (by omega) (getD_at (xs := xs) (by omega) 0) (v := .int .u8 (xs.getD j 0)) rfl ?_
    refine OpI_int.2 ?_
    refine ⟨by decide, _, by omega, ⟨by trivial, j + 1, rfl, hj, ?_⟩, rfl⟩
    rw [take_succ_getD (by omega)]
    unfold readB
    rw [List.foldl_append]; rfl
  · have hj : j = l := by simp only [decide_eq_false_iff_not] at hc; omega
    subst hj
    refine Ret_nil.2 ?_
    rw [List.take_of_length_le (by omega)]
    exact hK
theorem set_low {xs : List Int} {hi i : Nat} {v : Int} {t : List Int} (h : i < hi) (hh : hi ≤ xs.length) (ht : t.length = i) : (xs.take (hi - i) ++ t ++ xs.drop hi).set (hi - 1 - i) v = xs.take (hi - (i + 1)) ++ (v :: t) ++ xs.drop hi := by
  have e : xs.take (hi - i) = xs.take (hi - (i + 1)) ++ [xs.getD (hi - (i + 1)) 0] := by
    have := take_succ_getD (l := xs) (j := hi - (i + 1)) (by omega)
    rw [show hi - (i + 1) + 1 = hi - i by omega] at this
    exact this
  rw [e]
  have hl : (xs.take (hi - (i + 1))).length = hi - 1 - i := by rw [List.length_take]; omega
  rw [List.append_assoc, List.append_assoc, List.set_append_right _ _ (by omega), hl, Nat.sub_self]
  simp
/-- 'number' over a part of a row of one's own -/
theorem c_number {base : Nat} {e : TypeId} (ho : OwnL byLay w base e p l c xs) {lo hi m c2 : Nat} {n : Int} (h1 : lo ≤ hi) (h2 : hi ≤ l) (h3 : hi ≤ m) (hn : lo < m) (h64 : hi - lo ≤ 8)
    (hK : ∀ w', OwnL byLay w' base e p l c (xs.take lo ++ lowB n (hi - lo) ++ xs.drop hi) → Keep (fun k => p = some ⟨k, 0, none⟩) w w' → w'.heap.size = w.heap.size → R (.tuple #[]) w') :
    CallV Tryz.prog 263 #[.slice (slcP 1 lo m p) (hi - lo) c2, .int .u64 n] w R := by
  apply C_codec_number
  unfold F_codec_number
  have hlen := ho.length
  have hcap := ho.cap
  refine LoopC_of (σ := Int × Unit) (fun st w' => ∃ j : Nat, st.1 = j ∧ j ≤ hi - lo ∧ OwnL byLay w' base e p l c (xs.take (hi - j) ++ lowB n j ++ xs.drop hi) ∧ Keep (fun k => p = some ⟨k, 0, none⟩) w w' ∧ w'.heap.size = w.heap.size)
    (fun st _ => (((hi - lo : Nat) : Int) - st.1).toNat) ⟨0, rfl, by omega, by simpa [lowB] using ho, Keep.refl _ _, rfl⟩ ?_
  rintro _ ⟨i1, u⟩ w1 ⟨j, hj, hjl, o1, k1, z1⟩
  simp only at hj ⊢
  subst hj
  refine Cb_of (fun hc => ?_) (fun hc => ?_)
  · have hj : j < hi - lo := by simp only [decide_eq_true_eq] at hc; omega
    have ew : IntKind.wrap .i64 ((j : Int) + 1) = ((j + 1 : Nat) : Int) := by rw [wrapI (by omega) (by omega)]; omega
    have e8 : IntKind.wrap .i64 (8 * (j : Int)) = 8 * (j : Int) := wrapI (by omega) (by omega)
    have ei : IntKind.wrap .i64 ((IntKind.wrap .i64 (((hi - lo : Nat) : Int) - 1)) - (j : Int)) = ((hi - lo - 1 - j : Nat) : Int) := by
      rw [wrapI (x := ((hi - lo : Nat) : Int) - 1) (by omega) (by omega), wrapI (by omega) (by omega)]; omega
    rw [ew, e8, ei]
    refine ⟨by omega, ?_⟩
    have hlr : (xs.take (hi - j) ++ lowB n j ++ xs.drop hi).length = xs.length := by
      simp only [List.length_append, List.length_take, List.length_drop, len_lowB]; omega
    have hix : hi - 1 - j < (xs.take (hi - j) ++ lowB n j ++ xs.drop hi).length := by rw [hlr]; omega
    have key := o1.stF (i := ((hi - 1 - j : Nat) : Int)) (n := 1) (t := 0) (x := (xs.take (hi - j) ++ lowB n j ++ xs.drop hi).getD (hi - 1 - j) 0) (y := IntKind.wrap .u8 (ishr .u64 n (8 * (j : Int)))) (v := .int .u8 (IntKind.wrap .u8 (ishr .u64 n (8 * (j : Int))))) rfl (by omega)
      (getD_at hix 0) (by decide) rfl rfl (K := fun w' => ∃ m', m' < (((hi - lo : Nat) : Int) - (j : Int)).toNat ∧ ((∃ j' : Nat, ((j + 1 : Nat) : Int) = j' ∧ j' ≤ hi - lo ∧ OwnL byLay w' base e p l c (xs.take (hi - j') ++ lowB n j' ++ xs.drop hi) ∧ Keep (fun k => p = some ⟨k, 0, none⟩) w w' ∧ w'.heap.size = w.heap.size) ∧ (((hi - lo : Nat) : Int) - ((j + 1 : Nat) : Int)).toNat = m')) fun w2 o2 k2 z2 => by
        refine ⟨_, by omega, ⟨j + 1, rfl, hj, ?_, k1.trans k2, by rw [z2, z1]⟩, rfl⟩
        rw [Int.toNat_natCast, set_low (by omega) (by omega) (by simp)] at o2
        exact o2
    obtain ⟨b, o, hp, hi0, hil, hst⟩ := key
    refine ⟨b, o + lo, ?_, by omega, by omega, ?_⟩
    · unfold slcP
      rw [if_neg (by omega), hp]
      simp [add_add']
    · rw [Int.toNat_natCast] at hst ⊢
      rw [show o + lo + (hi - lo - 1 - j) * 1 = o + (hi - 1 - j) * 1 + 0 by omega]
      exact hst
  · have hj : j = hi - lo := by simp only [decide_eq_false_iff_not] at hc; omega
    subst hj
    refine Ret_nil.2 (hK w1 ?_ k1 z1)
    rw [show hi - (hi - lo) = lo by omega] at o1
    exact o1
end calls
end Go.Proofs
