/-
  merge.Top and the document's Top and joined.
-/
import Derived.Test.YtacnieopbkeoiaaSame
namespace Go.Proofs
open Go Go.Ev Go.RowKit
set_option linter.unusedSimpArgs false
set_option linter.unusedVariables false
set_option maxRecDepth 100000
def topStep (t : Int) (r : Rec) : Int := if 1 ≤ r.kind ∧ r.kind ≤ 5 then max t r.ver else t
theorem run_maxU (a b : Int) (t : TypeId) (ts : Array TypeId) (w : World) : (Builtin.max_ ts t #[.int .u64 a, .int .u64 b]).run Try.prog w = .ok (.int .u64 (max a b)) w := by
  simp only [Builtin.max_, List.foldlM, Builtin.max2, Sem.run_bind, Sem.run_pure, if_true]
  by_cases h : a < b
  · simp [h, Sem.run_pure, Int.max_eq_right (Int.le_of_lt h)]
  · simp [h, Sem.run_pure, Int.max_eq_left (Int.not_lt.1 h)]
theorem merge_Top {xp : Option Addr} {n c : Nat} {rss : List (List Rec)} {w : World} {R : Value → World → Prop} (h : Lists w xp n rss) (hn : n ≤ 1000000000) (ht : total rss ≤ 10000000)
    (hK : ∀ w', Keep (fun _ => False) w w' → R (.int .u64 (rss.flatten.foldl topStep 0)) w') : CallV Try.prog 24 #[.slice xp n c] w R := by
  apply C_merge_Top
  unfold F_merge_Top
  refine concat_recs h hn (by omega) fun p l cp w1 ho k1 => ?_
  simp only [OpS_slice]
  have hlen : l = rss.flatten.length := by
    have h5 := ho
    rw [flatMap_rows] at h5
    have h6 := h5.count (rows_len _) (by decide)
    rwa [List.length_map] at h6
  have hbd : rss.flatten.length ≤ 10000000 := ht
  generalize rss.flatten = all at *
  refine LoopC_of (σ := Int × Int × Unit) (fun s w' => ∃ j : Nat, s.2.1 = j ∧ j ≤ l ∧ s.1 = (all.take j).foldl topStep 0 ∧ Own w' w.heap.size 42 19 p l cp (all.flatMap recL) ∧ Keep (fun _ => False) w w') (fun s _ => (l - s.2.1).toNat) ⟨0, rfl, by omega, rfl, ho, k1⟩ ?_
  clear ho
  intro _ s w2 hs
  obtain ⟨t, i, u⟩ := s
  obtain ⟨j, hij, hjl, htt, ho, k2⟩ := hs
  simp only at hij htt ⊢
  subst hij htt
  refine Cb_of (fun hc => ?_) (fun hc => ?_)
  · have hj : j < l := by simp only [decide_eq_true_eq] at hc; omega
    have hget : all[((j : Nat) : Int).toNat]? = some all[j] := by simp [show j < all.length by omega]
    generalize hr : all[j] = r at *
    have hstep : (all.take (j + 1)).foldl topStep 0 = topStep ((all.take j).foldl topStep 0) r := by
      rw [List.take_add_one, List.foldl_append, show all[j]? = some r by simpa using hget]
      rfl
    have ew : IntKind.wrap .i64 ((j : Int) + 1) = ((j + 1 : Nat) : Int) := by rw [wrapI (by omega) (by omega)]; omega
    rw [ew]
    refine LdA_row ho (by omega) hget ?_
    refine copy_rec (K := fun b1 w => _) fun w3 hb k3 _ => ?_
    have ho3 := ho.keep k3 (by simp)
    have fin : ∀ t, t = topStep ((all.take j).foldl topStep 0) r → ∃ m', m' < ((l : Int) - (j : Int)).toNat ∧ ((∃ j' : Nat, ((j + 1 : Nat) : Int) = j' ∧ j' ≤ l ∧ t = (all.take j').foldl topStep 0 ∧ Own w3 w.heap.size 42 19 p l cp (all.flatMap recL) ∧ Keep (fun _ => False) w w3) ∧ ((l : Int) - ((j + 1 : Nat) : Int)).toNat = m') :=
      fun t e => ⟨_, by omega, ⟨j + 1, rfl, hj, by rw [hstep]; exact e, ho3, k2.trans k3⟩, rfl⟩
    refine LdV_has (v := .int .i64 r.kind) hb rfl ?_
    simp only [OpI_int]
    refine Cb_of (fun h1 => ?_) (fun h1 => ?_)
    · refine LdV_has (v := .int .i64 r.kind) hb rfl ?_
      simp only [OpI_int]
      refine Cb_of (fun h5 => ?_) (fun h5 => ?_)
      · refine LdV_has (v := .int .u64 r.ver) hb rfl ?_
        simp only [OpI_int]
        refine DoQ_of (fun d => run_maxU _ _ _ _ _) ?_
        simp only [OpI_int]
        refine fin _ ?_
        unfold topStep
        rw [if_pos ⟨by simpa using h1, by simpa using h5⟩]
      · refine fin _ ?_
        unfold topStep
        rw [if_neg (fun hh => by have := hh.2; simp at h5; omega)]
    · refine fin _ ?_
      unfold topStep
      rw [if_neg (fun hh => by have := hh.1; simp at h1; omega)]
  · have hj : j = l := by simp only [decide_eq_false_iff_not] at hc; omega
    subst hj
    have e0 : all.take j = all := by rw [hlen]; simp
    rw [e0]
    simp only [Ret_nil]
    exact hK w2 k2
end Go.Proofs
