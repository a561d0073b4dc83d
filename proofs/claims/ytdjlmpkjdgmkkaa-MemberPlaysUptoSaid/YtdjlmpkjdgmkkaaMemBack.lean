/-
  MemberBack and the fixed fact of layer 15: walks over plain clubs.
-/
import Derived.Test.YtdjlmpkjdgmkkaaMem2
import Derived.Test.YtdjlmpkjdgmkkaaFLaw15
import Derived.Below
namespace Go.Proofs
open Go Go.Ev Go.RowKit
set_option linter.unusedSimpArgs false
set_option linter.unusedVariables false
set_option maxRecDepth 100000

/-- a club all of whose disks live and have one key -/
def even (a b : One) (n : Nat) (k : Int) : Club := ⟨a, b, n, fun _ => (true, k)⟩
theorem key_even {a b : One} {n : Nat} {k : Int} (h0 : 0 ≤ k) (hn : 1 ≤ n) : (even a b n k).key = k := by
  have : ∀ j, 1 ≤ j → keyN (fun _ => (true, k)) j = k := by
    intro j
    induction j with
    | zero => intro h; omega
    | succ j ih =>
      intro _
      unfold keyN
      simp only [if_true]
      by_cases hj : 1 ≤ j
      · rw [ih hj]; omega
      · have : j = 0 := by omega
        subst this
        simp only [keyN]; omega
  exact this n hn
theorem ok_even {a b : One} {n : Nat} {k : Int} (ha : 0 ≤ a.epoch ∧ a.epoch ≤ 4294967295) (hb : 0 ≤ b.epoch ∧ b.epoch ≤ 4294967295) (hk : 0 ≤ k ∧ k ≤ 4294967295) : ClubOk (even a b n k) := ⟨ha, hb, fun _ _ => hk⟩
theorem new_even (n : Nat) : newClub n = even ⟨true, 0, 0⟩ ⟨true, 0, 0⟩ n 0 := rfl

@[simp] theorem even_one0 (a b : One) (n : Nat) (k : Int) : (even a b n k).one 0 = a := rfl
@[simp] theorem even_one1 (a b : One) (n : Nat) (k : Int) : (even a b n k).one 1 = b := rfl
@[simp] theorem even_set0 (a b o : One) (n : Nat) (k : Int) : (even a b n k).set 0 o = even o b n k := rfl
@[simp] theorem even_set1 (a b o : One) (n : Nat) (k : Int) : (even a b n k).set 1 o = even a o n k := rfl
@[simp] theorem sub_10 : (1 : Int) - 0 = 1 := rfl
@[simp] theorem sub_11 : (1 : Int) - 1 = 0 := rfl
@[simp] theorem ok0 : sideOk 0 = True := eq_true side0
@[simp] theorem ok1 : sideOk 1 = True := eq_true side1
theorem claim_ev0 {b : One} {n : Nat} (hn : 1 ≤ n) : claimS (even ⟨true, 0, 3⟩ b n 0) 0 = (2, 0, even ⟨true, 2, 0⟩ b n 2) := by
  have hk := key_even (a := ⟨true, 0, 3⟩) (b := b) (n := n) (k := 0) (by decide) hn
  simp [claimS, readyS, suspS, hk, afterS]
  rfl
theorem claim_ev1 {a : One} {n : Nat} (hn : 1 ≤ n) : claimS (even a ⟨true, 0, 3⟩ n 0) 1 = (1, 0, even a ⟨true, 1, 0⟩ n 1) := by
  have hk := key_even (a := a) (b := ⟨true, 0, 3⟩) (n := n) (k := 0) (by decide) hn
  simp [claimS, readyS, suspS, hk, afterS]
  rfl
theorem tick_ev0 {b : One} {n : Nat} {k s : Int} (h0 : 0 ≤ s) (h1 : s ≤ 3) : tickS (even ⟨true, 0, s⟩ b n k) 0 = (0, even ⟨true, 0, s + 1⟩ b n k) := by
  simp [tickS, wrapI (x := s + 1) (by omega) (by omega)]
theorem tick_ev1 {a : One} {n : Nat} {k s : Int} (h0 : 0 ≤ s) (h1 : s ≤ 3) : tickS (even a ⟨true, 0, s⟩ n k) 1 = (0, even a ⟨true, 0, s + 1⟩ n k) := by
  simp [tickS, wrapI (x := s + 1) (by omega) (by omega)]

theorem law15_awake {w : World} {R : Value → World → Prop} (hK : ∀ w', Keep (fun _ => False) w w' → R (.bool true) w') : CallV Try.prog 18 #[] w R := by
  apply C_ravelinlaw15_awake
  unfold F_ravelinlaw15_awake
  refine mem_New (by decide) (by decide) fun c q w1 hC k1 hc hq => ?_
  simp only [T2_mk, OpP_some, OpI_int, Req_true, Req_rfl]
  rw [show (cond ((0 : Int) != 0) true false) = false from rfl, Cb_false]
  rw [new_even] at hC
  have tick := @tick_ev0 ⟨true, 0, 0⟩ 3 0
  have hcl := @claim_ev0 ⟨true, 0, 0⟩ 3 (by decide)
  refine LoopC_of (σ := Int × Unit) (fun s w' => 0 ≤ s.1 ∧ s.1 ≤ 3 ∧ Keep (fun _ => False) w w' ∧ ClubAt w' c q (even ⟨true, 0, s.1⟩ ⟨true, 0, 0⟩ 3 0)) (fun s _ => (3 - s.1).toNat) ⟨by decide, by decide, k1, hC⟩ ?_
  intro _ s w2 hI
  obtain ⟨i, u⟩ := s
  obtain ⟨h0, h3, k2, hC2⟩ := hI
  simp only at h0 h3 hC2 ⊢
  refine Cb_of (fun hl => ?_) (fun hl => ?_)
  · simp only [decide_eq_true_eq] at hl
    refine mem_Tick hC2 fun w3 hC3 k3 => ?_
    rw [tick h0 h3] at hC3
    simp only [OpI_int]
    rw [wrapI (by omega) (by omega)]
    exact ⟨_, by omega, ⟨by omega, by omega, k2.trans' k3 (fun k hk e => by omega), hC3⟩, rfl⟩
  · simp only [decide_eq_false_iff_not] at hl
    have hi : i = 3 := by omega
    subst hi
    refine mem_Claim hC2 (ok_even (by decide) (by decide) (by decide)) fun w3 hC3 k3 => ?_
    rw [hcl] at hC3
    simp only [hcl, T2_mk, OpI_int, Req_true, Req_rfl]
    rw [show (cond ((0 : Int) == 0) ((2 : Int) == 2) false) = true from rfl, Cb_true]
    have k23 : Keep (fun _ => False) w w3 := k2.trans' k3 (fun k hk e => by omega)
    refine mem_Ready hC3 fun w4 k4 => ?_
    have hC4 := hC3.keep k4 (by simp) (by simp)
    have hr : readyS (even ⟨true, 2, 0⟩ ⟨true, 0, 0⟩ 3 2) 1 = false := by
      have hk := key_even (a := ⟨true, 2, 0⟩) (b := ⟨true, 0, 0⟩) (n := 3) (k := 2) (by decide) (by decide)
      simp [readyS, hk]
    rw [hr]
    simp only [OpB_bool]
    rw [show (!false) = true from rfl, Cb_true]
    refine mem_Write hC4 fun d => ?_
    have hw : writeS (even ⟨true, 2, 0⟩ ⟨true, 0, 0⟩ 3 2) 1 2 = 6 := rfl
    rw [hw]
    simp only [OpI_int, Ret_nil]
    exact hK _ ((k23.trans k4).dr d)

theorem wr1 : IntKind.wrap .i64 (1 - 1) = 0 := rfl
theorem wr0 : IntKind.wrap .i64 (1 - 0) = 1 := rfl
theorem back_room {d : Int} (h0 : 0 ≤ d) (h1 : d ≤ 255) : IntKind.wrap .i64 ((Int.tmod (IntKind.wrap .i64 d) 32) + 1) = d % 32 + 1 := by
  rw [wrapI (x := d) (by omega) (by omega), Int.tmod_eq_emod_of_nonneg h0]
  exact wrapI (by omega) (by omega)
theorem memberBack_walk {disks : Int} {side claimed : Bool} {W : World} (h0 : 0 ≤ disks) (h1 : disks ≤ 255) :
    CallV Try.prog 5 #[.int .u8 disks, .bool side, .bool claimed] W fun v w' => v = .bool true ∧ Below W.heap.size W w' := by
  apply C_ravelinlaw15_MemberBack
  unfold F_ravelinlaw15_MemberBack
  rw [back_room h0 h1]
  refine ⟨by decide, ?_⟩
  refine mem_New (by omega) (by omega) fun c q w1 hC k1 hc hq => ?_
  simp only [T2_mk, OpP_some, OpI_int]
  refine law15_awake fun w2 k2 => ?_
  have hC2 := hC.keep k2 (by simp) (by simp)
  have K2 := k1.trans k2
  rw [new_even] at hC2
  have hn : 1 ≤ (disks % 32 + 1).toNat := by omega
  generalize (disks % 32 + 1).toNat = n at *
  simp only [OpB_bool, Req_true, Req_rfl]
  rw [show (cond (cond (!true) true ((0 : Int) != 0)) true false) = false from rfl, Cb_false]
  cases side <;> cases claimed
  · simp only [Req_true, Req_rfl, wr1, wr0, Cb_true, Cb_false, cond_true, cond_false]
    refine mem_Crash hC2 fun x1 hD1 k1 => ?_
    have e1 : crashS (even ⟨true, 0, 0⟩ ⟨true, 0, 0⟩ n 0) 0 = (0, even ⟨false, 0, 0⟩ ⟨true, 0, 0⟩ n 0) := rfl
    rw [e1] at hD1
    simp only [e1, OpI_int, T2_mk]
    have L1 : Keep (fun _ => False) W x1 := K2.trans' k1 (fun k hk e => by omega)
    rw [show ((0 : Int) != 0) = false from rfl, Cb_false]
    refine mem_Ready hD1 fun x2 k2 => ?_
    have hD2 := hD1.keep k2 (by simp) (by simp)
    have L2 := L1.trans k2
    have e2 : readyS (even ⟨false, 0, 0⟩ ⟨true, 0, 0⟩ n 0) 0 = false := by simp [readyS, key_even (show (0 : Int) ≤ 0 by decide) hn]
    rw [e2]
    simp only [OpB_bool]
    rw [Cb_false]
    refine mem_Beat hD2 fun x3 hD3 k3 => ?_
    have e3 : beatS (even ⟨false, 0, 0⟩ ⟨true, 0, 0⟩ n 0) 0 = (13, even ⟨false, 0, 0⟩ ⟨true, 0, 0⟩ n 0) := rfl
    rw [e3] at hD3
    simp only [e3, OpI_int, T2_mk]
    have L3 : Keep (fun _ => False) W x3 := L2.trans' k3 (fun k hk e => by omega)
    rw [show ((13 : Int) != 13) = false from rfl, Cb_false]
    refine mem_Beat hD3 fun x4 hD4 k4 => ?_
    have e4 : beatS (even ⟨false, 0, 0⟩ ⟨true, 0, 0⟩ n 0) 1 = (13, even ⟨false, 0, 0⟩ ⟨true, 0, 0⟩ n 0) := rfl
    rw [e4] at hD4
    simp only [e4, OpI_int, T2_mk]
    have L4 : Keep (fun _ => False) W x4 := L3.trans' k4 (fun k hk e => by omega)
    rw [show ((13 : Int) != 13) = false from rfl, Cb_false]
    refine mem_Join hD4 fun x5 hD5 k5 => ?_
    have e5 : joinS (even ⟨false, 0, 0⟩ ⟨true, 0, 0⟩ n 0) 0 = (13, even ⟨false, 0, 0⟩ ⟨true, 0, 0⟩ n 0) := rfl
    rw [e5] at hD5
    simp only [e5, OpI_int, T2_mk]
    have L5 : Keep (fun _ => False) W x5 := L4.trans' k5 (fun k hk e => by omega)
    rw [show ((13 : Int) != 13) = false from rfl, Cb_false]
    refine LoopC_of (σ := Int × Unit) (fun s w' => 0 ≤ s.1 ∧ s.1 ≤ 0 ∧ Keep (fun _ => False) W w' ∧ ClubAt w' c q (even ⟨false, 0, 0⟩ ⟨true, 0, s.1⟩ n 0)) (fun s _ => (3 - s.1).toNat) ⟨by decide, by decide, L5, hD5⟩ ?_
    intro _ s x hI
    obtain ⟨i, u⟩ := s
    obtain ⟨h0, h3, K, hD⟩ := hI
    simp only at h0 h3 hD ⊢
    have hi : i = 0 := by omega
    subst hi
    rw [show (cond (decide ((0 : Int) < 3)) false false) = false from rfl, Cb_false]
    refine mem_Claim hD (ok_even (by decide) (by decide) (by decide)) fun x6 hD6 k6 => ?_
    have e6 : claimS (even ⟨false, 0, 0⟩ ⟨true, 0, 0⟩ n 0) 1 = (0, 12, even ⟨false, 0, 0⟩ ⟨true, 0, 0⟩ n 0) := by simp [claimS, readyS, suspS, key_even (show (0 : Int) ≤ 0 by decide) hn]
    rw [e6] at hD6
    simp only [e6, OpI_int, T2_mk]
    have L6 : Keep (fun _ => False) W x6 := K.trans' k6 (fun k hk e => by omega)
    rw [show (!(false == ((12 : Int) == 0))) = false from rfl, Cb_false, show (!false) = true from rfl, Cb_true, show ((12 : Int) != 12) = false from rfl, Cb_false]
    refine mem_Restart hD6 fun x7 hD7 k7 => ?_
    have e7 : restartS (even ⟨false, 0, 0⟩ ⟨true, 0, 0⟩ n 0) 0 = (0, even ⟨true, 0, 0⟩ ⟨true, 0, 0⟩ n 0) := rfl
    rw [e7] at hD7
    simp only [e7, OpI_int, T2_mk]
    have L7 : Keep (fun _ => False) W x7 := L6.trans' k7 (fun k hk e => by omega)
    rw [show ((0 : Int) != 0) = false from rfl, Cb_false]
    refine mem_Ready hD7 fun x8 k8 => ?_
    have hD8 := hD7.keep k8 (by simp) (by simp)
    have L8 := L7.trans k8
    have e8 : readyS (even ⟨true, 0, 0⟩ ⟨true, 0, 0⟩ n 0) 0 = true := by simp [readyS, key_even (show (0 : Int) ≤ 0 by decide) hn]
    rw [e8]
    simp only [OpB_bool]
    rw [show (true == false) = false from rfl, Cb_false]
    refine mem_Suspects hD8 ?_
    rw [show suspS (even ⟨true, 0, 0⟩ ⟨true, 0, 0⟩ n 0) 0 = false from rfl]
    simp only [OpB_bool, Cb_false]
    refine mem_Join hD8 fun x9 hD9 k9 => ?_
    have e9 : joinS (even ⟨true, 0, 0⟩ ⟨true, 0, 0⟩ n 0) 0 = (11, even ⟨true, 0, 0⟩ ⟨true, 0, 0⟩ n 0) := by simp [joinS, readyS, key_even (show (0 : Int) ≤ 0 by decide) hn]
    rw [e9] at hD9
    simp only [e9, OpI_int, T2_mk]
    have L9 : Keep (fun _ => False) W x9 := L8.trans' k9 (fun k hk e => by omega)
    refine mem_Ready hD9 fun x10 k10 => ?_
    have hD10 := hD9.keep k10 (by simp) (by simp)
    have L10 := L9.trans k10
    have e10 : readyS (even ⟨true, 0, 0⟩ ⟨true, 0, 0⟩ n 0) 0 = true := by simp [readyS, key_even (show (0 : Int) ≤ 0 by decide) hn]
    rw [e10]
    simp only [OpB_bool]
    rw [Cb_true]
    refine mem_Ready hD10 fun x11 k11 => ?_
    have hD11 := hD10.keep k11 (by simp) (by simp)
    have L11 := L10.trans k11
    have e11 : readyS (even ⟨true, 0, 0⟩ ⟨true, 0, 0⟩ n 0) 1 = true := by simp [readyS, key_even (show (0 : Int) ≤ 0 by decide) hn]
    rw [e11]
    simp only [OpB_bool]
    rw [show (cond true (((11 : Int) == 0) == false) false) = true from rfl, Cb_true]
    first | exact ⟨rfl, L11.below⟩ | exact ⟨rfl, rfl, L11.below⟩ | exact ⟨rfl, trivial, L11.below⟩
  · simp only [Req_true, Req_rfl, wr1, wr0, Cb_true, Cb_false, cond_true, cond_false]
    refine mem_Crash hC2 fun x1 hD1 k1 => ?_
    have e1 : crashS (even ⟨true, 0, 0⟩ ⟨true, 0, 0⟩ n 0) 0 = (0, even ⟨false, 0, 0⟩ ⟨true, 0, 0⟩ n 0) := rfl
    rw [e1] at hD1
    simp only [e1, OpI_int, T2_mk]
    have L1 : Keep (fun _ => False) W x1 := K2.trans' k1 (fun k hk e => by omega)
    rw [show ((0 : Int) != 0) = false from rfl, Cb_false]
    refine mem_Ready hD1 fun x2 k2 => ?_
    have hD2 := hD1.keep k2 (by simp) (by simp)
    have L2 := L1.trans k2
    have e2 : readyS (even ⟨false, 0, 0⟩ ⟨true, 0, 0⟩ n 0) 0 = false := by simp [readyS, key_even (show (0 : Int) ≤ 0 by decide) hn]
    rw [e2]
    simp only [OpB_bool]
    rw [Cb_false]
    refine mem_Beat hD2 fun x3 hD3 k3 => ?_
    have e3 : beatS (even ⟨false, 0, 0⟩ ⟨true, 0, 0⟩ n 0) 0 = (13, even ⟨false, 0, 0⟩ ⟨true, 0, 0⟩ n 0) := rfl
    rw [e3] at hD3
    simp only [e3, OpI_int, T2_mk]
    have L3 : Keep (fun _ => False) W x3 := L2.trans' k3 (fun k hk e => by omega)
    rw [show ((13 : Int) != 13) = false from rfl, Cb_false]
    refine mem_Beat hD3 fun x4 hD4 k4 => ?_
    have e4 : beatS (even ⟨false, 0, 0⟩ ⟨true, 0, 0⟩ n 0) 1 = (13, even ⟨false, 0, 0⟩ ⟨true, 0, 0⟩ n 0) := rfl
    rw [e4] at hD4
    simp only [e4, OpI_int, T2_mk]
    have L4 : Keep (fun _ => False) W x4 := L3.trans' k4 (fun k hk e => by omega)
    rw [show ((13 : Int) != 13) = false from rfl, Cb_false]
    refine mem_Join hD4 fun x5 hD5 k5 => ?_
    have e5 : joinS (even ⟨false, 0, 0⟩ ⟨true, 0, 0⟩ n 0) 0 = (13, even ⟨false, 0, 0⟩ ⟨true, 0, 0⟩ n 0) := rfl
    rw [e5] at hD5
    simp only [e5, OpI_int, T2_mk]
    have L5 : Keep (fun _ => False) W x5 := L4.trans' k5 (fun k hk e => by omega)
    rw [show ((13 : Int) != 13) = false from rfl, Cb_false]
    refine LoopC_of (σ := Int × Unit) (fun s w' => 0 ≤ s.1 ∧ s.1 ≤ 3 ∧ Keep (fun _ => False) W w' ∧ ClubAt w' c q (even ⟨false, 0, 0⟩ ⟨true, 0, s.1⟩ n 0)) (fun s _ => (3 - s.1).toNat) ⟨by decide, by decide, L5, hD5⟩ ?_
    intro _ s x hI
    obtain ⟨i, u⟩ := s
    obtain ⟨h0, h3, K, hD⟩ := hI
    simp only at h0 h3 hD ⊢
    refine Cb_of (fun hl => ?_) (fun hl => ?_)
    · have hl' : i < 3 := by by_cases h : i < 3; exact h; simp [h] at hl
      refine mem_Tick hD fun y hE ky => ?_
      rw [tick_ev1 h0 h3] at hE
      simp only [tick_ev1 h0 h3, OpI_int]
      rw [show ((0 : Int) != 0) = false from rfl, Cb_false, wrapI (by omega) (by omega)]
      exact ⟨_, by omega, ⟨by omega, by omega, K.trans' ky (fun k hk e => by omega), hE⟩, rfl⟩
    have hi : i = 3 := by by_cases h : i < 3; simp [h] at hl; omega
    subst hi
    refine mem_Claim hD (ok_even (by decide) (by decide) (by decide)) fun x6 hD6 k6 => ?_
    have e6 : claimS (even ⟨false, 0, 0⟩ ⟨true, 0, 3⟩ n 0) 1 = (1, 0, even ⟨false, 0, 0⟩ ⟨true, 1, 0⟩ n 1) := claim_ev1 hn
    rw [e6] at hD6
    simp only [e6, OpI_int, T2_mk]
    have L6 : Keep (fun _ => False) W x6 := K.trans' k6 (fun k hk e => by omega)
    rw [show (!(true == ((0 : Int) == 0))) = false from rfl, Cb_false, show (!true) = false from rfl, Cb_false]
    refine mem_Restart hD6 fun x7 hD7 k7 => ?_
    have e7 : restartS (even ⟨false, 0, 0⟩ ⟨true, 1, 0⟩ n 1) 0 = (0, even ⟨true, 0, 0⟩ ⟨true, 1, 0⟩ n 1) := rfl
    rw [e7] at hD7
    simp only [e7, OpI_int, T2_mk]
    have L7 : Keep (fun _ => False) W x7 := L6.trans' k7 (fun k hk e => by omega)
    rw [show ((0 : Int) != 0) = false from rfl, Cb_false]
    refine mem_Ready hD7 fun x8 k8 => ?_
    have hD8 := hD7.keep k8 (by simp) (by simp)
    have L8 := L7.trans k8
    have e8 : readyS (even ⟨true, 0, 0⟩ ⟨true, 1, 0⟩ n 1) 0 = false := by simp [readyS, key_even (show (0 : Int) ≤ 1 by decide) hn]
    rw [e8]
    simp only [OpB_bool]
    rw [show (false == true) = false from rfl, Cb_false]
    refine mem_Suspects hD8 ?_
    rw [show suspS (even ⟨true, 0, 0⟩ ⟨true, 1, 0⟩ n 1) 0 = false from rfl]
    simp only [OpB_bool, Cb_false]
    refine mem_Join hD8 fun x9 hD9 k9 => ?_
    have e9 : joinS (even ⟨true, 0, 0⟩ ⟨true, 1, 0⟩ n 1) 0 = (0, even ⟨true, 1, 0⟩ ⟨true, 1, 0⟩ n 1) := by simp [joinS, readyS, key_even (show (0 : Int) ≤ 1 by decide) hn]
    rw [e9] at hD9
    simp only [e9, OpI_int, T2_mk]
    have L9 : Keep (fun _ => False) W x9 := L8.trans' k9 (fun k hk e => by omega)
    refine mem_Ready hD9 fun x10 k10 => ?_
    have hD10 := hD9.keep k10 (by simp) (by simp)
    have L10 := L9.trans k10
    have e10 : readyS (even ⟨true, 1, 0⟩ ⟨true, 1, 0⟩ n 1) 0 = true := by simp [readyS, key_even (show (0 : Int) ≤ 1 by decide) hn]
    rw [e10]
    simp only [OpB_bool]
    rw [Cb_true]
    refine mem_Ready hD10 fun x11 k11 => ?_
    have hD11 := hD10.keep k11 (by simp) (by simp)
    have L11 := L10.trans k11
    have e11 : readyS (even ⟨true, 1, 0⟩ ⟨true, 1, 0⟩ n 1) 1 = true := by simp [readyS, key_even (show (0 : Int) ≤ 1 by decide) hn]
    rw [e11]
    simp only [OpB_bool]
    rw [show (cond true (((0 : Int) == 0) == true) false) = true from rfl, Cb_true]
    first | exact ⟨rfl, L11.below⟩ | exact ⟨rfl, rfl, L11.below⟩ | exact ⟨rfl, trivial, L11.below⟩
  · simp only [Req_true, Req_rfl, wr1, wr0, Cb_true, Cb_false, cond_true, cond_false]
    refine mem_Crash hC2 fun x1 hD1 k1 => ?_
    have e1 : crashS (even ⟨true, 0, 0⟩ ⟨true, 0, 0⟩ n 0) 1 = (0, even ⟨true, 0, 0⟩ ⟨false, 0, 0⟩ n 0) := rfl
    rw [e1] at hD1
    simp only [e1, OpI_int, T2_mk]
    have L1 : Keep (fun _ => False) W x1 := K2.trans' k1 (fun k hk e => by omega)
    rw [show ((0 : Int) != 0) = false from rfl, Cb_false]
    refine mem_Ready hD1 fun x2 k2 => ?_
    have hD2 := hD1.keep k2 (by simp) (by simp)
    have L2 := L1.trans k2
    have e2 : readyS (even ⟨true, 0, 0⟩ ⟨false, 0, 0⟩ n 0) 1 = false := by simp [readyS, key_even (show (0 : Int) ≤ 0 by decide) hn]
    rw [e2]
    simp only [OpB_bool]
    rw [Cb_false]
    refine mem_Beat hD2 fun x3 hD3 k3 => ?_
    have e3 : beatS (even ⟨true, 0, 0⟩ ⟨false, 0, 0⟩ n 0) 1 = (13, even ⟨true, 0, 0⟩ ⟨false, 0, 0⟩ n 0) := rfl
    rw [e3] at hD3
    simp only [e3, OpI_int, T2_mk]
    have L3 : Keep (fun _ => False) W x3 := L2.trans' k3 (fun k hk e => by omega)
    rw [show ((13 : Int) != 13) = false from rfl, Cb_false]
    refine mem_Beat hD3 fun x4 hD4 k4 => ?_
    have e4 : beatS (even ⟨true, 0, 0⟩ ⟨false, 0, 0⟩ n 0) 0 = (13, even ⟨true, 0, 0⟩ ⟨false, 0, 0⟩ n 0) := rfl
    rw [e4] at hD4
    simp only [e4, OpI_int, T2_mk]
    have L4 : Keep (fun _ => False) W x4 := L3.trans' k4 (fun k hk e => by omega)
    rw [show ((13 : Int) != 13) = false from rfl, Cb_false]
    refine mem_Join hD4 fun x5 hD5 k5 => ?_
    have e5 : joinS (even ⟨true, 0, 0⟩ ⟨false, 0, 0⟩ n 0) 1 = (13, even ⟨true, 0, 0⟩ ⟨false, 0, 0⟩ n 0) := rfl
    rw [e5] at hD5
    simp only [e5, OpI_int, T2_mk]
    have L5 : Keep (fun _ => False) W x5 := L4.trans' k5 (fun k hk e => by omega)
    rw [show ((13 : Int) != 13) = false from rfl, Cb_false]
    refine LoopC_of (σ := Int × Unit) (fun s w' => 0 ≤ s.1 ∧ s.1 ≤ 0 ∧ Keep (fun _ => False) W w' ∧ ClubAt w' c q (even ⟨true, 0, s.1⟩ ⟨false, 0, 0⟩ n 0)) (fun s _ => (3 - s.1).toNat) ⟨by decide, by decide, L5, hD5⟩ ?_
    intro _ s x hI
    obtain ⟨i, u⟩ := s
    obtain ⟨h0, h3, K, hD⟩ := hI
    simp only at h0 h3 hD ⊢
    have hi : i = 0 := by omega
    subst hi
    rw [show (cond (decide ((0 : Int) < 3)) false false) = false from rfl, Cb_false]
    refine mem_Claim hD (ok_even (by decide) (by decide) (by decide)) fun x6 hD6 k6 => ?_
    have e6 : claimS (even ⟨true, 0, 0⟩ ⟨false, 0, 0⟩ n 0) 0 = (0, 12, even ⟨true, 0, 0⟩ ⟨false, 0, 0⟩ n 0) := by simp [claimS, readyS, suspS, key_even (show (0 : Int) ≤ 0 by decide) hn]
    rw [e6] at hD6
    simp only [e6, OpI_int, T2_mk]
    have L6 : Keep (fun _ => False) W x6 := K.trans' k6 (fun k hk e => by omega)
    rw [show (!(false == ((12 : Int) == 0))) = false from rfl, Cb_false, show (!false) = true from rfl, Cb_true, show ((12 : Int) != 12) = false from rfl, Cb_false]
    refine mem_Restart hD6 fun x7 hD7 k7 => ?_
    have e7 : restartS (even ⟨true, 0, 0⟩ ⟨false, 0, 0⟩ n 0) 1 = (0, even ⟨true, 0, 0⟩ ⟨true, 0, 0⟩ n 0) := rfl
    rw [e7] at hD7
    simp only [e7, OpI_int, T2_mk]
    have L7 : Keep (fun _ => False) W x7 := L6.trans' k7 (fun k hk e => by omega)
    rw [show ((0 : Int) != 0) = false from rfl, Cb_false]
    refine mem_Ready hD7 fun x8 k8 => ?_
    have hD8 := hD7.keep k8 (by simp) (by simp)
    have L8 := L7.trans k8
    have e8 : readyS (even ⟨true, 0, 0⟩ ⟨true, 0, 0⟩ n 0) 1 = true := by simp [readyS, key_even (show (0 : Int) ≤ 0 by decide) hn]
    rw [e8]
    simp only [OpB_bool]
    rw [show (true == false) = false from rfl, Cb_false]
    refine mem_Suspects hD8 ?_
    rw [show suspS (even ⟨true, 0, 0⟩ ⟨true, 0, 0⟩ n 0) 1 = false from rfl]
    simp only [OpB_bool, Cb_false]
    refine mem_Join hD8 fun x9 hD9 k9 => ?_
    have e9 : joinS (even ⟨true, 0, 0⟩ ⟨true, 0, 0⟩ n 0) 1 = (11, even ⟨true, 0, 0⟩ ⟨true, 0, 0⟩ n 0) := by simp [joinS, readyS, key_even (show (0 : Int) ≤ 0 by decide) hn]
    rw [e9] at hD9
    simp only [e9, OpI_int, T2_mk]
    have L9 : Keep (fun _ => False) W x9 := L8.trans' k9 (fun k hk e => by omega)
    refine mem_Ready hD9 fun x10 k10 => ?_
    have hD10 := hD9.keep k10 (by simp) (by simp)
    have L10 := L9.trans k10
    have e10 : readyS (even ⟨true, 0, 0⟩ ⟨true, 0, 0⟩ n 0) 1 = true := by simp [readyS, key_even (show (0 : Int) ≤ 0 by decide) hn]
    rw [e10]
    simp only [OpB_bool]
    rw [Cb_true]
    refine mem_Ready hD10 fun x11 k11 => ?_
    have hD11 := hD10.keep k11 (by simp) (by simp)
    have L11 := L10.trans k11
    have e11 : readyS (even ⟨true, 0, 0⟩ ⟨true, 0, 0⟩ n 0) 0 = true := by simp [readyS, key_even (show (0 : Int) ≤ 0 by decide) hn]
    rw [e11]
    simp only [OpB_bool]
    rw [show (cond true (((11 : Int) == 0) == false) false) = true from rfl, Cb_true]
    first | exact ⟨rfl, L11.below⟩ | exact ⟨rfl, rfl, L11.below⟩ | exact ⟨rfl, trivial, L11.below⟩
  · simp only [Req_true, Req_rfl, wr1, wr0, Cb_true, Cb_false, cond_true, cond_false]
    refine mem_Crash hC2 fun x1 hD1 k1 => ?_
    have e1 : crashS (even ⟨true, 0, 0⟩ ⟨true, 0, 0⟩ n 0) 1 = (0, even ⟨true, 0, 0⟩ ⟨false, 0, 0⟩ n 0) := rfl
    rw [e1] at hD1
    simp only [e1, OpI_int, T2_mk]
    have L1 : Keep (fun _ => False) W x1 := K2.trans' k1 (fun k hk e => by omega)
    rw [show ((0 : Int) != 0) = false from rfl, Cb_false]
    refine mem_Ready hD1 fun x2 k2 => ?_
    have hD2 := hD1.keep k2 (by simp) (by simp)
    have L2 := L1.trans k2
    have e2 : readyS (even ⟨true, 0, 0⟩ ⟨false, 0, 0⟩ n 0) 1 = false := by simp [readyS, key_even (show (0 : Int) ≤ 0 by decide) hn]
    rw [e2]
    simp only [OpB_bool]
    rw [Cb_false]
    refine mem_Beat hD2 fun x3 hD3 k3 => ?_
    have e3 : beatS (even ⟨true, 0, 0⟩ ⟨false, 0, 0⟩ n 0) 1 = (13, even ⟨true, 0, 0⟩ ⟨false, 0, 0⟩ n 0) := rfl
    rw [e3] at hD3
    simp only [e3, OpI_int, T2_mk]
    have L3 : Keep (fun _ => False) W x3 := L2.trans' k3 (fun k hk e => by omega)
    rw [show ((13 : Int) != 13) = false from rfl, Cb_false]
    refine mem_Beat hD3 fun x4 hD4 k4 => ?_
    have e4 : beatS (even ⟨true, 0, 0⟩ ⟨false, 0, 0⟩ n 0) 0 = (13, even ⟨true, 0, 0⟩ ⟨false, 0, 0⟩ n 0) := rfl
    rw [e4] at hD4
    simp only [e4, OpI_int, T2_mk]
    have L4 : Keep (fun _ => False) W x4 := L3.trans' k4 (fun k hk e => by omega)
    rw [show ((13 : Int) != 13) = false from rfl, Cb_false]
    refine mem_Join hD4 fun x5 hD5 k5 => ?_
    have e5 : joinS (even ⟨true, 0, 0⟩ ⟨false, 0, 0⟩ n 0) 1 = (13, even ⟨true, 0, 0⟩ ⟨false, 0, 0⟩ n 0) := rfl
    rw [e5] at hD5
    simp only [e5, OpI_int, T2_mk]
    have L5 : Keep (fun _ => False) W x5 := L4.trans' k5 (fun k hk e => by omega)
    rw [show ((13 : Int) != 13) = false from rfl, Cb_false]
    refine LoopC_of (σ := Int × Unit) (fun s w' => 0 ≤ s.1 ∧ s.1 ≤ 3 ∧ Keep (fun _ => False) W w' ∧ ClubAt w' c q (even ⟨true, 0, s.1⟩ ⟨false, 0, 0⟩ n 0)) (fun s _ => (3 - s.1).toNat) ⟨by decide, by decide, L5, hD5⟩ ?_
    intro _ s x hI
    obtain ⟨i, u⟩ := s
    obtain ⟨h0, h3, K, hD⟩ := hI
    simp only at h0 h3 hD ⊢
    refine Cb_of (fun hl => ?_) (fun hl => ?_)
    · have hl' : i < 3 := by by_cases h : i < 3; exact h; simp [h] at hl
      refine mem_Tick hD fun y hE ky => ?_
      rw [tick_ev0 h0 h3] at hE
      simp only [tick_ev0 h0 h3, OpI_int]
      rw [show ((0 : Int) != 0) = false from rfl, Cb_false, wrapI (by omega) (by omega)]
      exact ⟨_, by omega, ⟨by omega, by omega, K.trans' ky (fun k hk e => by omega), hE⟩, rfl⟩
    have hi : i = 3 := by by_cases h : i < 3; simp [h] at hl; omega
    subst hi
    refine mem_Claim hD (ok_even (by decide) (by decide) (by decide)) fun x6 hD6 k6 => ?_
    have e6 : claimS (even ⟨true, 0, 3⟩ ⟨false, 0, 0⟩ n 0) 0 = (2, 0, even ⟨true, 2, 0⟩ ⟨false, 0, 0⟩ n 2) := claim_ev0 hn
    rw [e6] at hD6
    simp only [e6, OpI_int, T2_mk]
    have L6 : Keep (fun _ => False) W x6 := K.trans' k6 (fun k hk e => by omega)
    rw [show (!(true == ((0 : Int) == 0))) = false from rfl, Cb_false, show (!true) = false from rfl, Cb_false]
    refine mem_Restart hD6 fun x7 hD7 k7 => ?_
    have e7 : restartS (even ⟨true, 2, 0⟩ ⟨false, 0, 0⟩ n 2) 1 = (0, even ⟨true, 2, 0⟩ ⟨true, 0, 0⟩ n 2) := rfl
    rw [e7] at hD7
    simp only [e7, OpI_int, T2_mk]
    have L7 : Keep (fun _ => False) W x7 := L6.trans' k7 (fun k hk e => by omega)
    rw [show ((0 : Int) != 0) = false from rfl, Cb_false]
    refine mem_Ready hD7 fun x8 k8 => ?_
    have hD8 := hD7.keep k8 (by simp) (by simp)
    have L8 := L7.trans k8
    have e8 : readyS (even ⟨true, 2, 0⟩ ⟨true, 0, 0⟩ n 2) 1 = false := by simp [readyS, key_even (show (0 : Int) ≤ 2 by decide) hn]
    rw [e8]
    simp only [OpB_bool]
    rw [show (false == true) = false from rfl, Cb_false]
    refine mem_Suspects hD8 ?_
    rw [show suspS (even ⟨true, 2, 0⟩ ⟨true, 0, 0⟩ n 2) 1 = false from rfl]
    simp only [OpB_bool, Cb_false]
    refine mem_Join hD8 fun x9 hD9 k9 => ?_
    have e9 : joinS (even ⟨true, 2, 0⟩ ⟨true, 0, 0⟩ n 2) 1 = (0, even ⟨true, 2, 0⟩ ⟨true, 2, 0⟩ n 2) := by simp [joinS, readyS, key_even (show (0 : Int) ≤ 2 by decide) hn]
    rw [e9] at hD9
    simp only [e9, OpI_int, T2_mk]
    have L9 : Keep (fun _ => False) W x9 := L8.trans' k9 (fun k hk e => by omega)
    refine mem_Ready hD9 fun x10 k10 => ?_
    have hD10 := hD9.keep k10 (by simp) (by simp)
    have L10 := L9.trans k10
    have e10 : readyS (even ⟨true, 2, 0⟩ ⟨true, 2, 0⟩ n 2) 1 = true := by simp [readyS, key_even (show (0 : Int) ≤ 2 by decide) hn]
    rw [e10]
    simp only [OpB_bool]
    rw [Cb_true]
    refine mem_Ready hD10 fun x11 k11 => ?_
    have hD11 := hD10.keep k11 (by simp) (by simp)
    have L11 := L10.trans k11
    have e11 : readyS (even ⟨true, 2, 0⟩ ⟨true, 2, 0⟩ n 2) 0 = true := by simp [readyS, key_even (show (0 : Int) ≤ 2 by decide) hn]
    rw [e11]
    simp only [OpB_bool]
    rw [show (cond true (((0 : Int) == 0) == true) false) = true from rfl, Cb_true]
    first | exact ⟨rfl, L11.below⟩ | exact ⟨rfl, rfl, L11.below⟩ | exact ⟨rfl, trivial, L11.below⟩
end Go.Proofs
