/-
  THE CLUB OF TWO MEMBERS, on: claims, joins, disks, and how a club is made.
-/
import Derived.Test.YtdjlmpkjdgmkkaaMem
namespace Go.Proofs
open Go Go.Ev
set_option linter.unusedSimpArgs false
set_option linter.unusedVariables false
set_option maxRecDepth 100000

def ClubOk (cl : Club) : Prop := (0 ≤ cl.a.epoch ∧ cl.a.epoch ≤ 4294967295) ∧ (0 ≤ cl.b.epoch ∧ cl.b.epoch ≤ 4294967295) ∧ ∀ i, i < cl.n → 0 ≤ (cl.d i).2 ∧ (cl.d i).2 ≤ 4294967295
theorem key_ok {cl : Club} (h : ClubOk cl) : 0 ≤ cl.key ∧ cl.key ≤ 4294967295 := by
  have : ∀ j, j ≤ cl.n → 0 ≤ keyN cl.d j ∧ keyN cl.d j ≤ 4294967295 := by
    intro j
    induction j with
    | zero => intro _; simp [keyN]
    | succ j ih =>
      intro hj
      have h1 := ih (by omega)
      have h2 := h.2.2 j (by omega)
      unfold keyN
      split <;> omega
  exact this cl.n (Nat.le_refl _)
theorem one_ok {cl : Club} (h : ClubOk cl) (n : Int) : 0 ≤ (cl.one n).epoch ∧ (cl.one n).epoch ≤ 4294967295 := by
  unfold Club.one; split
  · exact h.1
  · exact h.2.1

def claimS (cl : Club) (n : Int) : Int × Int × Club :=
  if ¬ sideOk n then (0, 2, cl) else if readyS cl n = false then (0, 13, cl) else if suspS cl n = false then (0, 12, cl) else
    let r := afterS (max (cl.one n).epoch cl.key) n
    if r.2 ≠ 0 then (0, r.2, cl) else
      (r.1, 0, { cl.set n ⟨(cl.one n).lives, r.1, 0⟩ with d := fun i => if (cl.d i).1 then (true, r.1) else cl.d i })

/-- the claim's own loop: the living disks take the key -/
theorem claim_loop {c q cap : Nat} {cl : Club} {e : Int} {w : World} {R : Value → World → Prop} (hne : c ≠ q) (h1 : Has w c (.cells (clubV cl q cap) 79 (0, 0))) {cur : Array Value} (h2 : Has w q (.cells cur 81 (0, 0))) (h3 : cl.n ≤ maxLen)
    (h4 : ∀ i, i < cl.n → cur[2 * i]? = some (.bool (cl.d i).1) ∧ cur[2 * i + 1]? = some (.int .u32 (cl.d i).2))
    (hK : ∀ w', ClubAt w' c q { cl with d := fun i => if (cl.d i).1 then (true, e) else cl.d i } → Keep (fun k => k = q) w w' → R (.tuple #[.int .u32 e, .int .i64 0]) w') :
    LoopC (σ := Int × Unit) (fun _ s1 w K1 => Cb (decide (s1.1 < ((cl.n : Nat) : Int))) (LdV c 6 (At w) fun v10 => OpS v10 fun p1 l1 c2 => IdxS p1 l1 s1.1 2 fun b1 o1 => LdV b1 o1 (At w) fun v11 => OpB v11 fun g2 =>
      Cb g2 (LdV c 6 (At w) fun v12 => OpS v12 fun p2 l2 c3 => IdxS p2 l2 s1.1 2 fun b2 o2 => StV b2 (o2 + 1) (.int .u32 e) w fun w => K1 (IntKind.wrap .i64 (s1.1 + 1), ()) w) (K1 (IntKind.wrap .i64 (s1.1 + 1), ()) w))
      (Ret [] (R (.tuple #[.int .u32 e, .int .i64 0]) w))) (0, ()) w := by
  have hmax : cl.n ≤ 9223372036854775807 := by simpa [maxLen] using h3
  refine LoopC_of (σ := Int × Unit) (fun s w' => ∃ j : Nat, s.1 = j ∧ j ≤ cl.n ∧ Has w' c (.cells (clubV cl q cap) 79 (0, 0)) ∧ Keep (fun k => k = q) w w' ∧ ∃ cur', Has w' q (.cells cur' 81 (0, 0)) ∧
      ∀ i, i < cl.n → cur'[2 * i]? = some (.bool (cl.d i).1) ∧ cur'[2 * i + 1]? = some (.int .u32 (if i < j ∧ (cl.d i).1 = true then e else (cl.d i).2))) (fun s _ => (cl.n - s.1).toNat)
    ⟨0, rfl, by omega, h1, Keep.refl _ _, cur, h2, fun i hi => by simpa using h4 i hi⟩ ?_
  intro _ s w1 hI
  obtain ⟨i, u⟩ := s
  obtain ⟨j, hij, hjn, g1, hk, cur', g2, g4⟩ := hI
  simp only at hij ⊢
  subst hij
  refine Cb_of (fun hc => ?_) (fun hc => ?_)
  · simp only [decide_eq_true_eq] at hc
    have hj : j < cl.n := by omega
    refine LdV_has (v := .slice (some ⟨q, 0, none⟩) cl.n cap) g1 rfl ?_
    simp only [OpS_slice]
    refine ⟨q, 0, rfl, by omega, hc, ?_⟩
    obtain ⟨f1, f2⟩ := g4 j hj
    rw [show 0 + (j : Int).toNat * 2 = 2 * j by omega]
    refine LdV_has g2 f1 ?_
    simp only [OpB_bool]
    have ew : IntKind.wrap .i64 ((j : Int) + 1) = ((j + 1 : Nat) : Int) := by rw [wrapI (by omega) (by omega)]; omega
    rw [ew]
    refine Cb_of (fun hl => ?_) (fun hl => ?_)
    · refine LdV_has (v := .slice (some ⟨q, 0, none⟩) cl.n cap) g1 rfl ?_
      simp only [OpS_slice]
      refine ⟨q, 0, rfl, by omega, hc, ?_⟩
      rw [show 0 + (j : Int).toNat * 2 = 2 * j by omega]
      have hlt : 2 * j + 1 < cur'.size := (Array.getElem?_eq_some_iff.1 f2).1
      refine StV_of g2 hlt rfl ?_
      refine ⟨_, by omega, ⟨j + 1, rfl, hj, g1.upd hne, hk.upd (fun _ => rfl) _, _, g2.upd_same _, fun i hi => ?_⟩, rfl⟩
      obtain ⟨k1, k2⟩ := g4 i hi
      rw [Array.getElem?_setIfInBounds, Array.getElem?_setIfInBounds, if_neg (by omega)]
      refine ⟨k1, ?_⟩
      by_cases hij : i = j
      · subst hij
        rw [if_pos rfl, if_pos hlt, if_pos ⟨by omega, hl⟩]
      · rw [if_neg (by omega), k2]
        by_cases hlt2 : i < j ∧ (cl.d i).1 = true
        · rw [if_pos hlt2, if_pos ⟨by omega, hlt2.2⟩]
        · rw [if_neg hlt2, if_neg (by intro hh; exact hlt2 ⟨by omega, hh.2⟩)]
    · refine ⟨_, by omega, ⟨j + 1, rfl, hj, g1, hk, cur', g2, fun i hi => ?_⟩, rfl⟩
      obtain ⟨k1, k2⟩ := g4 i hi
      refine ⟨k1, ?_⟩
      rw [k2]
      by_cases hij : i = j
      · subst hij
        rw [if_neg (by simp), if_neg (by simp [hl])]
      · by_cases hlt2 : i < j ∧ (cl.d i).1 = true
        · rw [if_pos hlt2, if_pos ⟨by omega, hlt2.2⟩]
        · rw [if_neg hlt2, if_neg (by intro hh; exact hlt2 ⟨by omega, hh.2⟩)]
  · simp only [decide_eq_false_iff_not] at hc
    simp only [Ret_nil]
    have : j = cl.n := by omega
    subst this
    refine hK w1 ⟨cap, cur', g1, g2, h3, fun i hi => ?_⟩ hk
    obtain ⟨k1, k2⟩ := g4 i hi
    simp only
    rw [k1, k2]
    by_cases hl : (cl.d i).1 = true
    · have hi' : i < cl.n := hi
      simp [hl, hi']
    · simp [hl]

theorem club_ld {c q : Nat} {cl : Club} {w : World} {o : Nat} {v : Value} {K : Value → Prop} (hv : ∀ cap, (clubV cl q cap)[o]? = some v) (hK : K v) : LdV c o (fun w' => ClubAt w' c q cl ∧ Keep (fun _ => False) w w') K :=
  LdV_of (fun w' ⟨⟨cap, cur, h1, _⟩, _⟩ => ⟨_, _, _, h1, hv cap⟩) hK

theorem club_ldA {c q : Nat} {cl : Club} {w : World} {o : Nat} {v : Value} {K : Value → Prop} (h : ClubAt w c q cl) (hv : ∀ cap, (clubV cl q cap)[o]? = some v) (hK : K v) : LdV c o (At w) K := by
  obtain ⟨cap, cur, h1, _⟩ := h
  exact LdV_has h1 (hv cap) hK
theorem mem_Claim {c q : Nat} {n : Int} {cl : Club} {w : World} {R : Value → World → Prop} (h : ClubAt w c q cl) (ho : ClubOk cl)
    (hK : ∀ w', ClubAt w' c q (claimS cl n).2.2 → Keep (fun k => k = c ∨ k = q) w w' → R (.tuple #[.int .u32 (claimS cl n).1, .int .i64 (claimS cl n).2.1]) w') :
    CallV Try.prog 24 #[.pointer (some ⟨c, 0, none⟩), .int .i64 n] w R := by
  apply C_member_Club_Claim
  unfold F_member_Club_Claim
  refine mem_side ?_
  by_cases hn : ¬ sideOk n
  · rw [if_neg hn]
    simp only [OpP_none, Ret_nil]
    have e : claimS cl n = (0, 2, cl) := by simp [claimS, hn]
    rw [e] at hK
    exact hK w h (Keep.refl _ _)
  replace hn := Decidable.not_not.1 hn
  rw [if_pos hn]
  simp only [OpP_some]
  refine mem_Ready h fun w1 k1 => ?_
  have h1 := h.keep k1 (by simp) (by simp)
  have j1 : Keep (fun k => k = c ∨ k = q) w w1 := k1.mono (fun _ h => h.elim)
  simp only [OpB_bool]
  refine Cb_of (fun hr => ?_) (fun hr => ?_)
  · have e : claimS cl n = (0, 13, cl) := by simp only [Bool.not_eq_true'] at hr; simp [claimS, hn, hr]
    rw [e] at hK
    simp only [Ret_nil]
    exact hK w1 h1 j1
  simp only [Bool.not_eq_false'] at hr
  refine mem_Suspects h1 ?_
  simp only [OpB_bool]
  refine Cb_of (fun hs => ?_) (fun hs => ?_)
  · have e : claimS cl n = (0, 12, cl) := by simp only [Bool.not_eq_true'] at hs; simp [claimS, hn, hr, hs]
    rw [e] at hK
    simp only [Ret_nil]
    exact hK w1 h1 j1
  simp only [Bool.not_eq_false'] at hs
  intro d
  have hd := h1.keep (Keep.drew (fun _ => False) w1 d) (by simp) (by simp)
  refine ⟨fun w' => ClubAt w' c q cl ∧ Keep (fun _ => False) w1 w', ⟨hd, Keep.drew _ _ _⟩, ?_⟩
  have hko := key_ok ho
  have hoo := one_ok ho n
  have he : (afterS (max (cl.one n).epoch cl.key) n).2 = 0 → claimS cl n = ((afterS (max (cl.one n).epoch cl.key) n).1, 0, { cl.set n ⟨(cl.one n).lives, (afterS (max (cl.one n).epoch cl.key) n).1, 0⟩ with d := fun i => if (cl.d i).1 then (true, (afterS (max (cl.one n).epoch cl.key) n).1) else cl.d i }) := by
    intro h0
    simp [claimS, hn, hr, hs, h0]
  have he' : (afterS (max (cl.one n).epoch cl.key) n).2 ≠ 0 → claimS cl n = (0, (afterS (max (cl.one n).epoch cl.key) n).2, cl) := by
    intro h0
    simp [claimS, hn, hr, hs, h0]
  have hone : ∀ cap, (clubV cl q cap)[0 + n.toNat * 3 + 1]? = some (.int .u32 (cl.one n).epoch) := by rcases hn with rfl | rfl <;> intro cap <;> rfl
  refine club_ld hone ?_
  simp only [OpI_int]
  refine mem_key hd fun w2 k2 => ?_
  have h2 := hd.keep k2 (by simp) (by simp)
  have k12 : Keep (fun _ => False) w1 w2 := (Keep.drew _ _ _).trans k2
  simp only [OpI_int]
  refine ⟨⟨h2, k12⟩, ?_⟩
  refine ⟨_, fun w' _ => run_max _ _ _ _ _ _, ?_⟩
  simp only [OpI_int]
  refine merge_After (by omega) (by omega) (by rcases hn with rfl | rfl <;> omega) ?_
  simp only [T2_mk, OpI_int]
  refine ⟨⟨h2, k12⟩, ?_⟩
  have j2 : Keep (fun k => k = c ∨ k = q) w w2 := j1.trans (k12.mono (fun _ h => h.elim))
  refine Cb_of (fun hb => ?_) (fun hb => ?_)
  · simp only [bne_iff_ne, ne_eq] at hb
    rw [he' hb] at hK
    simp only [Ret_nil]
    exact hK w2 h2 j2
  simp only [bne_eq_false_iff_eq] at hb
  rw [he hb] at hK
  generalize (afterS (max (cl.one n).epoch cl.key) n).1 = e at *
  obtain ⟨cap, cur, f1, f2, f3, f4⟩ := id h2
  have hne := h2.ne
  rw [StV_iff f1]
  refine ⟨rfl, by rcases hn with rfl | rfl <;> simp [clubV], ?_⟩
  rw [StV_upd f1.lt]
  refine ⟨rfl, by rcases hn with rfl | rfl <;> simp [clubV], ?_⟩
  have hcs : ((clubV cl q cap).setIfInBounds (0 + n.toNat * 3 + 1) (.int .u32 e)).setIfInBounds (0 + n.toNat * 3 + 2) (.int .i64 0) = clubV (cl.set n ⟨(cl.one n).lives, e, 0⟩) q cap := by
    rcases hn with rfl | rfl <;> simp [clubV, Club.set, Club.one]
  rw [hcs]
  have f1' := f1.upd_same (.cells (clubV (cl.set n ⟨(cl.one n).lives, e, 0⟩) q cap) 79 (0, 0))
  have f2' := f2.upd (y := .cells (clubV (cl.set n ⟨(cl.one n).lives, e, 0⟩) q cap) 79 (0, 0)) (fun e => hne e.symm)
  have en : (cl.set n ⟨(cl.one n).lives, e, 0⟩).n = cl.n := by unfold Club.set; split <;> rfl
  have ed : (cl.set n ⟨(cl.one n).lives, e, 0⟩).d = cl.d := by unfold Club.set; split <;> rfl
  have j3 : Keep (fun k => k = c ∨ k = q) w (w2.upd c (.cells (clubV (cl.set n ⟨(cl.one n).lives, e, 0⟩) q cap) 79 (0, 0))) := j2.upd (fun _ => Or.inl rfl) _
  refine LdV_has (v := .slice (some ⟨q, 0, none⟩) (cl.set n ⟨(cl.one n).lives, e, 0⟩).n cap) f1' rfl ?_
  simp only [OpS_slice]
  rw [← ed] at hK
  refine claim_loop hne f1' f2' (by rw [en]; exact f3) (by rw [en, ed]; exact f4) fun w' hc' hk' => hK w' hc' (j3.trans (hk'.mono fun _ h => Or.inr h))

def joinS (cl : Club) (n : Int) : Int × Club :=
  if ¬ sideOk n then (2, cl) else if (cl.one n).lives = false ∨ readyS cl (1 - n) = false then (13, cl) else
    if readyS cl n = true then if (cl.one n).epoch = (cl.one (1 - n)).epoch then (11, cl) else (12, cl)
    else (0, (cl.set n ⟨(cl.one n).lives, (cl.one (1 - n)).epoch, 0⟩).set (1 - n) { cl.one (1 - n) with sil := 0 })
theorem mem_Join {c q : Nat} {n : Int} {cl : Club} {w : World} {R : Value → World → Prop} (h : ClubAt w c q cl) (hK : ∀ w', ClubAt w' c q (joinS cl n).2 → Keep (fun k => k = c) w w' → R (.int .i64 (joinS cl n).1) w') :
    CallV Try.prog 22 #[.pointer (some ⟨c, 0, none⟩), .int .i64 n] w R := by
  apply C_member_Club_Join
  unfold F_member_Club_Join
  refine mem_side ?_
  by_cases hn : ¬ sideOk n
  · rw [if_neg hn]
    simp only [OpP_none, Ret_nil]
    have e : joinS cl n = (2, cl) := by simp [joinS, hn]
    rw [e] at hK
    exact hK w h (Keep.refl _ _)
  replace hn := Decidable.not_not.1 hn
  rw [if_pos hn]
  have hn' : sideOk (1 - n) := by unfold sideOk at *; omega
  have ew : IntKind.wrap .i64 (1 - n) = 1 - n := wrapI (by unfold sideOk at hn; omega) (by unfold sideOk at hn; omega)
  rw [ew]
  simp only [OpP_some]
  obtain ⟨cap, cur, h1, h2, h3, h4⟩ := id h
  have hliv : ∀ cap, (clubV cl q cap)[0 + n.toNat * 3]? = some (.bool (cl.one n).lives) := by rcases hn with rfl | rfl <;> intro cap <;> rfl
  have hep : ∀ cap, (clubV cl q cap)[0 + n.toNat * 3 + 1]? = some (.int .u32 (cl.one n).epoch) := by rcases hn with rfl | rfl <;> intro cap <;> rfl
  have hep' : ∀ cap, (clubV cl q cap)[0 + (1 - n).toNat * 3 + 1]? = some (.int .u32 (cl.one (1 - n)).epoch) := by rcases hn with rfl | rfl <;> intro cap <;> rfl
  refine LdV_has h1 (hliv cap) ?_
  simp only [OpB_bool]
  refine Cb_of (fun hl => ?_) (fun hl => ?_)
  · have e : joinS cl n = (13, cl) := by simp only [Bool.not_eq_true'] at hl; simp [joinS, hn, hl]
    rw [e] at hK
    simp only [Ret_nil]
    exact hK w h (Keep.refl _ _)
  simp only [Bool.not_eq_false'] at hl
  refine mem_Ready h fun w1 k1 => ?_
  have c1 := h.keep k1 (by simp) (by simp)
  have j1 : Keep (fun k => k = c) w w1 := k1.mono (fun _ h => h.elim)
  simp only [OpB_bool]
  refine Cb_of (fun hr => ?_) (fun hr => ?_)
  · have e : joinS cl n = (13, cl) := by simp only [Bool.not_eq_true'] at hr; simp [joinS, hn, hr]
    rw [e] at hK
    simp only [Ret_nil]
    exact hK w1 c1 j1
  simp only [Bool.not_eq_false'] at hr
  refine mem_side ?_
  rw [if_pos hn']
  simp only [OpP_some]
  intro d
  have hd := c1.keep (Keep.drew (fun _ => False) w1 d) (by simp) (by simp)
  refine ⟨fun w' => ClubAt w' c q cl ∧ Keep (fun _ => False) w1 w', ⟨hd, Keep.drew _ _ _⟩, ?_⟩
  refine mem_Ready hd fun w2 k2 => ?_
  have c2 := hd.keep k2 (by simp) (by simp)
  have k12 : Keep (fun _ => False) w1 w2 := (Keep.drew _ _ _).trans k2
  have j2 : Keep (fun k => k = c) w w2 := j1.trans (k12.mono (fun _ h => h.elim))
  simp only [OpB_bool]
  refine ⟨⟨c2, k12⟩, ?_⟩
  refine Cb_of (fun hg => ?_) (fun hg => ?_)
  · refine club_ldA c2 hep ?_
    simp only [OpI_int]
    refine club_ldA c2 hep' ?_
    simp only [OpI_int]
    refine Cb_of (fun he => ?_) (fun he => ?_)
    · have e : joinS cl n = (11, cl) := by simp only [beq_iff_eq] at he; simp [joinS, hn, hr, hl, hg, he]
      rw [e] at hK
      simp only [Ret_nil]
      exact hK w2 c2 j2
    · have e : joinS cl n = (12, cl) := by simp only [beq_eq_false_iff_ne, ne_eq] at he; simp [joinS, hn, hr, hl, hg, he]
      rw [e] at hK
      refine mem_Ready c2 fun w3 k3 => ?_
      simp only [OpB_bool]
      rw [hg, Cb_true]
      simp only [Ret_nil]
      exact hK w3 (c2.keep k3 (by simp) (by simp)) (j2.trans (k3.mono fun _ h => h.elim))
  · refine mem_Ready c2 fun w3 k3 => ?_
    simp only [OpB_bool]
    rw [hg, Cb_false]
    have c3 := c2.keep k3 (by simp) (by simp)
    have j3 : Keep (fun k => k = c) w w3 := j2.trans (k3.mono fun _ h => h.elim)
    have e : joinS cl n = (0, (cl.set n ⟨(cl.one n).lives, (cl.one (1 - n)).epoch, 0⟩).set (1 - n) { cl.one (1 - n) with sil := 0 }) := by simp [joinS, hn, hr, hl, hg]
    rw [e] at hK
    obtain ⟨cap3, cur3, f1, f2, f3, f4⟩ := id c3
    refine LdV_has f1 (hep' cap3) ?_
    simp only [OpI_int]
    rw [StV_iff f1]
    refine ⟨rfl, by rcases hn with rfl | rfl <;> simp [clubV], ?_⟩
    rw [StV_upd f1.lt]
    refine ⟨rfl, by rcases hn with rfl | rfl <;> simp [clubV], ?_⟩
    rw [StV_upd f1.lt]
    refine ⟨rfl, by rcases hn with rfl | rfl <;> simp [clubV], ?_⟩
    simp only [Ret_nil]
    refine hK _ (ClubAt.set f1 f2 f3 f4 ?_ ?_ ?_) (j3.upd (fun _ => rfl) _)
    · rcases hn with rfl | rfl <;> simp [clubV, Club.set, Club.one]
    · rcases hn with rfl | rfl <;> simp [Club.set]
    · rcases hn with rfl | rfl <;> simp [Club.set]

/-- the club that New makes -/
def newClub (n : Nat) : Club := ⟨⟨true, 0, 0⟩, ⟨true, 0, 0⟩, n, fun _ => (true, 0)⟩
theorem mem_New {disks : Int} (h1 : 1 ≤ disks) (h2 : disks ≤ 32) {w : World} {R : Value → World → Prop}
    (hK : ∀ c q w', ClubAt w' c q (newClub disks.toNat) → Keep (fun _ => False) w w' → w.heap.size ≤ c → w.heap.size ≤ q → R (.tuple #[.pointer (some ⟨c, 0, none⟩), .int .i64 0]) w') :
    CallV Try.prog 17 #[.int .i64 disks] w R := by
  apply C_member_New
  unfold F_member_New
  simp only [Req_true, Req_rfl]
  have e0 : (cond (decide (disks < 1)) true (decide (disks > 32))) = false := by
    have a1 : decide (disks < 1) = false := by simp; omega
    have a2 : decide (disks > 32) = false := by simp; omega
    rw [a1, a2]; rfl
  rw [e0, Cb_false]
  refine DoQ_of (fun d => run_build _ _ _ #[.bool true, .int .u32 0, .int .i64 0] (by kernel_rfl)) ?_
  simp only [OpA_agg]
  refine ⟨rfl, DoQ_of (fun d => run_build _ _ _ #[.bool true, .int .u32 0, .int .i64 0] (by kernel_rfl)) ?_⟩
  simp only [OpA_agg]
  refine ⟨rfl, DoQ_of (fun d => run_build _ _ _ #[.bool true, .int .u32 0, .int .i64 0, .bool true, .int .u32 0, .int .i64 0] (by kernel_rfl)) ?_⟩
  simp only [OpA_agg]
  refine ⟨rfl, DoQ_of (fun d => run_build _ _ _ #[.bool true, .int .u32 0, .int .i64 0, .bool true, .int .u32 0, .int .i64 0, .slice none 0 0] (by kernel_rfl)) ?_⟩
  simp only [OpA_agg]
  refine ⟨rfl, ?_⟩
  rw [Alc_iff]
  have hb := Has.new w (.cells #[.bool true, .int .u32 0, .int .i64 0, .bool true, .int .u32 0, .int .i64 0, .slice none 0 0] 79)
  have k0 := Keep.new (fun _ => False) w (.cells #[.bool true, .int .u32 0, .int .i64 0, .bool true, .int .u32 0, .int .i64 0, .slice none 0 0] 79)
  generalize w.alloc (.cells #[.bool true, .int .u32 0, .int .i64 0, .bool true, .int .u32 0, .int .i64 0, .slice none 0 0] 79) = w0 at *
  refine LoopC_of (σ := Int × Unit) (fun s w' => ∃ (j : Nat) (p : Option Addr) (cp : Nat), s.1 = j ∧ (j : Int) ≤ disks ∧ Keep (fun _ => False) w w' ∧
      Has w' w.heap.size (.cells #[.bool true, .int .u32 0, .int .i64 0, .bool true, .int .u32 0, .int .i64 0, .slice p j cp] 79 (0, 0)) ∧
      Own w' w.heap.size 81 2 p j cp (List.replicate j [Value.bool true, Value.int .u32 0]).flatten) (fun s _ => (disks - s.1).toNat)
    ⟨0, none, 0, rfl, by omega, k0, hb, Own.nil _ _ _ _⟩ ?_
  intro _ s w1 hI
  obtain ⟨i, u⟩ := s
  obtain ⟨j, p, cp, hij, hjd, hk, hc, ho⟩ := hI
  simp only at hij ⊢
  subst hij
  refine Cb_of (fun hlt => ?_) (fun hlt => ?_)
  · simp only [decide_eq_true_eq] at hlt
    refine LdV_has (v := .slice p j cp) hc rfl ?_
    simp only [OpS_slice]
    refine DoQ_of (fun d => run_build _ _ _ #[.bool true, .int .u32 0] (by kernel_rfl)) ?_
    simp only [OpA_agg]
    refine ⟨rfl, ?_⟩
    refine ⟨_, _, run_buildSlice w1 77 81 1 _ #[.bool true, .int .u32 0] ((Try.prog.info? 81).get (by kernel_rfl)) (.agg #[.bool false, .int .u32 0]) (by kernel_rfl) (by kernel_rfl) (by kernel_rfl) (by decide +kernel) (by decide +kernel) (by kernel_rfl), ?_⟩
    simp only [OpS_slice]
    have hsz := hk.size
    have ho2 := ho.keep (Keep.new (fun _ => False) w1 (.cells #[.bool true, .int .u32 0] 81)) (by simp)
    have ha := Has.new w1 (.cells #[.bool true, .int .u32 0] 81)
    have hc2 := hc.alloc (y := .cells #[.bool true, .int .u32 0] 81)
    have hk2 := hk.alloc (.cells #[.bool true, .int .u32 0] 81)
    obtain ⟨p', c', w2, hr, ho3, hk3⟩ := run_appendOwn (P := Try.prog) (t := 77) (ty := 77) (i := ((Try.prog.info? 81).get (by kernel_rfl))) (z := .agg #[.bool false, .int .u32 0]) (size := 2) (bytes := 8) (by kernel_rfl) (by kernel_rfl) (by kernel_rfl) (by kernel_rfl) (by kernel_rfl) rfl (by decide) ho2
      (a := ⟨w1.heap.size, 0, none⟩) (m := 1) (c2 := 1) (news := [.bool true, .int .u32 0]) rfl (fun jj u hu => by
        have : Addr.add ⟨w1.heap.size, 0, none⟩ jj = ⟨w1.heap.size, jj, none⟩ := by unfold Addr.add; split <;> simp_all
        rw [this, cell_of ha]
        simpa using hu) (by intro u hu; simp at hu; rcases hu with rfl | rfl <;> rfl) (by omega) (by simp [maxLen]; omega) (by have := hk2.size; omega)
    refine ⟨_, _, hr, ?_⟩
    simp only [OpS_slice]
    have hne : p ≠ some ⟨w.heap.size, 0, none⟩ := by
      intro hp
      rcases ho.cases with ⟨h0, _⟩ | ⟨b, cur, hpb, hbb, hg, _⟩
      · rw [h0] at hp; cases hp
      · rw [hpb] at hp; cases hp
        have := hg.inj hc
        simp at this
    have hc3 := hk3.has hc2 hne
    have hk4 := hk2.trans' hk3 (fun k hkl hp => by
      have := ho2.lt hp
      omega)
    rw [StV_iff hc3]
    refine ⟨rfl, by simp, ?_⟩
    have ew : IntKind.wrap .i64 ((j : Int) + 1) = ((j + 1 : Nat) : Int) := by rw [wrapI (by omega) (by omega)]; omega
    rw [ew]
    refine ⟨_, by omega, ⟨j + 1, p', c', rfl, by omega, hk4.upd (by omega) _, by simpa using hc3.upd_same _, ?_⟩, rfl⟩
    have ho4 := ho3.keep (Keep.one w2 w.heap.size (.cells #[.bool true, .int .u32 0, .int .i64 0, .bool true, .int .u32 0, .int .i64 0, .slice p' (j + 1) c'] 79)) (fun k hp => by
      intro e
      subst e
      rcases ho3.cases with ⟨h0, _⟩ | ⟨b, cur, hpb, hbb, hg, _⟩
      · rw [h0] at hp; cases hp
      · rw [hpb] at hp; cases hp
        have := hg.inj hc3
        simp at this)
    rw [List.replicate_succ', List.flatten_append]
    simpa using ho4
  · simp only [decide_eq_false_iff_not] at hlt
    simp only [Ret_nil]
    have hjj : (j : Int) = disks := by omega
    rcases ho.cases with ⟨h0, hz, _⟩ | ⟨b, cur, hpb, hbb, hg, hle, hm, hs, ht⟩
    · omega
    · subst hpb
      have hj2 : disks.toNat = j := by omega
      refine hK w.heap.size b w1 ⟨cp, cur, by rw [hj2]; exact hc, hg, by rw [hj2]; exact Nat.le_trans hle hm, fun i hi => ?_⟩ hk (Nat.le_refl _) hbb
      rw [hj2] at hi
      have hi' : i < j := hi
      have hrow := fun t (ht : t < 2) => ho.at (rows := List.replicate j [Value.bool true, Value.int .u32 0]) (by intro r hr; rw [List.eq_of_mem_replicate hr]; rfl) (by decide) (i := i) (r := [Value.bool true, Value.int .u32 0]) (by rw [List.getElem?_replicate, if_pos hi'])
      obtain ⟨b', hb', hcell⟩ := hrow 0 (by omega)
      cases hb'
      have c0 := hcell 0 (by omega)
      have c1 := hcell 1 (by omega)
      rw [cell_of hg] at c0 c1
      rw [show 2 * i = i * 2 + 0 by omega, c0, show i * 2 + 0 + 1 = i * 2 + 1 by omega, c1]
      exact ⟨rfl, rfl⟩

def driveOk (cl : Club) (n : Int) : Prop := 0 ≤ n ∧ n < cl.n
instance (cl : Club) (n : Int) : Decidable (driveOk cl n) := inferInstanceAs (Decidable (_ ∧ _))
theorem mem_drive {c q : Nat} {n : Int} {cl : Club} {w : World} {R : Value → World → Prop} (h : ClubAt w c q cl) (hK : R (if driveOk cl n then .pointer (some ⟨q, 0 + n.toNat * 2, none⟩) else .pointer none) w) :
    CallV Try.prog 55 #[.pointer (some ⟨c, 0, none⟩), .int .i64 n] w R := by
  apply C_member_Club_drive
  unfold F_member_Club_drive
  simp only [Req_true, Req_rfl]
  obtain ⟨cap, cur, h1, h2, h3, h4⟩ := h
  refine Cb_of (fun h0 => ?_) (fun h0 => ?_)
  · rw [if_neg (by simp only [decide_eq_true_eq] at h0; unfold driveOk; omega)] at hK
    simpa using hK
  · simp only [decide_eq_false_iff_not] at h0
    refine LdV_has (v := .slice (some ⟨q, 0, none⟩) cl.n cap) h1 rfl ?_
    simp only [OpS_slice]
    refine Cb_of (fun h0 => ?_) (fun h0 => ?_)
    · rw [if_neg (by simp only [decide_eq_true_eq] at h0; unfold driveOk; omega)] at hK
      simpa using hK
    · simp only [decide_eq_false_iff_not] at h0
      rw [if_pos (by unfold driveOk; omega)] at hK
      refine LdV_has (v := .slice (some ⟨q, 0, none⟩) cl.n cap) h1 rfl ?_
      simp only [OpS_slice, Ret_nil]
      exact ⟨q, 0, rfl, by omega, by omega, hK⟩

def writeS (cl : Club) (n disk : Int) : Int :=
  if ¬ sideOk n ∨ ¬ driveOk cl disk then 2 else if (cl.one n).lives = false then 13 else if (cl.d disk.toNat).1 = false then 5 else if (cl.one n).epoch < (cl.d disk.toNat).2 then 6 else 0
theorem mem_Write {c q : Nat} {n disk : Int} {cl : Club} {w : World} {R : Value → World → Prop} (h : ClubAt w c q cl) (hK : ∀ d, R (.int .i64 (writeS cl n disk)) (w.dr d)) :
    CallV Try.prog 32 #[.pointer (some ⟨c, 0, none⟩), .int .i64 n, .int .i64 disk] w R := by
  apply C_member_Club_Write
  unfold F_member_Club_Write
  refine mem_side ?_
  have hK0 : R (.int .i64 (writeS cl n disk)) w := hK w.drawn
  by_cases hn : ¬ sideOk n
  · have e : writeS cl n disk = 2 := by simp [writeS, hn]
    rw [e] at hK0
    rw [if_neg hn]
    simp only [OpP_none]
    refine mem_drive h ?_
    by_cases hd : driveOk cl disk
    · rw [if_pos hd]; simpa using hK0
    · rw [if_neg hd]; simpa using hK0
  replace hn := Decidable.not_not.1 hn
  rw [if_pos hn]
  simp only [OpP_some]
  refine mem_drive h ?_
  by_cases hd : ¬ driveOk cl disk
  · have e : writeS cl n disk = 2 := by simp [writeS, hd]
    rw [e] at hK0
    rw [if_neg hd]
    simpa using hK0
  replace hd := Decidable.not_not.1 hd
  rw [if_pos hd]
  simp only [OpP_some, Req_true, Req_rfl]
  obtain ⟨cap, cur, h1, h2, h3, h4⟩ := h
  have hliv : ∀ cap, (clubV cl q cap)[0 + n.toNat * 3]? = some (.bool (cl.one n).lives) := by rcases hn with rfl | rfl <;> intro cap <;> rfl
  have hep : ∀ cap, (clubV cl q cap)[0 + n.toNat * 3 + 1]? = some (.int .u32 (cl.one n).epoch) := by rcases hn with rfl | rfl <;> intro cap <;> rfl
  have hdl : disk.toNat < cl.n := by unfold driveOk at hd; omega
  obtain ⟨f1, f2⟩ := h4 disk.toNat hdl
  rw [show 0 + disk.toNat * 2 = 2 * disk.toNat by omega]
  refine LdV_has h1 (hliv cap) ?_
  simp only [OpB_bool]
  refine Cb_of (fun hl => ?_) (fun hl => ?_)
  · have e : writeS cl n disk = 13 := by simp only [Bool.not_eq_true'] at hl; simp [writeS, hn, hd, hl]
    rw [e] at hK0; simpa using hK0
  simp only [Bool.not_eq_false'] at hl
  refine LdV_has h2 f1 ?_
  simp only [OpB_bool]
  refine Cb_of (fun hg => ?_) (fun hg => ?_)
  · have e : writeS cl n disk = 5 := by simp only [Bool.not_eq_true'] at hg; simp [writeS, hn, hd, hl, hg]
    rw [e] at hK0; simpa using hK0
  simp only [Bool.not_eq_false'] at hg
  refine LdV_has h1 (hep cap) ?_
  simp only [OpI_int]
  refine LdV_has h2 f2 ?_
  simp only [OpI_int]
  intro d
  refine Cb_of (fun hc => ?_) (fun hc => ?_)
  · have e : writeS cl n disk = 6 := by simp only [decide_eq_true_eq] at hc; simp [writeS, hn, hd, hl, hg, hc]
    rw [e] at hK; simpa using hK d
  · have e : writeS cl n disk = 0 := by simp only [decide_eq_false_iff_not] at hc; simp [writeS, hn, hd, hl, hg, hc]
    rw [e] at hK; simpa using hK d
end Go.Proofs
