/-
  The document's club, on: claims, disks that fail and are renewed, a new club; and the program's disks that fail and are renewed.
-/
import Derived.Test.YtdjlmpkjdgmkkaaRef15b
namespace Go.Proofs
open Go Go.Ev
set_option linter.unusedSimpArgs false
set_option linter.unusedVariables false
set_option maxRecDepth 100000

def loseS (cl : Club) (disk : Int) : Int × Club :=
  if driveOk cl disk then if (cl.d disk.toNat).1 then (0, { cl with d := fun i => if i = disk.toNat then (false, (cl.d i).2) else cl.d i }) else (5, cl) else (2, cl)
def renewS (cl : Club) (disk : Int) : Int × Club :=
  if driveOk cl disk then if (cl.d disk.toNat).1 then (11, cl) else (0, { cl with d := fun i => if i = disk.toNat then (true, cl.key) else cl.d i }) else (2, cl)

section calls
variable {cs : Array Value} {n : Int} {cl : Club} {w : World} {R : Value → World → Prop}
def keyed (e : Int) (d : Bool × Int) : Bool × Int := if d.1 then (true, e) else d
theorem zc_drv : (zc Try.prog 87).size = 2 := by kernel_rfl
theorem ref_drives {e : Int} (h : RC w cs cl) (hK : ∀ p l c w', OwnL drvLay w' w.heap.size 87 p l c (cl.drvs.map (keyed e)) → Keep (fun _ => False) w w' → R (.slice p l c) w') :
    CallV Try.prog 54 #[.agg cs, .int .u32 e] w R := by
  apply C_ravelinref15_drives
  unfold F_ravelinref15_drives
  obtain ⟨p, cap, rfl, hs, hle⟩ := id h
  refine one_new fun b w1 lb hb k1 => ?_
  refine ⟨_, _, bsl_drv0 w1, ?_⟩
  simp only [OpS_slice]
  have k2 := Keep.new (fun _ => False) w1 (.cells #[] 87)
  have ho : OwnL drvLay (w1.alloc (.cells #[] 87)) w1.heap.size 87 (some ⟨w1.heap.size, 0, none⟩) 0 0 [] := OwnL.new (L := drvLay) (xs := []) (by simp) rfl
  refine LoopC_of (σ := (Option Addr × Nat × Nat) × Int × Unit) (fun s w' => ∃ i : Nat, s.2.1 = i ∧ i ≤ cl.n ∧ OwnL drvLay w' w1.heap.size 87 s.1.1 s.1.2.1 s.1.2.2 ((cl.drvs.take i).map (keyed e)) ∧ Keep (fun _ => False) w1 w')
    (fun s _ => (cl.n - s.2.1).toNat) ⟨0, rfl, by omega, ho, k2⟩ ?_
  clear ho k2
  intro _ s w2 hI
  obtain ⟨⟨q, lq, cq⟩, i, u⟩ := s
  obtain ⟨i, hi, hil, ho, k2⟩ := hI
  simp only at hi ho ⊢
  subst hi
  have hb2 := k2.has hb (by simp)
  have hs2 := hs.keepB (k1.trans k2) (by simp)
  refine LdV_has (v := .slice p cl.n cap) hb2 rfl ?_
  simp only [OpS_slice]
  refine Cb_of (fun hc => ?_) (fun hc => ?_)
  · have hi : i < cl.n := by simp only [decide_eq_true_eq] at hc; omega
    have ew : IntKind.wrap .i64 ((i : Int) + 1) = ((i + 1 : Nat) : Int) := by rw [wrapI (by omega) (by omega)]; omega
    rw [ew]
    have g : cl.drvs[((i : Nat) : Int).toNat]? = some (cl.d i) := by rw [Int.toNat_natCast]; exact drvs_get hi
    have et : (cl.drvs.take (i + 1)).map (keyed e) = (cl.drvs.take i).map (keyed e) ++ [keyed e (cl.d i)] := by rw [List.take_add_one, drvs_get hi]; simp
    have hlq := ho.length
    simp at hlq
    refine LdV_has (v := .slice p cl.n cap) hb2 rfl ?_
    simp only [OpS_slice]
    refine hs2.ldA rfl (by omega) g ?_
    refine copy_of (K := fun b1 w => _) zc_drv rfl (by intro v hv; exact drvLay.one _ v hv) fun w3 hb3 k3 hz3 => ?_
    have k23 := k2.trans k3
    refine LdV_has (v := .bool (cl.d i).1) hb3 rfl ?_
    simp only [OpB_bool]
    refine Cb_of (fun hl => ?_) (fun hl => ?_)
    · refine st_cell hb3 (by decide : 1 < 2) rfl rfl fun w4 hb4 k4 => ?_
      have k14 : Keep (fun _ => False) w1 w4 := k23.trans' k4 (fun k hk e => by have := k2.size; omega)
      have k24 : Keep (fun _ => False) w2 w4 := k3.trans' k4 (fun k hk e => by omega)
      refine LdA_all hb4 rfl ?_
      have ek : ((drvLay.row (cl.d i)).toArray.setIfInBounds 1 (.int .u32 e)) = #[.bool (keyed e (cl.d i)).1, .int .u32 (keyed e (cl.d i)).2] := by unfold keyed; rw [if_pos hl]; show #[Value.bool (cl.d i).1, .int .u32 e] = _; rw [hl]
      rw [ek]
      refine app_drv (ho.keep k24 (by simp)) _ (by omega) (by have := k14.size; omega) fun p' c' w5 ho5 k5 => ?_
      simp only [OpS_slice]
      exact ⟨_, by omega, ⟨i + 1, rfl, by omega, by rw [et]; exact ho5, k14.trans' k5 (fun x hx hp => by have := (ho.lt hp).1; omega)⟩, rfl⟩
    · refine LdA_all hb3 rfl ?_
      have ek : (drvLay.row (cl.d i)).toArray = #[.bool (keyed e (cl.d i)).1, .int .u32 (keyed e (cl.d i)).2] := by unfold keyed; rw [if_neg (by simp [hl])]; rfl
      rw [ek]
      refine app_drv (ho.keep k3 (by simp)) _ (by omega) (by have := k23.size; omega) fun p' c' w5 ho5 k5 => ?_
      simp only [OpS_slice]
      exact ⟨_, by omega, ⟨i + 1, rfl, by omega, by rw [et]; exact ho5, k23.trans' k5 (fun x hx hp => by have := (ho.lt hp).1; omega)⟩, rfl⟩
  · have hi : i = cl.n := by simp only [decide_eq_false_iff_not] at hc; omega
    subst hi
    simp only [Ret_nil]
    have e0 : cl.drvs.take cl.n = cl.drvs := by rw [List.take_of_length_le (by simp)]
    rw [e0] at ho
    exact hK q lq cq w2 (ho.rebase k1.size) (k1.trans k2)

theorem rcs_dsk {p p' : Option Addr} {cap cap' : Nat} {d' : Nat → Bool × Int} : (rclubV cl p cap).setIfInBounds 6 (.slice p' cl.n cap') = rclubV { cl with d := d' } p' cap' := rfl
theorem ref_Claim (ho : ClubOk cl) (h : RC w cs cl) (hK : ∀ cs' w', RC w' cs' (claimS cl n).2.2 → Keep (fun _ => False) w w' → R (.tuple #[.int .u32 (claimS cl n).1, .int .i64 (claimS cl n).2.1, .agg cs']) w') :
    CallV Try.prog 30 #[.agg cs, .int .i64 n] w R := by
  apply C_ravelinref15_Claim
  unfold F_ravelinref15_Claim
  obtain ⟨p, cap, rfl, hs, hle⟩ := id h
  refine two_new fun b b1 w1 hne lb lb1 hb hb1 k1 => ?_
  refine ref_side ?_
  simp only [OpB_bool]
  have same : ∀ {w2 : World} (x : Int), claimS cl n = (0, x, cl) → Has w2 b (.cells (rclubV cl p cap) 50 (0, 0)) → Has w2 b1 (.cells (zc Try.prog 50) 50 (0, 0)) → Keep (fun _ => False) w w2 →
      Dr1 w2 fun w => LdA 7 b 0 (At w) fun cs => StA 7 b1 0 cs w fun w => LdA 7 b1 0 (At w) fun cs' => Ret [] (R (.tuple #[.int .u32 0, .int .i64 x, .agg cs']) w) := by
    intro w2 x e hb hb1 k
    rw [e] at hK
    exact ret_copy hb hb1 h.size zc_club h.one fun w3 k3 => have k := k.trans' k3 (fun k hk e => by omega); hK _ w3 (h.keep k) k
  by_cases hn : sideOk n
  · rw [decide_eq_true hn, Bool.not_true, Cb_false]
    refine LdA_all hb rfl ?_
    refine ref_Ready (h.keep k1) fun w2 k2 => ?_
    have k12 := k1.trans k2
    have hb2 := k2.has hb (by simp)
    have hb12 := k2.has hb1 (by simp)
    simp only [OpB_bool]
    refine Cb_of (fun hr => ?_) (fun hr => ?_)
    · exact same 13 (by simp only [Bool.not_eq_true'] at hr; simp [claimS, hn, hr]) hb2 hb12 k12
    have hr' : readyS cl n = true := by simpa using hr
    refine LdA_all hb2 rfl ?_
    refine ref_Suspects (h.keep k12) fun w3 k3 => ?_
    have k13 := k12.trans k3
    have hb3 := k3.has hb2 (by simp)
    have hb13 := k3.has hb12 (by simp)
    simp only [OpB_bool]
    refine Cb_of (fun hg => ?_) (fun hg => ?_)
    · exact same 12 (by simp only [Bool.not_eq_true'] at hg; simp [claimS, hn, hr', hg]) hb3 hb13 k13
    have hg' : suspS cl n = true := by simpa using hg
    refine LdA_all hb3 rfl ?_
    refine ref_Key (h.keep k13) fun w4 k4 => ?_
    have k14 := k13.trans k4
    have hb4 := k4.has hb3 (by simp)
    have hb14 := k4.has hb13 (by simp)
    simp only [OpI_int]
    have hko := key_ok ho
    have hoo := one_ok ho n
    have tail : ∀ m : Int, m = max (cl.one n).epoch cl.key → CallV Try.prog 53 #[.int .u32 m, .int .i64 n] w4 fun v6 w => T2 v6 fun v7 v8 => OpI .u32 v7 fun n4 => OpI .i64 v8 fun n5 => Cb (n5 != 0)
        (Dr1 w fun w => LdA 7 b 0 (At w) fun cs9 => StA 7 b1 0 cs9 w fun w => LdA 7 b1 0 (At w) fun cs10 => Ret [] (R (.tuple #[.int .u32 0, .int .i64 n5, .agg cs10]) w))
        (Req (0 ≤ n ∧ n < 2) (StV b (0 + Int.toNat n * 3 + 1) (.int .u32 n4) w fun w => Req (0 ≤ n ∧ n < 2) (StV b (0 + Int.toNat n * 3 + 2) (.int .i64 0) w fun w => LdA 7 b 0 (At w) fun cs11 =>
          CallV Try.prog 54 #[.agg cs11, .int .u32 n4] w fun v9 w => OpS v9 fun p l c1 => StV b 6 (.slice p l c1) w fun w =>
            Dr1 w fun w => LdA 7 b 0 (At w) fun cs12 => StA 7 b1 0 cs12 w fun w => LdA 7 b1 0 (At w) fun cs13 => Ret [] (R (.tuple #[.int .u32 n4, .int .i64 0, .agg cs13]) w)))) := by
      intro m hm
      refine ref_After (by omega) (by omega) ?_
      simp only [T2_mk, OpI_int]
      refine Cb_of (fun ha => ?_) (fun ha => ?_)
      · exact same _ (by rw [hm]; simp only [bne_iff_ne, ne_eq] at ha; rw [hm] at ha; simp only [claimS]; rw [if_neg (by simpa using hn), if_neg (by simp [hr']), if_neg (by simp [hg']), if_pos ha]) hb4 hb14 k14
      · have ha' : (afterS m n).2 = 0 := by simpa using ha
        have e : claimS cl n = ((afterS m n).1, 0, { cl.set n ⟨(cl.one n).lives, (afterS m n).1, 0⟩ with d := fun i => if (cl.d i).1 then (true, (afterS m n).1) else cl.d i }) := by
          rw [hm] at ha' ⊢
          simp only [claimS]; rw [if_neg (by simpa using hn), if_neg (by simp [hr']), if_neg (by simp [hg']), if_neg (by omega)]
        rw [e] at hK
        generalize (afterS m n).1 = x at *
        refine ⟨rc_in hn, st_cell hb4 (Nat.lt_of_le_of_lt (Nat.le_succ _) (rc_lt hn)) rfl (rcs_ep hn _) fun w5 hb5 k5 => ?_⟩
        have hb15 := k5.has hb14 (fun e => hne e.symm)
        have k15 := k14.trans' k5 (fun k hk e => by omega)
        refine ⟨rc_in hn, st_cell hb5 (rc_lt hn) rfl (rcs_sil hn _) fun w6 hb6 k6 => ?_⟩
        rw [one_set, set_set] at hb6
        have hb16 := k6.has hb15 (fun e => hne e.symm)
        have k16 := k15.trans' k6 (fun k hk e => by omega)
        refine LdA_all hb6 rfl ?_
        have hr6 := (RC.set (n := n) (cap := cap) hs hle ⟨(cl.one n).lives, x, 0⟩).keep k16
        refine ref_drives hr6 fun p7 l7 c7 w7 ho7 k7 => ?_
        simp only [OpS_slice]
        have hb7 := k7.has hb6 (by simp)
        have hb17 := k7.has hb16 (by simp)
        have k17 := k16.trans k7
        have hl7 : l7 = (cl.set n ⟨(cl.one n).lives, x, 0⟩).n := by have := ho7.length; simpa using this
        subst hl7
        refine st_cell hb7 (by decide : 6 < 7) rfl (rcs_dsk (d' := fun i => if (cl.d i).1 then (true, x) else cl.d i)) fun w8 hb8 k8 => ?_
        have hb18 := k8.has hb17 (fun e => hne e.symm)
        have k18 := k17.trans' k8 (fun k hk e => by omega)
        have ho8 := ho7.keep k8 (fun k hk e => by have := (ho7.lt hk).1; have := hb6.lt; omega)
        have hr8 : RC w8 (rclubV { cl.set n ⟨(cl.one n).lives, x, 0⟩ with d := fun i => if (cl.d i).1 then (true, x) else cl.d i } p7 c7) { cl.set n ⟨(cl.one n).lives, x, 0⟩ with d := fun i => if (cl.d i).1 then (true, x) else cl.d i } := by
          refine ⟨p7, c7, rfl, ?_, by simpa using hle⟩
          have em : (cl.set n ⟨(cl.one n).lives, x, 0⟩).drvs.map (keyed x) = Club.drvs { cl.set n ⟨(cl.one n).lives, x, 0⟩ with d := fun i => if (cl.d i).1 then (true, x) else cl.d i } := by
            unfold Club.drvs
            rw [List.map_map]
            apply List.map_congr_left
            intro i _
            simp only [Function.comp, set_d, keyed]
          refine SlD.of (c := c7) (base := w6.heap.size) ?_
          rw [← em]
          simpa using ho8
        exact ret_copy hb8 hb18 rfl zc_club hr8.one fun w9 k9 => hK _ w9 (by
          obtain ⟨p', c', e', s', l'⟩ := hr8
          refine ⟨p', c', e', s'.keep k9 (fun bb o hp e => ?_), l'⟩
          simp only [rclubV, Array.mk.injEq, List.cons.injEq, Value.slice.injEq, true_and, and_true] at e'
          obtain ⟨rfl, rfl⟩ := e'
          have h1 := hb16.lt
          rcases Own.cases ho7 with ⟨h0, _⟩ | ⟨b'', cur, h0, hb'', _⟩
          · rw [h0] at hp; cases hp
          · rw [h0] at hp; cases hp; omega) (k18.trans' k9 (fun k hk e => by omega))
    refine ⟨rc_in hn, LdV_has hb4 (rc_ep hn) ?_⟩
    simp only [OpI_int]
    refine Cb_of (fun hv => ?_) (fun hv => ?_)
    · refine ⟨rc_in hn, LdV_has hb4 (rc_ep hn) ?_⟩
      simp only [OpI_int]
      exact tail _ (by simp only [decide_eq_true_eq] at hv; omega)
    · exact tail _ (by simp only [decide_eq_false_iff_not] at hv; omega)
  · rw [decide_eq_false hn, Bool.not_false, Cb_true]
    exact same 2 (by simp [claimS, hn]) hb hb1 k1

theorem drvs_set {i : Nat} (hi : i < cl.n) (y : Bool × Int) : cl.drvs.set i y = Club.drvs { cl with d := fun j => if j = i then y else cl.d j } := by
  apply List.ext_getElem?
  intro j
  rw [List.getElem?_set]
  by_cases hj : j < cl.n
  · rw [drvs_get (cl := { cl with d := fun j => if j = i then y else cl.d j }) hj, drvs_get hj]
    by_cases e : i = j
    · subst e; simp [hi]
    · have e' : ¬ j = i := fun h => e h.symm
      simp [e, e']
  · rw [List.getElem?_eq_none (l := Club.drvs { cl with d := fun j => if j = i then y else cl.d j }) (by simp; omega), List.getElem?_eq_none (l := cl.drvs) (by simp; omega)]
    rw [if_neg (by omega)]
/-- the disks anew, with one set: what both Lose and Renew end with -/
theorem dsk_end {b b1 : Nat} {w0 w : World} {p p3 : Option Addr} {cap l3 c3 base : Nat} {d' : Nat → Bool × Int} {x : Int} (hne : b ≠ b1) (lb : w0.heap.size ≤ b) (lb1 : w0.heap.size ≤ b1) (k : Keep (fun _ => False) w0 w)
    (hb : Has w b (.cells (rclubV cl p cap) 50 (0, 0))) (hb1 : Has w b1 (.cells (zc Try.prog 50) 50 (0, 0)))
    (ho : OwnL drvLay w base 87 p3 l3 c3 (Club.drvs { cl with d := d' })) (hle : cl.n ≤ 32) (hK : ∀ cs' w', RC w' cs' { cl with d := d' } → Keep (fun _ => False) w0 w' → R (.tuple #[.int .i64 x, .agg cs']) w') :
    StV b 6 (.slice p3 l3 c3) w fun w => Dr1 w fun w => LdA 7 b 0 (At w) fun cs => StA 7 b1 0 cs w fun w => LdA 7 b1 0 (At w) fun cs' => Ret [] (R (.tuple #[.int .i64 x, .agg cs']) w) := by
  have hl : l3 = cl.n := by have := ho.length; simpa using this
  subst hl
  have nb : ∀ k, p3 = some ⟨k, 0, none⟩ → k ≠ b ∧ k ≠ b1 := fun k hp => by
    rcases Own.cases ho with ⟨h0, _⟩ | ⟨b'', cur, h0, _, hg, _⟩
    · rw [h0] at hp; cases hp
    · rw [h0] at hp; cases hp
      exact ⟨hg.ne hb (by intro e; simp only [Obj.cells.injEq] at e; exact absurd e.2.1 (by decide)), hg.ne hb1 (by intro e; simp only [Obj.cells.injEq] at e; exact absurd e.2.1 (by decide))⟩
  refine st_cell hb (by decide : 6 < 7) rfl (rcs_dsk (d' := d')) fun w8 hb8 k8 => ?_
  have hb18 := k8.has hb1 (fun e => hne e.symm)
  have k18 := k.trans' k8 (fun k hk e => by omega)
  have ho8 := ho.keep k8 (fun k hk e => (nb k hk).1 e)
  have hr8 : RC w8 (rclubV { cl with d := d' } p3 c3) { cl with d := d' } := ⟨p3, c3, rfl, SlD.of ho8, hle⟩
  exact ret_copy hb8 hb18 rfl zc_club hr8.one fun w9 k9 => hK _ w9 ⟨p3, c3, rfl, SlD.of (ho8.keep k9 (fun k hk e => (nb k hk).2 e)), hle⟩ (k18.trans' k9 (fun k hk e => by omega))

theorem ref_Lose (h : RC w cs cl) (hK : ∀ cs' w', RC w' cs' (loseS cl n).2 → Keep (fun _ => False) w w' → R (.tuple #[.int .i64 (loseS cl n).1, .agg cs']) w') :
    CallV Try.prog 37 #[.agg cs, .int .i64 n] w R := by
  apply C_ravelinref15_Lose
  unfold F_ravelinref15_Lose
  obtain ⟨p, cap, rfl, hs, hle⟩ := id h
  refine two_new fun b b1 w1 hne lb lb1 hb hb1 k1 => ?_
  refine LdA_all hb rfl ?_
  refine ref_drive (h.keep k1) fun w2 k2 => ?_
  have k12 := k1.trans k2
  have hb2 := k2.has hb (by simp)
  have hb12 := k2.has hb1 (by simp)
  have hs2 := hs.keepB k12 (by simp)
  simp only [OpB_bool]
  unfold loseS at hK
  by_cases hd : driveOk cl n
  · rw [decide_eq_true hd, Bool.not_true, Cb_false]
    rw [if_pos hd] at hK
    have hdl : n.toNat < cl.n := by unfold driveOk at hd; omega
    have g : cl.drvs[n.toNat]? = some (cl.d n.toNat) := drvs_get hdl
    refine LdV_has (v := .slice p cl.n cap) hb2 rfl ?_
    simp only [OpS_slice]
    refine hs2.ld0 rfl hd.1 g (v := .bool (cl.d n.toNat).1) rfl ?_
    simp only [OpB_bool]
    refine Cb_of (fun hl => ?_) (fun hl => ?_)
    · rw [if_neg (by simpa using hl)] at hK
      exact ret_copy hb2 hb12 h.size zc_club h.one fun w3 k3 => have k := k12.trans' k3 (fun k hk e => by omega); hK _ w3 (h.keep k) k
    rw [if_pos (by simpa using hl)] at hK
    refine ⟨_, _, bsl_drv0 w2, ?_⟩
    simp only [OpS_slice]
    have k3 := Keep.new (fun _ => False) w2 (.cells #[] 87)
    have ho : OwnL drvLay (w2.alloc (.cells #[] 87)) w2.heap.size 87 (some ⟨w2.heap.size, 0, none⟩) 0 0 [] := OwnL.new (L := drvLay) (xs := []) (by simp) rfl
    refine LdV_has (v := .slice p cl.n cap) (k3.has hb2 (by simp)) rfl ?_
    simp only [OpS_slice]
    obtain ⟨p4, c4, w4, hr4, ho4, k4⟩ := run_appendL drvT ho (hs2.keepB k3 (by simp)).sl (c2 := cap) (ty := 48) (by omega) (by simp [maxLen]; omega) (by have := k3.size; omega)
    refine ⟨_, _, hr4, ?_⟩
    simp only [OpS_slice]
    simp only [Nat.zero_add, List.nil_append] at ho4 ⊢
    have k24 : Keep (fun _ => False) w2 w4 := k3.trans' k4 (fun x hx hp => by simp only [Option.some.injEq, Addr.mk.injEq] at hp; omega)
    refine ho4.stF (t := 0) (y := (false, (cl.d n.toNat).2)) rfl hd.1 g (by decide) rfl rfl fun w5 ho5 k5 _ => ?_
    have k25 : Keep (fun _ => False) w2 w5 := k24.trans' k5 (fun x hx hp => by have := (ho4.lt hp).1; omega)
    have e : cl.drvs.set n.toNat (false, (cl.d n.toNat).2) = Club.drvs { cl with d := fun i => if i = n.toNat then (false, (cl.d i).2) else cl.d i } := by
      rw [drvs_set hdl]
      congr 2
      funext j
      by_cases hj : j = n.toNat
      · rw [if_pos hj, if_pos hj, hj]
      · rw [if_neg hj, if_neg hj]
    rw [e] at ho5
    exact dsk_end hne lb lb1 (k12.trans k25) (k25.has hb2 (by simp)) (k25.has hb12 (by simp)) ho5 hle hK
  · rw [decide_eq_false hd, Bool.not_false, Cb_true]
    rw [if_neg hd] at hK
    exact ret_copy hb2 hb12 h.size zc_club h.one fun w3 k3 => have k := k12.trans' k3 (fun k hk e => by omega); hK _ w3 (h.keep k) k

theorem ref_Renew (h : RC w cs cl) (hK : ∀ cs' w', RC w' cs' (renewS cl n).2 → Keep (fun _ => False) w w' → R (.tuple #[.int .i64 (renewS cl n).1, .agg cs']) w') :
    CallV Try.prog 39 #[.agg cs, .int .i64 n] w R := by
  apply C_ravelinref15_Renew
  unfold F_ravelinref15_Renew
  obtain ⟨p, cap, rfl, hs, hle⟩ := id h
  refine two_new fun b b1 w1 hne lb lb1 hb hb1 k1 => ?_
  refine LdA_all hb rfl ?_
  refine ref_drive (h.keep k1) fun w2 k2 => ?_
  have k12 := k1.trans k2
  have hb2 := k2.has hb (by simp)
  have hb12 := k2.has hb1 (by simp)
  have hs2 := hs.keepB k12 (by simp)
  simp only [OpB_bool]
  unfold renewS at hK
  by_cases hd : driveOk cl n
  · rw [decide_eq_true hd, Bool.not_true, Cb_false]
    rw [if_pos hd] at hK
    have hdl : n.toNat < cl.n := by unfold driveOk at hd; omega
    have g : cl.drvs[n.toNat]? = some (cl.d n.toNat) := drvs_get hdl
    refine LdV_has (v := .slice p cl.n cap) hb2 rfl ?_
    simp only [OpS_slice]
    refine hs2.ld0 rfl hd.1 g (v := .bool (cl.d n.toNat).1) rfl ?_
    simp only [OpB_bool]
    refine Cb_of (fun hl => ?_) (fun hl => ?_)
    · rw [if_pos (by simpa using hl)] at hK
      exact ret_copy hb2 hb12 h.size zc_club h.one fun w3 k3 => have k := k12.trans' k3 (fun k hk e => by omega); hK _ w3 (h.keep k) k
    rw [if_neg (by simp [hl])] at hK
    refine ⟨_, _, bsl_drv0 w2, ?_⟩
    simp only [OpS_slice]
    have k3 := Keep.new (fun _ => False) w2 (.cells #[] 87)
    have ho : OwnL drvLay (w2.alloc (.cells #[] 87)) w2.heap.size 87 (some ⟨w2.heap.size, 0, none⟩) 0 0 [] := OwnL.new (L := drvLay) (xs := []) (by simp) rfl
    refine LdV_has (v := .slice p cl.n cap) (k3.has hb2 (by simp)) rfl ?_
    simp only [OpS_slice]
    obtain ⟨p4, c4, w4, hr4, ho4, k4⟩ := run_appendL drvT ho (hs2.keepB k3 (by simp)).sl (c2 := cap) (ty := 48) (by omega) (by simp [maxLen]; omega) (by have := k3.size; omega)
    refine ⟨_, _, hr4, ?_⟩
    simp only [OpS_slice]
    simp only [Nat.zero_add, List.nil_append] at ho4 ⊢
    have k24 : Keep (fun _ => False) w2 w4 := k3.trans' k4 (fun x hx hp => by simp only [Option.some.injEq, Addr.mk.injEq] at hp; omega)
    refine LdA_all (k24.has hb2 (by simp)) rfl ?_
    refine ref_Key (h.keep (k12.trans k24)) fun w5 k5 => ?_
    simp only [OpI_int]
    refine DoQ_of (fun d => bld_drv2 _ _ _) ?_
    simp only [OpA_agg]
    refine ⟨rfl, ?_⟩
    have ho5 := ho4.keep k5 (by simp)
    have k25' := k24.trans k5
    refine ho5.stA rfl hd.1 (by omega) (true, cl.key) rfl fun w6 ho6 k6 _ => ?_
    have k26 : Keep (fun _ => False) w2 w6 := k25'.trans' k6 (fun x hx hp => by have := (ho4.lt hp).1; omega)
    rw [drvs_set hdl] at ho6
    exact dsk_end hne lb lb1 (k12.trans k26) (k26.has hb2 (by simp)) (k26.has hb12 (by simp)) ho6 hle hK
  · rw [decide_eq_false hd, Bool.not_false, Cb_true]
    rw [if_neg hd] at hK
    exact ret_copy hb2 hb12 h.size zc_club h.one fun w3 k3 => have k := k12.trans' k3 (fun k hk e => by omega); hK _ w3 (h.keep k) k

/-! ### the program's disks -/
variable {c q : Nat}
theorem drv_set {d : Nat → Bool × Int} {m i : Nat} {cur : Array Value} (hi : i < m) (h : ∀ j, j < m → cur[2 * j]? = some (.bool (d j).1) ∧ cur[2 * j + 1]? = some (.int .u32 (d j).2)) (y : Bool × Int) :
    ∀ j, j < m → ((cur.setIfInBounds (2 * i + 1) (.int .u32 y.2)).setIfInBounds (2 * i) (.bool y.1))[2 * j]? = some (.bool (if j = i then y else d j).1) ∧ ((cur.setIfInBounds (2 * i + 1) (.int .u32 y.2)).setIfInBounds (2 * i) (.bool y.1))[2 * j + 1]? = some (.int .u32 (if j = i then y else d j).2) := by
  intro j hj
  obtain ⟨h1, h2⟩ := h j hj
  obtain ⟨g1, g2⟩ := h i hi
  have l1 := (Array.getElem?_eq_some_iff.1 g1).1
  have l2 := (Array.getElem?_eq_some_iff.1 g2).1
  by_cases e : j = i
  · subst e
    rw [if_pos rfl]
    constructor
    · rw [Array.getElem?_setIfInBounds, if_pos rfl, if_pos (by simpa using l1)]
    · rw [Array.getElem?_setIfInBounds, if_neg (by omega), Array.getElem?_setIfInBounds, if_pos rfl, if_pos l2]
  · rw [if_neg e]
    constructor
    · rw [Array.getElem?_setIfInBounds, if_neg (by omega), Array.getElem?_setIfInBounds, if_neg (by omega), h1]
    · rw [Array.getElem?_setIfInBounds, if_neg (by omega), Array.getElem?_setIfInBounds, if_neg (by omega), h2]
theorem mem_Lose (h : ClubAt w c q cl) (hK : ∀ w', ClubAt w' c q (loseS cl n).2 → Keep (fun k => k = q) w w' → R (.int .i64 (loseS cl n).1) w') :
    CallV Try.prog 36 #[.pointer (some ⟨c, 0, none⟩), .int .i64 n] w R := by
  apply C_member_Club_Lose
  unfold F_member_Club_Lose
  refine mem_drive h ?_
  unfold loseS at hK
  by_cases hd : driveOk cl n
  · rw [if_pos hd]
    rw [if_pos hd] at hK
    simp only [OpP_some]
    obtain ⟨cap, cur, h1, h2, h3, h4⟩ := id h
    have hdl : n.toNat < cl.n := by unfold driveOk at hd; omega
    obtain ⟨g1, g2⟩ := h4 n.toNat hdl
    rw [show 0 + n.toNat * 2 = 2 * n.toNat by omega]
    refine LdV_has h2 g1 ?_
    simp only [OpB_bool]
    refine Cb_of (fun hl => ?_) (fun hl => ?_)
    · rw [if_neg (by simpa using hl)] at hK
      simp only [Ret_nil]
      exact hK w h (Keep.refl _ _)
    · rw [if_pos (by simpa using hl)] at hK
      refine st_cell h2 (Array.getElem?_eq_some_iff.1 g1).1 rfl rfl fun w2 hb2 k2 => ?_
      simp only [Ret_nil]
      refine hK w2 ⟨cap, _, k2.has h1 h.ne, hb2, h3, ?_⟩ k2
      have hs := drv_set hdl h4 (false, (cl.d n.toNat).2)
      have e0 : cur.setIfInBounds (2 * n.toNat + 1) (.int .u32 (cl.d n.toNat).2) = cur := by
        apply Array.ext_getElem?
        intro j
        rw [Array.getElem?_setIfInBounds]
        split
        · rename_i hj; subst hj; rw [if_pos (Array.getElem?_eq_some_iff.1 g2).1, g2]
        · rfl
      simp only [e0] at hs
      intro j hj
      obtain ⟨a, b⟩ := hs j hj
      refine ⟨a.trans ?_, b.trans ?_⟩
      · by_cases e : j = n.toNat <;> simp [e]
      · by_cases e : j = n.toNat <;> simp [e]
  · rw [if_neg hd]
    rw [if_neg hd] at hK
    simp only [OpP_none, Ret_nil]
    exact hK w h (Keep.refl _ _)
theorem mem_Renew (h : ClubAt w c q cl) (hK : ∀ w', ClubAt w' c q (renewS cl n).2 → Keep (fun k => k = q) w w' → R (.int .i64 (renewS cl n).1) w') :
    CallV Try.prog 38 #[.pointer (some ⟨c, 0, none⟩), .int .i64 n] w R := by
  apply C_member_Club_Renew
  unfold F_member_Club_Renew
  refine mem_drive h ?_
  unfold renewS at hK
  by_cases hd : driveOk cl n
  · rw [if_pos hd]
    rw [if_pos hd] at hK
    simp only [OpP_some]
    obtain ⟨cap, cur, h1, h2, h3, h4⟩ := id h
    have hdl : n.toNat < cl.n := by unfold driveOk at hd; omega
    obtain ⟨g1, g2⟩ := h4 n.toNat hdl
    rw [show 0 + n.toNat * 2 = 2 * n.toNat by omega]
    refine LdV_has h2 g1 ?_
    simp only [OpB_bool]
    refine Cb_of (fun hl => ?_) (fun hl => ?_)
    · rw [if_pos (by simpa using hl)] at hK
      simp only [Ret_nil]
      exact hK w h (Keep.refl _ _)
    · rw [if_neg (by simp [hl])] at hK
      refine mem_key h fun w1 k1 => ?_
      simp only [OpI_int]
      have h21 := k1.has h2 (by simp)
      refine st_cell h21 (Array.getElem?_eq_some_iff.1 g2).1 rfl rfl fun w2 hb2 k2 => ?_
      refine st_cell hb2 (by simpa using (Array.getElem?_eq_some_iff.1 g1).1) rfl rfl fun w3 hb3 k3 => ?_
      simp only [Ret_nil]
      have k13 := (k1.mono (S' := fun k => k = q) fun _ h => h.elim).trans (k2.trans k3)
      exact hK w3 ⟨cap, _, k13.has h1 h.ne, hb3, h3, drv_set hdl h4 (true, cl.key)⟩ k13
  · rw [if_neg hd]
    rw [if_neg hd] at hK
    simp only [OpP_none, Ret_nil]
    exact hK w h (Keep.refl _ _)
theorem mem_New_bad {disks : Int} (hr : disks < 1 ∨ 32 < disks) (hK : R (.tuple #[.pointer none, .int .i64 2]) w) : CallV Try.prog 17 #[.int .i64 disks] w R := by
  apply C_member_New
  unfold F_member_New
  refine ⟨rfl, rfl, ?_⟩
  have : (cond (decide (disks < 1)) true (decide (disks > 32))) = true := by
    rcases hr with h | h
    · simp [h]
    · cases hd : decide (disks < 1) <;> simp [h]
  rw [this]
  simpa using hK
end calls
end Go.Proofs
