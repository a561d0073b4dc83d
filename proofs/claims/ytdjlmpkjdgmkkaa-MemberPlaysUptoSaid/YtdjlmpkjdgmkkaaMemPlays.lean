/-
  MemberPlays, the walk: the program's club and the document's, step by step.
-/
import Derived.Test.YtdjlmpkjdgmkkaaRef15c
import Derived.Test.YtdjlmpkjdgmkkaaMemBack
import Derived.Test.YtdjlmpkjdgmkkaaFMemPlays
namespace Go.Proofs
open Go Go.Ev Go.RowKit
set_option linter.unusedSimpArgs false
set_option linter.unusedVariables false
set_option maxRecDepth 100000

theorem bld_arr1 (a b c d e f : Value) (w : World) : (Instr.build 47 #[(0, .agg #[a, b, c]), (1, .agg #[d, e, f])]).run Try.prog w = .ok (.agg #[a, b, c, d, e, f]) w := run_build _ _ _ _ (by kernel_rfl)
theorem bld_club1 (a b c d e f : Value) (w : World) : (Instr.build 50 #[(0, .agg #[a, b, c, d, e, f])]).run Try.prog w = .ok (.agg #[a, b, c, d, e, f, .slice none 0 0]) w := run_build _ _ _ _ (by kernel_rfl)
theorem newClub_drvs (n : Nat) : (newClub n).drvs = List.replicate n (true, 0) := by
  unfold Club.drvs newClub
  apply List.ext_getElem?
  intro i
  simp
  by_cases h : i < n <;> simp [h, List.getElem?_replicate]
theorem ref_New {disks : Int} (h1 : 1 ≤ disks) (h2 : disks ≤ 32) {w : World} {R : Value → World → Prop} (hK : ∀ cs w', RC w' cs (newClub disks.toNat) → Keep (fun _ => False) w w' → R (.agg cs) w') :
    CallV Try.prog 27 #[.int .i64 disks] w R := by
  apply C_ravelinref15_New
  unfold F_ravelinref15_New
  refine one_new fun b w1 lb hb k1 => ?_
  refine DoQ_of (fun d => bld_one1 _ _) ?_
  simp only [OpA_agg]
  refine ⟨rfl, DoQ_of (fun d => bld_one1 _ _) ?_⟩
  simp only [OpA_agg]
  refine ⟨rfl, DoQ_of (fun d => bld_arr1 _ _ _ _ _ _ _) ?_⟩
  simp only [OpA_agg]
  refine ⟨rfl, DoQ_of (fun d => bld_club1 _ _ _ _ _ _ _) ?_⟩
  simp only [OpA_agg]
  refine ⟨rfl, copy_of (K := fun b1 w => _) zc_club rfl (by intro v hv; simp at hv; rcases hv with rfl | rfl | rfl | rfl | rfl | rfl | rfl <;> rfl) fun w2 hb1 k2 hz2 => ?_⟩
  have hne : b ≠ w1.heap.size := hb.ne_new
  have k12 := k1.trans k2
  have hb2 := k2.has hb (by simp)
  generalize hb1e : w1.heap.size = b1 at *
  refine LoopC_of (σ := Int × Unit) (fun s w' => ∃ (i : Nat) (p : Option Addr) (c : Nat), s.1 = i ∧ (i : Int) ≤ disks ∧ Has w' b1 (.cells (rclubV (newClub i) p c) 50 (0, 0)) ∧ Has w' b (.cells (zc Try.prog 50) 50 (0, 0)) ∧
      OwnL drvLay w' w2.heap.size 87 p i c (List.replicate i (true, 0)) ∧ Keep (fun _ => False) w w' ∧ w2.heap.size ≤ w'.heap.size) (fun s _ => (disks - s.1).toNat) ⟨0, none, 0, rfl, by omega, hb1, hb2, OwnL.nil, k12, Nat.le_refl _⟩ ?_
  intro _ s w3 hI
  obtain ⟨i, u⟩ := s
  obtain ⟨i, p, c, hi, hil, hb13, hb3, ho3, k3, hz3⟩ := hI
  simp only at hi ⊢
  subst hi
  refine Cb_of (fun hc => ?_) (fun hc => ?_)
  · have hi : (i : Int) < disks := by simpa using hc
    have ew : IntKind.wrap .i64 ((i : Int) + 1) = ((i + 1 : Nat) : Int) := by rw [wrapI (by omega) (by omega)]; omega
    rw [ew]
    refine LdV_has (v := .slice p i c) hb13 rfl ?_
    simp only [OpS_slice]
    refine DoQ_of (fun d => bld_drv _ _) ?_
    simp only [OpA_agg]
    refine ⟨rfl, ?_⟩
    refine app_drv ho3 (true, 0) (by omega) hz3 fun p' c' w4 ho4 k4 => ?_
    simp only [OpS_slice]
    have nb : ∀ {k : Nat} {cs : Array Value}, Has w3 k (.cells cs 50 (0, 0)) → ¬ p = some ⟨k, 0, none⟩ := fun hk hp => by
      rcases Own.cases ho3 with ⟨h0, _⟩ | ⟨b'', cur, h0, _, hg, _⟩
      · rw [h0] at hp; cases hp
      · rw [h0] at hp; cases hp
        have := hg.inj hk
        simp only [Obj.cells.injEq] at this
        exact absurd this.2.1 (by decide)
    have hb14 := k4.has hb13 (nb hb13)
    have hb4 := k4.has hb3 (nb hb3)
    have k14 := k3.trans' k4 (fun x hx hp => by have := (ho3.lt hp).1; have := k12.size; omega)
    refine st_cell hb14 (by decide : 6 < 7) rfl rfl fun w5 hb15 k5 => ?_
    refine ⟨_, by omega, ⟨i + 1, p', c', rfl, by omega, hb15, k5.has hb4 hne, ?_, k14.trans' k5 (fun x hx e => by have := k1.size; omega), by have := k4.size; have := k5.size; omega⟩, rfl⟩
    have e : List.replicate i (true, (0 : Int)) ++ [(true, 0)] = List.replicate (i + 1) (true, 0) := by rw [List.replicate_succ']
    rw [e] at ho4
    exact ho4.keep k5 (fun k hk e => by have := (ho4.lt hk).1; have := hb1.lt; omega)
  · have hi : (i : Int) = disks := by simp only [decide_eq_false_iff_not] at hc; omega
    have hd : disks.toNat = i := by omega
    rw [hd] at hK
    refine LdA_all hb13 rfl ?_
    have hr : RC w3 (rclubV (newClub i) p c) (newClub i) := ⟨p, c, rfl, SlD.of (base := w2.heap.size) (c := c) (by rw [newClub_drvs]; exact ho3), by show i ≤ 32; omega⟩
    refine StA_all hb3 rfl zc_club hr.one ?_
    refine LdA_all (hb3.upd_same _) rfl ?_
    simp only [Ret_nil]
    refine hK _ _ ?_ (k3.upd (by omega) _)
    exact hr.keepB (Keep.one w3 b _) fun k cur hk e => by subst e; have := hk.inj hb3; simp only [Obj.cells.injEq] at this; exact absurd this.2.1 (by decide)

/-! ### what the steps keep -/
theorem ok_set {cl : Club} (h : ClubOk cl) (n : Int) {o : One} (ho : 0 ≤ o.epoch ∧ o.epoch ≤ 4294967295) : ClubOk (cl.set n o) := by
  unfold Club.set
  split
  · exact ⟨ho, h.2.1, h.2.2⟩
  · exact ⟨h.1, ho, h.2.2⟩
section ok
variable {cl : Club} {n : Int}
theorem tick_ok (h : ClubOk cl) : ClubOk (tickS cl n).2 := by unfold tickS; split; split; exact ok_set h n (one_ok h n); exact h; exact h
theorem crash_ok (h : ClubOk cl) : ClubOk (crashS cl n).2 := by unfold crashS; split; split; exact ok_set h n (one_ok h n); exact h; exact h
theorem restart_ok (h : ClubOk cl) : ClubOk (restartS cl n).2 := by unfold restartS; split; split; exact h; exact ok_set h n (one_ok h n); exact h
theorem beat_ok (h : ClubOk cl) : ClubOk (beatS cl n).2 := by unfold beatS; split; split; split; exact ok_set h _ (one_ok h _); exact h; exact h; exact h
theorem join_ok (h : ClubOk cl) : ClubOk (joinS cl n).2 := by
  unfold joinS
  split
  · exact h
  · split
    · exact h
    · split
      · split <;> exact h
      · exact ok_set (ok_set h n (o := ⟨(cl.one n).lives, (cl.one (1 - n)).epoch, 0⟩) (one_ok h (1 - n))) (1 - n) (o := { cl.one (1 - n) with sil := 0 }) (one_ok h (1 - n))
theorem lose_ok (h : ClubOk cl) : ClubOk (loseS cl n).2 := by
  unfold loseS
  split
  · split
    · refine ⟨h.1, h.2.1, fun i hi => ?_⟩
      have := h.2.2 i hi
      simp only
      split <;> exact this
    · exact h
  · exact h
theorem renew_ok (h : ClubOk cl) : ClubOk (renewS cl n).2 := by
  unfold renewS
  split
  · split
    · exact h
    · refine ⟨h.1, h.2.1, fun i hi => ?_⟩
      have := h.2.2 i hi
      have := key_ok h
      simp only
      split <;> assumption
  · exact h
theorem after_ok {e s : Int} (h0 : 0 ≤ e) : 0 ≤ (afterS e s).1 ∧ (afterS e s).1 ≤ 4294967295 := by
  have hx : 0 ≤ (if (e + 1) % 2 = s then e + 1 else e + 2) := by split <;> omega
  unfold afterS
  by_cases h1 : sideOk s
  · rw [if_neg (by simpa using h1)]
    simp only
    generalize (if (e + 1) % 2 = s then e + 1 else e + 2) = x at *
    by_cases h2 : 4294967295 < x
    · rw [if_pos h2]; exact ⟨by decide, by decide⟩
    · rw [if_neg h2]; exact ⟨hx, by show x ≤ _; omega⟩
  · rw [if_pos h1]; exact ⟨by decide, by decide⟩
theorem claim_ok (h : ClubOk cl) : ClubOk (claimS cl n).2.2 := by
  unfold claimS
  split
  · exact h
  · split
    · exact h
    · split
      · exact h
      · simp only
        split
        · exact h
        · have ha := after_ok (e := max (cl.one n).epoch cl.key) (s := n) (by have := one_ok h n; omega)
          have hs := ok_set h n (o := ⟨(cl.one n).lives, (afterS (max (cl.one n).epoch cl.key) n).1, 0⟩) ha
          refine ⟨hs.1, hs.2.1, fun i hi => ?_⟩
          have := h.2.2 i (by simpa using hi)
          simp only
          split
          · exact ha
          · exact this
end ok

/-- both clubs, after the same steps -/
structure Both (W w : World) (c q b : Nat) (cl : Club) : Prop where
  club : ClubAt w c q cl
  ref : ∃ cs, Has w b (.cells cs 50 (0, 0)) ∧ RC w cs cl
  ok : ClubOk cl
  k : Keep (fun _ => False) W w
  lc : W.heap.size ≤ c
  lq : W.heap.size ≤ q
  lb : W.heap.size ≤ b
theorem ClubAt.other {w : World} {c q k : Nat} {cl : Club} {cs : Array Value} {t : TypeId} (h : ClubAt w c q cl) (hk : Has w k (.cells cs t (0, 0))) (h1 : t ≠ 79) (h2 : t ≠ 81) : ¬ (k = c ∨ k = q) := by
  obtain ⟨cap, cur, g1, g2, _⟩ := h
  rintro (rfl | rfl)
  · have := hk.inj g1; simp only [Obj.cells.injEq] at this; exact h1 this.2.1
  · have := hk.inj g2; simp only [Obj.cells.injEq] at this; exact h2 this.2.1
/-- the program has taken its step -/
theorem Both.prog {W w w2 : World} {c q b : Nat} {cl : Club} (h : Both W w c q b cl) {S : Nat → Prop} (hS : ∀ k, S k → k = c ∨ k = q) (k2 : Keep S w w2) : (∃ cs, Has w2 b (.cells cs 50 (0, 0)) ∧ RC w2 cs cl) ∧ Keep (fun _ => False) W w2 := by
  obtain ⟨cs, h1, h2⟩ := h.ref
  refine ⟨⟨cs, k2.has h1 (fun e => h.club.other h1 (by decide) (by decide) (hS _ e)), h2.keepB k2 fun k cur hk e => h.club.other hk (by decide) (by decide) (hS _ e)⟩, h.k.trans' k2 fun k hk e => ?_⟩
  have := h.lc; have := h.lq
  rcases hS k e with h | h <;> omega
/-- the document's club has taken its step, too -/
theorem Both.done {W w : World} {c q b : Nat} {cl' : Club} {cs cs' : Array Value} (hc : ClubAt w c q cl') (hb : Has w b (.cells cs 50 (0, 0))) (hr : RC w cs' cl') (hs : cs.size = 7) (ho : ClubOk cl') (hk : Keep (fun _ => False) W w)
    (lc : W.heap.size ≤ c) (lq : W.heap.size ≤ q) (lb : W.heap.size ≤ b) {K : World → Prop} (hK : ∀ w', Both W w' c q b cl' → Keep (fun k => k = b) w w' → K w') : StA 7 b 0 cs' w K := by
  refine StA_all hb hr.size hs hr.one ?_
  have k1 := Keep.one w b (.cells cs' 50)
  refine hK _ ⟨?_, ⟨cs', hb.upd_same _, ?_⟩, ho, hk.trans' k1 (fun k h e => by omega), lc, lq, lb⟩ k1
  · have hn := hc.other hb (by decide) (by decide)
    exact hc.keep k1 (fun e => hn (Or.inl e.symm)) (fun e => hn (Or.inr e.symm))
  · exact hr.keepB k1 fun k cur hk e => by subst e; have := hk.inj hb; simp only [Obj.cells.injEq] at this; exact absurd this.2.1 (by decide)
theorem Both.keep {W w w' : World} {c q b : Nat} {cl : Club} (h : Both W w c q b cl) (k : Keep (fun _ => False) w w') : Both W w' c q b cl := by
  obtain ⟨cs, h1, h2⟩ := h.ref
  exact ⟨h.club.keep k (by simp) (by simp), ⟨cs, k.has h1 (by simp), h2.keep k⟩, h.ok, h.k.trans k, h.lc, h.lq, h.lb⟩

abbrev Op3 := Int × Int × Int
def opLay : Lay Op3 := ⟨3, fun o => [.int .i64 o.1, .int .i64 o.2.1, .int .i64 o.2.2], fun _ => rfl, fun o v hv => by simp at hv; rcases hv with rfl | rfl | rfl <;> rfl, by decide⟩
theorem zc_op : (zc Try.prog 53).size = 3 := by kernel_rfl

section steps
variable {W w : World} {c q b b2 : Nat} {cl : Club} {o : Op3}
/-- one step of both, whose program's side answers a number -/
theorem step1 {fp fr : FuncId} {S : Nat → Prop} {K : Int → Int → World → Prop} (h : Both W w c q b cl) (h2 : Has w b2 (.cells #[.int .i64 o.1, .int .i64 o.2.1, .int .i64 o.2.2] 53 (0, 0))) {m : Int × Club}
    (hS : ∀ k, S k → k = c ∨ k = q) (hok : ClubOk m.2)
    (hp : ∀ {R : Value → World → Prop}, (∀ w', ClubAt w' c q m.2 → Keep S w w' → R (.int .i64 m.1) w') → CallV Try.prog fp #[.pointer (some ⟨c, 0, none⟩), .int .i64 o.2.1] w R)
    (hr : ∀ {w : World} {cs : Array Value} {R : Value → World → Prop}, RC w cs cl → (∀ cs' w', RC w' cs' m.2 → Keep (fun _ => False) w w' → R (.tuple #[.int .i64 m.1, .agg cs']) w') → CallV Try.prog fr #[.agg cs, .int .i64 o.2.1] w R)
    (hK : ∀ w', Both W w' c q b m.2 → Has w' b2 (.cells #[.int .i64 o.1, .int .i64 o.2.1, .int .i64 o.2.2] 53 (0, 0)) → K m.1 m.1 w') :
    LdV b2 1 (At w) fun v6 => OpI .i64 v6 fun n2 => CallV Try.prog fp #[.pointer (some ⟨c, 0, none⟩), .int .i64 n2] w fun v7 w => OpI .i64 v7 fun n3 => LdA 7 b 0 (At w) fun cs2 =>
      LdV b2 1 (At w) fun v8 => OpI .i64 v8 fun n4 => CallV Try.prog fr #[.agg cs2, .int .i64 n4] w fun v9 w => T2 v9 fun v10 v11 => OpI .i64 v10 fun n5 => OpA 7 v11 fun cs3 => StA 7 b 0 cs3 w fun w => K n3 n5 w := by
  refine LdV_has (v := .int .i64 o.2.1) h2 rfl ?_
  simp only [OpI_int]
  refine hp fun w2 hc2 k2 => ?_
  simp only [OpI_int]
  obtain ⟨⟨cs, hb2, hrc2⟩, kW⟩ := h.prog hS k2
  have h22 := k2.has h2 (fun e => h.club.other h2 (by decide) (by decide) (hS _ e))
  refine LdA_all hb2 hrc2.size ?_
  refine LdV_has (v := .int .i64 o.2.1) h22 rfl ?_
  simp only [OpI_int]
  refine hr hrc2 fun cs' w3 hrc3 k3 => ?_
  simp only [T2_mk, OpI_int, OpA_agg]
  refine ⟨hrc3.size, ?_⟩
  have hb3 := k3.has hb2 (by simp)
  refine Both.done (hc2.keep k3 (by simp) (by simp)) hb3 hrc3 hrc2.size hok (kW.trans k3) h.lc h.lq h.lb fun w4 hB k4 => ?_
  refine hK w4 hB (k4.has (k3.has h22 (by simp)) (fun e => ?_))
  subst e
  have := (k3.has h22 (by simp)).inj hb3
  simp only [Obj.cells.injEq] at this
  exact absurd this.2.1 (by decide)

theorem mem_TickO (h : Both W w c q b cl) (h2 : Has w b2 (.cells #[.int .i64 o.1, .int .i64 o.2.1, .int .i64 o.2.2] 53 (0, 0))) {K : Int → Int → World → Prop}
    (hK : ∀ x w' cl', Both W w' c q b cl' → Has w' b2 (.cells #[.int .i64 o.1, .int .i64 o.2.1, .int .i64 o.2.2] 53 (0, 0)) → K x x w') :
    LdV b2 1 (At w) fun v6 => OpI .i64 v6 fun n2 => CallV Try.prog 23 #[.pointer (some ⟨c, 0, none⟩), .int .i64 n2] w fun v7 w => OpI .i64 v7 fun n3 => LdA 7 b 0 (At w) fun cs2 =>
      LdV b2 1 (At w) fun v8 => OpI .i64 v8 fun n4 => CallV Try.prog 28 #[.agg cs2, .int .i64 n4] w fun v9 w => T2 v9 fun v10 v11 => OpI .i64 v10 fun n5 => OpA 7 v11 fun cs3 => StA 7 b 0 cs3 w fun w => K n3 n5 w :=
  step1 h h2 (S := fun k => k = c) (fun k e => Or.inl e) (tick_ok h.ok) (fun hK => mem_Tick h.club hK) (fun hr hK => ref_Tick hr hK) fun w' hB h2' => hK _ w' _ hB h2'
end steps

/-- the round behind a step: who is ready, who suspects, the epochs -/
theorem plays_round {W w0 : World} {c q b : Nat} {cl : Club} {F : World → Prop} (h : Both W w0 c q b cl) {kk : World → Prop} (hK : ∀ w', Keep (fun _ => False) w0 w' → kk w') :
    LoopC (σ := Int × Unit) (fun _ s4 w K4 => Cb (decide (s4.1 ≤ 2)) (CallV Try.prog 40 #[.pointer (some ⟨c, 0, none⟩), .int .i64 s4.1] w fun v69 w => T2 v69 fun v70 v71 => OpI .u32 v70 fun n46 => OpI .i64 v71 fun n47 =>
      HeldR w fun S w => LdA 7 b 0 S fun cs21 => CallV Try.prog 20 #[.pointer (some ⟨c, 0, none⟩), .int .i64 s4.1] w fun v72 w => OpB v72 fun g1 => Hld (S w) (CallV Try.prog 41 #[.agg cs21, .int .i64 s4.1] w fun v73 w => OpB v73 fun g2 => Hld (S w) (Cb (!(g1 == g2)) (Hld (S w) (Hld (S w) (F w)))
        (LdA 7 b 0 S fun cs22 => CallV Try.prog 26 #[.pointer (some ⟨c, 0, none⟩), .int .i64 s4.1] w fun v74 w => OpB v74 fun g3 => Hld (S w) (CallV Try.prog 42 #[.agg cs22, .int .i64 s4.1] w fun v75 w => OpB v75 fun g4 => Hld (S w) (Cb (!(g3 == g4)) (F w)
          (Cb (s4.1 == 0) (Cb (!((n47 == 0) == true)) (F w) (Cb (n47 == 0) (Req (0 ≤ s4.1 ∧ s4.1 < 2) (LdV b (0 + Int.toNat s4.1 * 3 + 1) (At w) fun v76 => OpI .u32 v76 fun n48 => Cb (n46 != n48) (F w) (Cb (n47 != 0) (Cb (n46 != 0) (F w) (Cb (n47 != 2) (F w) (K4 (IntKind.wrap .i64 (s4.1 + 1), ()) w))) (K4 (IntKind.wrap .i64 (s4.1 + 1), ()) w))))
              (Cb (n47 != 0) (Cb (n46 != 0) (F w) (Cb (n47 != 2) (F w) (K4 (IntKind.wrap .i64 (s4.1 + 1), ()) w))) (K4 (IntKind.wrap .i64 (s4.1 + 1), ()) w))))
            (Cb (!((n47 == 0) == (s4.1 == 1))) (F w) (Cb (n47 == 0) (Req (0 ≤ s4.1 ∧ s4.1 < 2) (LdV b (0 + Int.toNat s4.1 * 3 + 1) (At w) fun v77 => OpI .u32 v77 fun n49 => Cb (n46 != n49) (F w) (Cb (n47 != 0) (Cb (n46 != 0) (F w) (Cb (n47 != 2) (F w) (K4 (IntKind.wrap .i64 (s4.1 + 1), ()) w))) (K4 (IntKind.wrap .i64 (s4.1 + 1), ()) w))))
              (Cb (n47 != 0) (Cb (n46 != 0) (F w) (Cb (n47 != 2) (F w) (K4 (IntKind.wrap .i64 (s4.1 + 1), ()) w))) (K4 (IntKind.wrap .i64 (s4.1 + 1), ()) w))))))))))) (kk w)) ((-1), ()) w0 := by
  refine LoopC_of (σ := Int × Unit) (fun s w' => -1 ≤ s.1 ∧ s.1 ≤ 3 ∧ Keep (fun _ => False) w0 w') (fun s _ => (3 - s.1).toNat) ⟨by decide, by decide, Keep.refl _ _⟩ ?_
  intro _ s w1 hI
  obtain ⟨k, u⟩ := s
  obtain ⟨hk0, hk3, k1⟩ := hI
  simp only at hk0 hk3 ⊢
  refine Cb_of (fun hc => ?_) (fun hc => ?_)
  · have hk2 : k ≤ 2 := by simpa using hc
    have ew : IntKind.wrap .i64 (k + 1) = k + 1 := wrapI (by omega) (by omega)
    rw [ew]
    have h1 := h.keep k1
    refine mem_Epoch h1.club ?_
    simp only [T2_mk, OpI_int]
    obtain ⟨cs, hb, hrc⟩ := h1.ref
    intro d
    have kd := Keep.drew (fun _ => False) w1 d
    refine ⟨fun w' => Has w' b (.cells cs 50 (0, 0)), hb, ?_⟩
    have ld : ∀ K : Array Value → Prop, K cs → LdA 7 b 0 (fun w' => Has w' b (.cells cs 50 (0, 0))) K := fun K hK =>
      LdA_of hrc.size (fun w' hw => ⟨_, _, _, hw, by rw [hrc.size]; omega, by rw [Nat.zero_add, ← hrc.size]; simp⟩) hK
    refine ld _ ?_
    refine mem_Ready (h1.keep kd).club fun w2 k2 => ?_
    simp only [OpB_bool]
    have kd2 := kd.trans k2
    refine ⟨kd2.has hb (by simp), ?_⟩
    refine ref_Ready (hrc.keep kd2) fun w3 k3 => ?_
    simp only [OpB_bool]
    have kd3 := kd2.trans k3
    refine ⟨kd3.has hb (by simp), ?_⟩
    rw [show (!(readyS cl k == readyS cl k)) = false by simp, Cb_false]
    refine ld _ ?_
    refine mem_Suspects (h1.keep kd3).club ?_
    simp only [OpB_bool]
    refine ⟨kd3.has hb (by simp), ?_⟩
    refine ref_Suspects (hrc.keep kd3) fun w4 k4 => ?_
    simp only [OpB_bool]
    have kd4 := kd3.trans k4
    refine ⟨kd4.has hb (by simp), ?_⟩
    rw [show (!(suspS cl k == suspS cl k)) = false by simp, Cb_false]
    have hb4 := kd4.has hb (by simp)
    have next : ∃ m', m' < (3 - k).toNat ∧ ((-1 ≤ k + 1 ∧ k + 1 ≤ 3 ∧ Keep (fun _ => False) w0 w4) ∧ (3 - (k + 1)).toNat = m') := ⟨_, by omega, ⟨by omega, by omega, k1.trans kd4⟩, rfl⟩
    obtain ⟨p, cap, hcs, _⟩ := id hrc
    rw [hcs] at hb4
    by_cases hs : sideOk k
    · have ee : epochS cl k = ((cl.one k).epoch, 0) := by unfold epochS; rw [if_pos hs]
      rw [ee]
      have tail : ∀ N : Prop, N → Req (0 ≤ k ∧ k < 2) (LdV b (0 + Int.toNat k * 3 + 1) (At w4) fun v76 => OpI .u32 v76 fun n48 => Cb ((cl.one k).epoch != n48) (F w4) (Cb ((0 : Int) != 0) (Cb ((cl.one k).epoch != 0) (F w4) (Cb ((0 : Int) != 2) (F w4) N)) N)) := by
        intro N hN
        refine ⟨rc_in hs, LdV_has hb4 (rc_ep hs) ?_⟩
        simp only [OpI_int, bne_self_eq_false, Cb_false]
        exact hN
      rcases hs with rfl | rfl
      · rw [show ((0 : Int) == 0) = true from rfl, Cb_true, show (!(true == true)) = false from rfl, Cb_false, Cb_true]
        exact tail _ next
      · rw [show ((1 : Int) == 0) = false from rfl, Cb_false, show (!(((0 : Int) == 0) == ((1 : Int) == 1))) = false from rfl, Cb_false, show ((0 : Int) == 0) = true from rfl, Cb_true]
        exact tail _ next
    · have ee : epochS cl k = (0, 2) := by unfold epochS; rw [if_neg hs]
      rw [ee]
      have e0 : (k == 0) = false := by simp; intro e; exact hs (Or.inl e)
      have e1 : (k == 1) = false := by simp; intro e; exact hs (Or.inr e)
      rw [e0, Cb_false, e1, show (!(((2 : Int) == 0) == false)) = false from rfl, Cb_false, show ((2 : Int) == 0) = false from rfl, Cb_false, show ((2 : Int) != 0) = true from rfl, Cb_true, show ((0 : Int) != 0) = false from rfl, Cb_false, show ((2 : Int) != 2) = false from rfl, Cb_false]
      exact next
  · exact hK w1 k1

theorem mem_plays_walk {disks : Int} {sp : Option Addr} {sl sc : Nat} {os : List Op3} {W : World} (hs : SlL opLay W sp sl os) (hl : sl ≤ 1048576) :
    CallV Try.prog 6 #[.int .i64 disks, .slice sp sl sc] W fun v w' => v = .bool true ∧ Below W.heap.size W w' := by
  apply C_ravelinlaw15_MemberPlays
  unfold F_ravelinlaw15_MemberPlays
  refine law15_awake fun w1 k1 => ?_
  simp only [OpB_bool, Bool.not_true, Cb_false]
  by_cases hr : disks < 1 ∨ 32 < disks
  · refine mem_New_bad hr ?_
    simp only [T2_mk, OpP_none, OpI_int]
    refine ⟨by trivial, by trivial, ?_⟩
    have : (cond (decide (disks < 1)) true (decide (disks > 32))) = true := by
      rcases hr with h | h
      · simp [h]
      · cases hd : decide (disks < 1) <;> simp [h]
    rw [this, Cb_true]
    refine ⟨by trivial, by trivial, ?_⟩
    simp only [Ret_nil]
    exact ⟨by trivial, k1.below⟩
  · have hr1 : 1 ≤ disks := by omega
    have hr2 : disks ≤ 32 := by omega
    refine mem_New hr1 hr2 fun c q w2 hc2 k2 lc lq => ?_
    simp only [T2_mk, OpP_some, OpI_int]
    refine ⟨by trivial, by trivial, ?_⟩
    have e0 : (cond (decide (disks < 1)) true (decide (disks > 32))) = false := by
      have a1 : decide (disks < 1) = false := by simp; omega
      have a2 : decide (disks > 32) = false := by simp; omega
      rw [a1, a2]; rfl
    rw [e0, Cb_false]
    refine ⟨by trivial, by trivial, ?_⟩
    rw [show (cond ((0 : Int) != 0) true false) = false from rfl, Cb_false]
    refine ref_New hr1 hr2 fun cs w3 hr3 k3 => ?_
    simp only [OpA_agg]
    refine ⟨hr3.size, copy_of (K := fun b w => _) zc_club hr3.size hr3.one fun w4 hb4 k4 _ => ?_⟩
    have k14 := ((k1.trans k2).trans k3).trans k4
    have hB4 : Both W w4 c q w3.heap.size (newClub disks.toNat) := ⟨(hc2.keep k3 (by simp) (by simp)).keep k4 (by simp) (by simp), ⟨cs, hb4, hr3.keep k4⟩, ⟨by simp [newClub], by simp [newClub], fun i hi => by simp [newClub]⟩, k14,
      by have := k1.size; omega, by have := k1.size; omega, by have := ((k1.trans k2).trans k3).size; omega⟩
    generalize w3.heap.size = b at *
    refine LoopC_of (σ := Int × Unit) (fun s w' => ∃ (j : Nat) (cl : Club), s.1 = j ∧ j ≤ sl ∧ Both W w' c q b cl) (fun s _ => (sl - s.1).toNat) ⟨0, _, rfl, by omega, hB4⟩ ?_
    clear hB4 k14 hb4
    intro _ s w5 hI
    obtain ⟨j, u⟩ := s
    obtain ⟨j, cl, hj, hjl, hB⟩ := hI
    simp only at hj ⊢
    subst hj
    refine Cb_of (fun hc => ?_) (fun hc => ?_)
    · have hj : j < sl := by simp only [decide_eq_true_eq] at hc; omega
      have ew : IntKind.wrap .i64 ((j : Int) + 1) = ((j + 1 : Nat) : Int) := by rw [wrapI (by omega) (by omega)]; omega
      rw [ew]
      have hjo : j < os.length := by rw [← hs.1]; exact hj
      have g : os[((j : Nat) : Int).toNat]? = some os[j] := by rw [Int.toNat_natCast]; simp [hjo]
      generalize os[j] = o at *
      refine (hs.keepB hB.k (by simp)).ldA rfl (by omega) g ?_
      refine copy_of (K := fun b2 w => _) zc_op rfl (opLay.one o) fun w6 h2 k6 _ => ?_
      have h2 : Has w6 w5.heap.size (.cells #[.int .i64 o.1, .int .i64 o.2.1, .int .i64 o.2.2] 53 (0, 0)) := h2
      have hB6 := hB.keep k6
      generalize w5.heap.size = b2 at *
      refine LdV_has (v := .int .i64 o.1) h2 rfl ?_
      simp only [OpI_int]
      refine ⟨fun s w => s.1 = s.2.1 ∧ s.2.2.1 = s.2.2.2.1 ∧ ∃ cl', Both W w c q b cl', ?_, ?_⟩
      · refine Cb_of (fun _ => ?_) (fun _ => ?_)
        · exact step1 hB6 h2 (S := fun k => k = c) (fun k e => Or.inl e) (tick_ok hB6.ok) (fun hK => mem_Tick hB6.club hK) (fun hr hK => ref_Tick hr hK) fun w' hB h2' => ⟨by trivial, by trivial, _, hB⟩
        refine Cb_of (fun _ => ?_) (fun _ => ?_)
        · refine LoopC_of (σ := Int × Int × Int × Unit) (fun s w' => s.1 = s.2.1 ∧ 0 ≤ s.2.2.1 ∧ s.2.2.1 ≤ 5 ∧ ∃ cl', Both W w' c q b cl' ∧ Has w' b2 (.cells #[.int .i64 o.1, .int .i64 o.2.1, .int .i64 o.2.2] 53 (0, 0))) (fun s _ => (5 - s.2.2.1).toNat) ⟨rfl, by decide, by decide, cl, hB6, h2⟩ ?_
          intro _ s w7 hI
          obtain ⟨e, f, k, u⟩ := s
          obtain ⟨hef, hk0, hk5, cl', hB7, h27⟩ := hI
          simp only at hef hk0 hk5 ⊢
          refine Cb_of (fun hc => ?_) (fun hc => ?_)
          · have hk : k < 5 := by simpa using hc
            have ewk : IntKind.wrap .i64 (k + 1) = k + 1 := wrapI (by omega) (by omega)
            rw [ewk]
            exact step1 hB7 h27 (S := fun k => k = c) (fun k e => Or.inl e) (tick_ok hB7.ok) (fun hK => mem_Tick hB7.club hK) (fun hr hK => ref_Tick hr hK) fun w' hB h2' => ⟨_, by omega, ⟨by trivial, by omega, by omega, _, hB, h2'⟩, rfl⟩
          · exact ⟨hef, by trivial, cl', hB7⟩
        refine Cb_of (fun _ => ?_) (fun _ => ?_)
        · exact step1 hB6 h2 (S := fun k => k = c) (fun k e => Or.inl e) (beat_ok hB6.ok) (fun hK => mem_Beat hB6.club hK) (fun hr hK => ref_Beat hr hK) fun w' hB h2' => ⟨by trivial, by trivial, _, hB⟩
        refine Cb_of (fun _ => ?_) (fun _ => ?_)
        · refine LdV_has (v := .int .i64 o.2.1) h2 rfl ?_
          simp only [OpI_int]
          refine mem_Claim hB6.club hB6.ok fun w7 hc7 k7 => ?_
          simp only [T2_mk, OpI_int]
          obtain ⟨⟨cs7, hb7, hrc7⟩, kW⟩ := hB6.prog (fun k e => e) k7
          have h27 := k7.has h2 (hB6.club.other h2 (by decide) (by decide))
          refine LdA_all hb7 hrc7.size ?_
          refine LdV_has (v := .int .i64 o.2.1) h27 rfl ?_
          simp only [OpI_int]
          refine ref_Claim hB6.ok hrc7 fun cs8 w8 hrc8 k8 => ?_
          simp only [T3_mk, OpI_int, OpA_agg]
          refine ⟨hrc8.size, ?_⟩
          exact Both.done (hc7.keep k8 (by simp) (by simp)) (k8.has hb7 (by simp)) hrc8 hrc7.size (claim_ok hB6.ok) (kW.trans k8) hB6.lc hB6.lq hB6.lb fun w9 hB9 k9 => ⟨by trivial, by trivial, _, hB9⟩
        refine Cb_of (fun _ => ?_) (fun _ => ?_)
        · exact step1 hB6 h2 (S := fun k => k = c) (fun k e => Or.inl e) (join_ok hB6.ok) (fun hK => mem_Join hB6.club hK) (fun hr hK => ref_Join hr hK) fun w' hB h2' => ⟨by trivial, by trivial, _, hB⟩
        refine Cb_of (fun _ => ?_) (fun _ => ?_)
        · refine LdV_has (v := .int .i64 o.2.1) h2 rfl ?_
          simp only [OpI_int]
          refine LdV_has (v := .int .i64 o.2.2) h2 rfl ?_
          simp only [OpI_int]
          refine mem_Write hB6.club fun d => ?_
          simp only [OpI_int]
          have kd := Keep.drew (fun _ => False) w6 d
          have hB7 := hB6.keep kd
          obtain ⟨cs7, hb7, hrc7⟩ := hB7.ref
          refine LdA_all hb7 hrc7.size ?_
          refine LdV_has (v := .int .i64 o.2.1) (h2.dr d) rfl ?_
          simp only [OpI_int]
          refine LdV_has (v := .int .i64 o.2.2) (h2.dr d) rfl ?_
          simp only [OpI_int]
          refine ref_Write hrc7 fun w8 k8 => ?_
          simp only [OpI_int]
          exact ⟨by trivial, by trivial, _, hB7.keep k8⟩
        refine Cb_of (fun _ => ?_) (fun _ => ?_)
        · exact step1 hB6 h2 (S := fun k => k = c) (fun k e => Or.inl e) (crash_ok hB6.ok) (fun hK => mem_Crash hB6.club hK) (fun hr hK => ref_Crash hr hK) fun w' hB h2' => ⟨by trivial, by trivial, _, hB⟩
        refine Cb_of (fun _ => ?_) (fun _ => ?_)
        · exact step1 hB6 h2 (S := fun k => k = c) (fun k e => Or.inl e) (restart_ok hB6.ok) (fun hK => mem_Restart hB6.club hK) (fun hr hK => ref_Restart hr hK) fun w' hB h2' => ⟨by trivial, by trivial, _, hB⟩
        refine Cb_of (fun _ => ?_) (fun _ => ?_)
        · exact step1 hB6 h2 (S := fun k => k = q) (fun k e => Or.inr e) (lose_ok hB6.ok) (fun hK => mem_Lose hB6.club hK) (fun hr hK => ref_Lose hr hK) fun w' hB h2' => ⟨by trivial, by trivial, _, hB⟩
        refine Cb_of (fun _ => ?_) (fun _ => ?_)
        · exact step1 hB6 h2 (S := fun k => k = q) (fun k e => Or.inr e) (renew_ok hB6.ok) (fun hK => mem_Renew hB6.club hK) (fun hr hK => ref_Renew hr hK) fun w' hB h2' => ⟨by trivial, by trivial, _, hB⟩
        exact ⟨by trivial, by trivial, cl, hB6⟩
      · rintro _ ⟨e, f, a, b', u⟩ w7 ⟨h1, h3, cl', hB7⟩
        simp only at h1 h3 ⊢
        subst h1 h3
        refine ⟨by trivial, by trivial, by trivial, ?_⟩
        rw [show (a != a) = false by simp, show (e != e) = false by simp, cond_false, Cb_false]
        exact plays_round hB7 fun w8 k8 => ⟨_, by omega, ⟨j + 1, cl', rfl, by omega, hB7.keep k8⟩, rfl⟩
    · simp only [Ret_nil]
      exact ⟨by trivial, hB.k.below⟩
end Go.Proofs
