/-
  The document's club, on: beats, keys, readiness, claims and joins, disks that fail and are renewed.
-/
import Derived.Test.YtdjlmpkjdgmkkaaRef15
namespace Go.Proofs
open Go Go.Ev
set_option linter.unusedSimpArgs false
set_option linter.unusedVariables false
set_option maxRecDepth 100000

theorem other_ok {n : Int} (h : sideOk n) : sideOk (1 - n) := by rcases h with rfl | rfl; exact Or.inr rfl; exact Or.inl rfl
theorem other_wrap {n : Int} (h : sideOk n) : IntKind.wrap .i64 (1 - n) = 1 - n := by rcases h with rfl | rfl <;> rfl
theorem bld_drv (a : Bool) (w : World) : (Instr.build 87 #[(0, .bool a)]).run Try.prog w = .ok (.agg #[.bool a, .int .u32 0]) w := run_build _ _ _ _ (by kernel_rfl)
theorem bld_drv2 (a : Bool) (k : Int) (w : World) : (Instr.build 87 #[(0, .bool a), (1, .int .u32 k)]).run Try.prog w = .ok (.agg #[.bool a, .int .u32 k]) w := run_build _ _ _ _ (by kernel_rfl)
theorem bld_one1 (a : Bool) (w : World) : (Instr.build 46 #[(0, .bool a)]).run Try.prog w = .ok (.agg #[.bool a, .int .u32 0, .int .i64 0]) w := run_build _ _ _ _ (by kernel_rfl)
theorem bld_one3 (a : Bool) (k s : Int) (w : World) : (Instr.build 46 #[(0, .bool a), (1, .int .u32 k), (2, .int .i64 s)]).run Try.prog w = .ok (.agg #[.bool a, .int .u32 k, .int .i64 s]) w := run_build _ _ _ _ (by kernel_rfl)
theorem bsl_drv0 (w : World) : (Instr.buildSlice 48 0 #[]).run Try.prog w = .ok (.slice (some ⟨w.heap.size, 0, none⟩) 0 0) (w.alloc (.cells #[] 87)) := by kernel_rfl
theorem bsl_drv1 (d : Bool × Int) (w : World) : (Instr.buildSlice 48 1 #[(0, .agg #[.bool d.1, .int .u32 d.2])]).run Try.prog w = .ok (.slice (some ⟨w.heap.size, 0, none⟩) 1 1) (w.alloc (.cells #[.bool d.1, .int .u32 d.2] 87)) :=
  run_buildSlice w 48 87 1 _ #[.bool d.1, .int .u32 d.2] ((Try.prog.info? 87).get (by kernel_rfl)) ((((Try.prog.info? 87).get (by kernel_rfl)).zero).get (by kernel_rfl)) (by kernel_rfl) (by kernel_rfl) (by kernel_rfl) (by decide +kernel) (by decide +kernel) (by kernel_rfl)
/-- one disk more -/
theorem app_drv {w : World} {base : Nat} {p : Option Addr} {l c : Nat} {ds : List (Bool × Int)} (h : OwnL drvLay w base 87 p l c ds) (d : Bool × Int) (hl : l ≤ 100) (hb : base ≤ w.heap.size) {K : Value → World → Prop}
    (hK : ∀ p' c' w', OwnL drvLay w' base 87 p' (l + 1) c' (ds ++ [d]) → Keep (fun k => p = some ⟨k, 0, none⟩) w w' → K (.slice p' (l + 1) c') w') :
    DoV Try.prog (Instr.buildSlice 48 1 #[(0, .agg #[.bool d.1, .int .u32 d.2])]) w fun v w => OpS v fun p1 l1 c1 =>
      DoV Try.prog (Builtin.append_ #[48, 48] 48 #[.slice p l c, .slice p1 l1 c1]) w K := by
  refine ⟨_, _, bsl_drv1 d w, ?_⟩
  simp only [OpS_slice]
  have k4 := Keep.new (fun _ => False) w (.cells #[.bool d.1, .int .u32 d.2] 87)
  obtain ⟨p', c', w5, hr5, ho5, k5⟩ := run_appendL1 drvT (h.keep k4 (by simp)) (Has.new w (.cells #[.bool d.1, .int .u32 d.2] 87)) (y := d) rfl (ty := 48) (c2 := 1) (by omega) (by simp [maxLen]; omega) (by have := k4.size; omega)
  exact ⟨_, _, hr5, hK p' c' w5 ho5 ((k4.mono fun _ h => h.elim).trans k5)⟩

section calls
variable {cs : Array Value} {n : Int} {cl : Club} {w : World} {R : Value → World → Prop}
theorem ref_Beat (h : RC w cs cl) (hK : ∀ cs' w', RC w' cs' (beatS cl n).2 → Keep (fun _ => False) w w' → R (.tuple #[.int .i64 (beatS cl n).1, .agg cs']) w') :
    CallV Try.prog 29 #[.agg cs, .int .i64 n] w R := by
  apply C_ravelinref15_Beat
  unfold F_ravelinref15_Beat
  obtain ⟨p, cap, rfl, hs, hle⟩ := id h
  refine two_new fun b b1 w1 hne lb lb1 hb hb1 k1 => ?_
  refine ref_side ?_
  simp only [OpB_bool]
  unfold beatS at hK
  by_cases hn : sideOk n
  · rw [decide_eq_true hn, Bool.not_true, Cb_false]
    rw [if_pos hn] at hK
    have bad : (cl.one 0).lives = false ∨ (cl.one 1).lives = false → (if (cl.one n).lives = true then if (cl.one (1 - n)).lives = true then ((0 : Int), cl.set (1 - n) { cl.one (1 - n) with sil := 0 }) else (13, cl) else (13, cl)) = (13, cl) := by
      intro hb
      rcases hn with rfl | rfl
      · simp only [Int.sub_zero]
        rcases hb with h | h <;> simp [h]
      · simp only [Int.sub_self]
        rcases hb with h | h <;> simp [h]
    refine ⟨by decide, LdV_has hb (rc_liv side0) ?_⟩
    simp only [OpB_bool]
    refine Cb_of (fun h0 => ?_) (fun h0 => ?_)
    · rw [bad (Or.inl (by simpa using h0))] at hK
      exact ret_copy hb hb1 h.size zc_club h.one fun w2 k2 => have k := k1.trans' k2 (fun k hk e => by omega); hK _ w2 (h.keep k) k
    refine ⟨by decide, LdV_has hb (rc_liv side1) ?_⟩
    simp only [OpB_bool]
    refine Cb_of (fun h1 => ?_) (fun h1 => ?_)
    · rw [bad (Or.inr (by simpa using h1))] at hK
      exact ret_copy hb hb1 h.size zc_club h.one fun w2 k2 => have k := k1.trans' k2 (fun k hk e => by omega); hK _ w2 (h.keep k) k
    have l0 : (cl.one 0).lives = true := by simpa using h0
    have l1 : (cl.one 1).lives = true := by simpa using h1
    rw [if_pos (by rcases hn with rfl | rfl <;> assumption), if_pos (by rcases hn with rfl | rfl <;> assumption)] at hK
    rw [other_wrap hn]
    have hn' := other_ok hn
    refine ⟨rc_in hn', st_cell hb (rc_lt hn') rfl (rcs_sil hn' _) fun w2 hb2 k2 => ?_⟩
    have hb12 := k2.has hb1 (fun e => hne e.symm)
    have k12 := k1.trans' k2 (fun k hk e => by omega)
    have hr := RC.set (n := 1 - n) (cap := cap) hs hle { cl.one (1 - n) with sil := 0 }
    exact ret_copy hb2 hb12 rfl zc_club hr.one fun w3 k3 => have k := k12.trans' k3 (fun k hk e => by omega); hK _ w3 (hr.keep k) k
  · rw [decide_eq_false hn, Bool.not_false, Cb_true]
    rw [if_neg hn] at hK
    exact ret_copy hb hb1 h.size zc_club h.one fun w2 k2 => have k := k1.trans' k2 (fun k hk e => by omega); hK _ w2 (h.keep k) k

theorem ref_Key (h : RC w cs cl) (hK : ∀ w', Keep (fun _ => False) w w' → R (.int .u32 cl.key) w') : CallV Try.prog 52 #[.agg cs] w R := by
  apply C_ravelinref15_Key
  unfold F_ravelinref15_Key
  obtain ⟨p, cap, rfl, hs, hle⟩ := id h
  refine one_new fun b w1 lb hb k1 => ?_
  have hs1 := hs.keepB k1 (by simp)
  refine LoopC_of (σ := Int × Int × Unit) (fun s w' => w' = w1 ∧ ∃ i : Nat, s.2.1 = i ∧ i ≤ cl.n ∧ s.1 = keyN cl.d i) (fun s _ => (cl.n - s.2.1).toNat) ⟨rfl, 0, rfl, by omega, rfl⟩ ?_
  intro _ s w2 hI
  obtain ⟨k, i, u⟩ := s
  obtain ⟨rfl, i, hi, hil, hk⟩ := hI
  simp only at hi hk ⊢
  subst hi hk
  refine LdV_has (v := .slice p cl.n cap) hb rfl ?_
  simp only [OpS_slice]
  refine Cb_of (fun hc => ?_) (fun hc => ?_)
  · have hi : i < cl.n := by simp only [decide_eq_true_eq] at hc; omega
    have ew : IntKind.wrap .i64 ((i : Int) + 1) = ((i + 1 : Nat) : Int) := by rw [wrapI (by omega) (by omega)]; omega
    rw [ew]
    have g : cl.drvs[((i : Nat) : Int).toNat]? = some (cl.d i) := by rw [Int.toNat_natCast]; exact drvs_get hi
    have fin : ∀ x, x = keyN cl.d (i + 1) → ∃ m', m' < ((cl.n : Int) - (i : Int)).toNat ∧ ((True ∧ ∃ i' : Nat, ((i + 1 : Nat) : Int) = i' ∧ i' ≤ cl.n ∧ x = keyN cl.d i') ∧ ((cl.n : Int) - ((i + 1 : Nat) : Int)).toNat = m') :=
      fun x e => ⟨_, by omega, ⟨trivial, i + 1, rfl, hi, e⟩, rfl⟩
    have e1 : keyN cl.d (i + 1) = if (cl.d i).1 then max (keyN cl.d i) (cl.d i).2 else keyN cl.d i := rfl
    refine LdV_has (v := .slice p cl.n cap) hb rfl ?_
    simp only [OpS_slice]
    refine hs1.ld0 rfl (by omega) g (v := .bool (cl.d i).1) rfl ?_
    simp only [OpB_bool]
    refine Cb_of (fun hl => ?_) (fun hl => ?_)
    · rw [if_pos hl] at e1
      refine LdV_has (v := .slice p cl.n cap) hb rfl ?_
      simp only [OpS_slice]
      refine hs1.ldF (t := 1) rfl (by omega) g (v := .int .u32 (cl.d i).2) rfl ?_
      simp only [OpI_int]
      refine Cb_of (fun hv => ?_) (fun hv => ?_)
      · refine LdV_has (v := .slice p cl.n cap) hb rfl ?_
        simp only [OpS_slice]
        refine hs1.ldF (t := 1) rfl (by omega) g (v := .int .u32 (cl.d i).2) rfl ?_
        simp only [OpI_int]
        exact fin _ (by rw [e1]; simp only [decide_eq_true_eq] at hv; omega)
      · exact fin _ (by rw [e1]; simp only [decide_eq_false_iff_not] at hv; omega)
    · rw [if_neg (by simp [hl])] at e1
      exact fin _ e1.symm
  · have hi : i = cl.n := by simp only [decide_eq_false_iff_not] at hc; omega
    subst hi
    simp only [Ret_nil]
    exact hK _ k1

theorem ref_Suspects (h : RC w cs cl) (hK : ∀ w', Keep (fun _ => False) w w' → R (.bool (suspS cl n)) w') : CallV Try.prog 42 #[.agg cs, .int .i64 n] w R := by
  apply C_ravelinref15_Suspects
  unfold F_ravelinref15_Suspects
  obtain ⟨p, cap, rfl, hs, hle⟩ := id h
  refine one_new fun b w1 lb hb k1 => ?_
  refine ref_side ?_
  simp only [OpB_bool]
  have hK1 := hK w1 k1
  unfold suspS at hK1
  by_cases hn : sideOk n
  · rw [decide_eq_true hn] at hK1 ⊢
    rw [Cb_true]
    refine ⟨rc_in hn, LdV_has hb (rc_liv hn) ?_⟩
    simp only [OpB_bool]
    refine Cb_of (fun hl => ?_) (fun hl => ?_)
    · refine ⟨rc_in hn, LdV_has hb (rc_sil hn) ?_⟩
      simp only [OpI_int, Ret_nil]
      rw [hl] at hK1
      simpa using hK1
    · rw [hl] at hK1
      simpa using hK1
  · rw [decide_eq_false hn] at hK1 ⊢
    simpa using hK1

theorem ref_Ready (h : RC w cs cl) (hK : ∀ w', Keep (fun _ => False) w w' → R (.bool (readyS cl n)) w') : CallV Try.prog 41 #[.agg cs, .int .i64 n] w R := by
  apply C_ravelinref15_Ready
  unfold F_ravelinref15_Ready
  obtain ⟨p, cap, rfl, hs, hle⟩ := id h
  refine one_new fun b w1 lb hb k1 => ?_
  intro d
  refine ⟨fun w' => Has w' b (.cells (rclubV cl p cap) 50 (0, 0)), hb, ?_⟩
  have k2 := k1.dr d
  refine ref_side ?_
  simp only [OpB_bool]
  refine ⟨hb, ?_⟩
  have hK1 := fun w' k => hK w' k
  unfold readyS at hK1
  by_cases hn : sideOk n
  · rw [decide_eq_true hn] at hK1 ⊢
    rw [Cb_true]
    refine ⟨rc_in hn, LdV_of (fun w' hw => ⟨_, _, _, hw, rc_liv hn⟩) ?_⟩
    simp only [OpB_bool]
    refine Cb_of (fun hl => ?_) (fun hl => ?_)
    · refine ⟨rc_in hn, LdV_of (fun w' hw => ⟨_, _, _, hw, rc_ep hn⟩) ?_⟩
      simp only [OpI_int]
      refine LdA_all (hb.dr d) rfl ?_
      refine ref_Key (h.keep k2) fun w3 k3 => ?_
      simp only [OpI_int, Ret_nil]
      refine ⟨k3.has (hb.dr d) (by simp), ?_⟩
      have := hK1 w3 (k2.trans k3)
      rw [hl] at this
      simpa using this
    · have := hK1 _ k2
      rw [hl] at this
      exact ⟨hb, by simpa using this⟩
  · rw [decide_eq_false hn] at hK1 ⊢
    have := hK1 _ k2
    exact ⟨hb, by simpa using this⟩

theorem ref_drive (h : RC w cs cl) (hK : ∀ w', Keep (fun _ => False) w w' → R (.bool (decide (driveOk cl n))) w') : CallV Try.prog 56 #[.agg cs, .int .i64 n] w R := by
  apply C_ravelinref15_drive
  unfold F_ravelinref15_drive
  obtain ⟨p, cap, rfl, hs, hle⟩ := id h
  refine one_new fun b w1 lb hb k1 => ?_
  have hK1 := hK w1 k1
  refine Cb_of (fun h0 => ?_) (fun h0 => ?_)
  · refine LdV_has (v := .slice p cl.n cap) hb rfl ?_
    simp only [OpS_slice, Ret_nil]
    have : decide (n < (cl.n : Int)) = decide (driveOk cl n) := by
      unfold driveOk
      simp only [decide_eq_true_eq] at h0
      apply decide_eq_decide.2
      omega
    rw [this]
    exact hK1
  · rw [decide_eq_false (by unfold driveOk; simp only [decide_eq_false_iff_not] at h0; omega)] at hK1
    simpa using hK1

theorem ref_Write {disk : Int} (h : RC w cs cl) (hK : ∀ w', Keep (fun _ => False) w w' → R (.int .i64 (writeS cl n disk)) w') : CallV Try.prog 33 #[.agg cs, .int .i64 n, .int .i64 disk] w R := by
  apply C_ravelinref15_Write
  unfold F_ravelinref15_Write
  obtain ⟨p, cap, rfl, hs, hle⟩ := id h
  refine one_new fun b w1 lb hb k1 => ?_
  refine ref_side ?_
  simp only [OpB_bool]
  by_cases hn : sideOk n
  · rw [decide_eq_true hn, Bool.not_true, Cb_false]
    refine LdA_all hb rfl ?_
    refine ref_drive (h.keep k1) fun w2 k2 => ?_
    have k12 := k1.trans k2
    have hb2 := k2.has hb (by simp)
    have hs2 := hs.keepB k12 (by simp)
    simp only [OpB_bool]
    by_cases hd : driveOk cl disk
    · rw [decide_eq_true hd, Bool.not_true, Cb_false]
      refine ⟨rc_in hn, LdV_has hb2 (rc_liv hn) ?_⟩
      simp only [OpB_bool]
      refine Cb_of (fun hl => ?_) (fun hl => ?_)
      · have e : writeS cl n disk = 13 := by simp only [Bool.not_eq_true'] at hl; simp [writeS, hn, hd, hl]
        have := hK w2 k12; rw [e] at this; simpa using this
      have hl' : (cl.one n).lives = true := by simpa using hl
      have g : cl.drvs[disk.toNat]? = some (cl.d disk.toNat) := drvs_get (by unfold driveOk at hd; omega)
      refine LdV_has (v := .slice p cl.n cap) hb2 rfl ?_
      simp only [OpS_slice]
      refine hs2.ld0 rfl hd.1 g (v := .bool (cl.d disk.toNat).1) rfl ?_
      simp only [OpB_bool]
      refine Cb_of (fun hg => ?_) (fun hg => ?_)
      · have e : writeS cl n disk = 5 := by simp only [Bool.not_eq_true'] at hg; simp [writeS, hn, hd, hl', hg]
        have := hK w2 k12; rw [e] at this; simpa using this
      have hg' : (cl.d disk.toNat).1 = true := by simpa using hg
      refine ⟨rc_in hn, LdV_has hb2 (rc_ep hn) ?_⟩
      simp only [OpI_int]
      refine LdV_has (v := .slice p cl.n cap) hb2 rfl ?_
      simp only [OpS_slice]
      refine hs2.ldF (t := 1) rfl hd.1 g (v := .int .u32 (cl.d disk.toNat).2) rfl ?_
      simp only [OpI_int]
      intro d
      have hKd := hK (w2.dr d) (k12.dr d)
      refine Cb_of (fun hc => ?_) (fun hc => ?_)
      · have e : writeS cl n disk = 6 := by simp only [decide_eq_true_eq] at hc; simp [writeS, hn, hd, hl', hg', hc]
        rw [e] at hKd; simpa using hKd
      · have e : writeS cl n disk = 0 := by simp only [decide_eq_false_iff_not] at hc; simp [writeS, hn, hd, hl', hg', hc]
        rw [e] at hKd; simpa using hKd
    · rw [decide_eq_false hd, Bool.not_false, Cb_true]
      have e : writeS cl n disk = 2 := by simp [writeS, hd]
      have := hK w2 k12; rw [e] at this; simpa using this
  · rw [decide_eq_false hn, Bool.not_false, Cb_true]
    have e : writeS cl n disk = 2 := by simp [writeS, hn]
    have := hK w1 k1; rw [e] at this; simpa using this

theorem ref_Join (h : RC w cs cl) (hK : ∀ cs' w', RC w' cs' (joinS cl n).2 → Keep (fun _ => False) w w' → R (.tuple #[.int .i64 (joinS cl n).1, .agg cs']) w') :
    CallV Try.prog 31 #[.agg cs, .int .i64 n] w R := by
  apply C_ravelinref15_Join
  unfold F_ravelinref15_Join
  obtain ⟨p, cap, rfl, hs, hle⟩ := id h
  refine two_new fun b b1 w1 hne lb lb1 hb hb1 k1 => ?_
  refine ref_side ?_
  simp only [OpB_bool]
  have same : ∀ {w2 : World} (x : Int), joinS cl n = (x, cl) → Has w2 b (.cells (rclubV cl p cap) 50 (0, 0)) → Has w2 b1 (.cells (zc Try.prog 50) 50 (0, 0)) → Keep (fun _ => False) w w2 →
      Dr1 w2 fun w => LdA 7 b 0 (At w) fun cs => StA 7 b1 0 cs w fun w => LdA 7 b1 0 (At w) fun cs' => Ret [] (R (.tuple #[.int .i64 x, .agg cs']) w) := by
    intro w2 x e hb hb1 k
    rw [e] at hK
    exact ret_copy hb hb1 h.size zc_club h.one fun w3 k3 => have k := k.trans' k3 (fun k hk e => by omega); hK _ w3 (h.keep k) k
  by_cases hn : sideOk n
  · rw [decide_eq_true hn, Bool.not_true, Cb_false, other_wrap hn]
    have hn' := other_ok hn
    refine ⟨rc_in hn, LdV_has hb (rc_liv hn) ?_⟩
    simp only [OpB_bool]
    refine Cb_of (fun hl => ?_) (fun hl => ?_)
    · exact same 13 (by simp only [Bool.not_eq_true'] at hl; simp [joinS, hn, hl]) hb hb1 k1
    have hl' : (cl.one n).lives = true := by simpa using hl
    refine LdA_all hb rfl ?_
    refine ref_Ready (h.keep k1) fun w2 k2 => ?_
    have k12 := k1.trans k2
    have hb2 := k2.has hb (by simp)
    have hb12 := k2.has hb1 (by simp)
    simp only [OpB_bool]
    refine Cb_of (fun hr => ?_) (fun hr => ?_)
    · exact same 13 (by simp only [Bool.not_eq_true'] at hr; simp [joinS, hn, hr]) hb2 hb12 k12
    have hr' : readyS cl (1 - n) = true := by simpa using hr
    refine LdA_all hb2 rfl ?_
    refine ref_Ready (h.keep k12) fun w3 k3 => ?_
    have k13 := k12.trans k3
    have hb3 := k3.has hb2 (by simp)
    have hb13 := k3.has hb12 (by simp)
    simp only [OpB_bool]
    refine Cb_of (fun hg => ?_) (fun hg => ?_)
    · refine ⟨rc_in hn, LdV_has hb3 (rc_ep hn) ?_⟩
      simp only [OpI_int]
      refine ⟨rc_in hn', LdV_has hb3 (rc_ep hn') ?_⟩
      simp only [OpI_int]
      intro d
      refine Cb_of (fun he => ?_) (fun he => ?_)
      · exact same 11 (by simp only [beq_iff_eq] at he; simp [joinS, hn, hl', hr', hg, he]) (hb3.dr d) (hb13.dr d) (k13.dr d)
      · exact same 12 (by simp only [beq_eq_false_iff_ne, ne_eq] at he; simp [joinS, hn, hl', hr', hg, he]) (hb3.dr d) (hb13.dr d) (k13.dr d)
    · have e : joinS cl n = (0, (cl.set n ⟨(cl.one n).lives, (cl.one (1 - n)).epoch, 0⟩).set (1 - n) { cl.one (1 - n) with sil := 0 }) := by simp [joinS, hn, hl', hr', hg]
      rw [e] at hK
      refine ⟨rc_in hn', LdV_has hb3 (rc_ep hn') ?_⟩
      simp only [OpI_int]
      refine DoQ_of (fun d => bld_one3 _ _ _ _) ?_
      simp only [OpA_agg]
      refine ⟨rfl, rc_in hn, ?_⟩
      refine StA_of hb3 rfl (by have := rc_lt hn; show _ ≤ 7; omega) (by intro v hv; simp at hv; rcases hv with rfl | rfl | rfl <;> rfl) ?_
      have es : spl (rclubV cl p cap) (0 + Int.toNat n * 3) #[.bool true, .int .u32 (cl.one (1 - n)).epoch, .int .i64 0] = rclubV (cl.set n ⟨(cl.one n).lives, (cl.one (1 - n)).epoch, 0⟩) p cap := by
        rw [hl']; rcases hn with rfl | rfl <;> rfl
      rw [es]
      have hb4 := hb3.upd_same (.cells (rclubV (cl.set n ⟨(cl.one n).lives, (cl.one (1 - n)).epoch, 0⟩) p cap) 50)
      have k4 := Keep.one w3 b (.cells (rclubV (cl.set n ⟨(cl.one n).lives, (cl.one (1 - n)).epoch, 0⟩) p cap) 50)
      generalize w3.upd b (.cells (rclubV (cl.set n ⟨(cl.one n).lives, (cl.one (1 - n)).epoch, 0⟩) p cap) 50) = w4 at *
      have hb14 := k4.has hb13 (fun e => hne e.symm)
      have k14 := k13.trans' k4 (fun k hk e => by omega)
      refine ⟨rc_in hn', st_cell hb4 (rc_lt hn') rfl (rcs_sil hn' _) fun w5 hb5 k5 => ?_⟩
      have hb15 := k5.has hb14 (fun e => hne e.symm)
      have k15 := k14.trans' k5 (fun k hk e => by omega)
      have eo : (cl.set n ⟨(cl.one n).lives, (cl.one (1 - n)).epoch, 0⟩).one (1 - n) = cl.one (1 - n) := by rcases hn with rfl | rfl <;> rfl
      rw [eo] at hb5
      have hr := RC.set (n := 1 - n) (cap := cap) (cl := cl.set n ⟨(cl.one n).lives, (cl.one (1 - n)).epoch, 0⟩) (p := p) (w := w) (hs.set _) (by rw [set_n]; exact hle) { cl.one (1 - n) with sil := 0 }
      exact ret_copy hb5 hb15 rfl zc_club hr.one fun w6 k6 => have k := k15.trans' k6 (fun k hk e => by omega); hK _ w6 (hr.keep k) k
  · rw [decide_eq_false hn, Bool.not_false, Cb_true]
    exact same 2 (by simp [joinS, hn]) hb hb1 k1
end calls
end Go.Proofs
