/-
  The document's club: what each of its calls answers, in the same words as the program's club.
-/
import Derived.Test.YtdjlmpkjdgmkkaaRefAfter
import Derived.Test.YtdjlmpkjdgmkkaaRow
import Derived.Test.YtdjlmpkjdgmkkaaFRef15
namespace Go.Proofs
open Go Go.Ev
set_option linter.unusedSimpArgs false
set_option linter.unusedVariables false
set_option maxRecDepth 100000

def drvLay : Lay (Bool × Int) := ⟨2, fun d => [.bool d.1, .int .u32 d.2], fun _ => rfl, fun d v hv => by simp at hv; rcases hv with rfl | rfl <;> rfl, by decide⟩
theorem drvT : LayT Try.prog drvLay 48 87 8 := ⟨by kernel_rfl, (Try.prog.info? 87).get (by kernel_rfl), ((((Try.prog.info? 87).get (by kernel_rfl)).zero).get (by kernel_rfl)), by kernel_rfl, by kernel_rfl, by kernel_rfl, by kernel_rfl, by kernel_rfl⟩
def Club.drvs (cl : Club) : List (Bool × Int) := (List.range cl.n).map cl.d
@[simp] theorem drvs_len (cl : Club) : cl.drvs.length = cl.n := by simp [Club.drvs]
theorem drvs_get {cl : Club} {i : Nat} (h : i < cl.n) : cl.drvs[i]? = some (cl.d i) := by simp [Club.drvs, h]
def rclubV (cl : Club) (p : Option Addr) (cap : Nat) : Array Value :=
  #[.bool cl.a.lives, .int .u32 cl.a.epoch, .int .i64 cl.a.sil, .bool cl.b.lives, .int .u32 cl.b.epoch, .int .i64 cl.b.sil, .slice p cl.n cap]
/-- the disks of a club, somewhere in blocks of their kind -/
structure SlD (w : World) (p : Option Addr) (cl : Club) : Prop where
  sl : SlL drvLay w p cl.n cl.drvs
  ty : ∀ k o, p = some ⟨k, o, none⟩ → ∃ cur, Has w k (.cells cur 87 (0, 0))
theorem SlD.keep {S : Nat → Prop} {w w' : World} {p : Option Addr} {cl : Club} (h : SlD w p cl) (hk : Keep S w w') (hS : ∀ b o, p = some ⟨b, o, none⟩ → ¬ S b) : SlD w' p cl :=
  ⟨h.sl.keep hk hS, fun k o e => by obtain ⟨cur, hc⟩ := h.ty k o e; exact ⟨cur, hk.has hc (hS k o e)⟩⟩
theorem SlD.keepB {S : Nat → Prop} {w w' : World} {p : Option Addr} {cl : Club} (h : SlD w p cl) (hk : Keep S w w') (hS : ∀ k, k < w.heap.size → ¬ S k) : SlD w' p cl :=
  h.keep hk fun b o e => by obtain ⟨cur, hc⟩ := h.ty b o e; exact hS b hc.lt
theorem SlD.ldA {w : World} {p : Option Addr} {cl : Club} (h : SlD w p cl) {i : Int} {x : Bool × Int} {n : Nat} (hn : drvLay.size = n) (h0 : 0 ≤ i) (hi : cl.drvs[i.toNat]? = some x) {K : Array Value → Prop} (hK : K (drvLay.row x).toArray) : IdxS p cl.n i n fun b o => LdA n b o (At w) K :=
  h.sl.ldA hn h0 hi hK
theorem SlD.ldF {w : World} {p : Option Addr} {cl : Club} (h : SlD w p cl) {i : Int} {x : Bool × Int} {n t : Nat} {v : Value} (hn : drvLay.size = n) (h0 : 0 ≤ i) (hi : cl.drvs[i.toNat]? = some x) (hv : (drvLay.row x)[t]? = some v) {K : Value → Prop} (hK : K v) :
    IdxS p cl.n i n fun b o => LdV b (o + t) (At w) K := h.sl.ldF hn h0 hi hv hK
theorem SlD.ld0 {w : World} {p : Option Addr} {cl : Club} (h : SlD w p cl) {i : Int} {x : Bool × Int} {n : Nat} {v : Value} (hn : drvLay.size = n) (h0 : 0 ≤ i) (hi : cl.drvs[i.toNat]? = some x) (hv : (drvLay.row x)[0]? = some v) {K : Value → Prop} (hK : K v) :
    IdxS p cl.n i n fun b o => LdV b o (At w) K := h.sl.ld0 hn h0 hi hv hK
theorem SlD.of {w : World} {base c : Nat} {p : Option Addr} {cl : Club} (h : OwnL drvLay w base 87 p cl.n c cl.drvs) : SlD w p cl :=
  ⟨h.sl, fun k o e => by
    rcases Own.cases h with ⟨h0, _⟩ | ⟨b, cur, h0, _, hg, _⟩
    · rw [h0] at e; cases e
    · rw [h0] at e; cases e; exact ⟨cur, hg⟩⟩
/-- the document's club, as a value whose disks lie somewhere -/
def RC (w : World) (cs : Array Value) (cl : Club) : Prop := ∃ p cap, cs = rclubV cl p cap ∧ SlD w p cl ∧ cl.n ≤ 32
theorem RC.keepB {S : Nat → Prop} {w w' : World} {cs : Array Value} {cl : Club} (h : RC w cs cl) (hk : Keep S w w') (hS : ∀ k cur, Has w k (.cells cur 87 (0, 0)) → ¬ S k) : RC w' cs cl := by
  obtain ⟨p, cap, h1, h2, h3⟩ := h
  exact ⟨p, cap, h1, h2.keep hk fun b o e => by obtain ⟨cur, hc⟩ := h2.ty b o e; exact hS b cur hc, h3⟩
theorem RC.keep {w w' : World} {cs : Array Value} {cl : Club} (h : RC w cs cl) (hk : Keep (fun _ => False) w w') : RC w' cs cl := by
  obtain ⟨p, cap, h1, h2, h3⟩ := h
  exact ⟨p, cap, h1, h2.keepB hk (by simp), h3⟩
theorem RC.size {w : World} {cs : Array Value} {cl : Club} (h : RC w cs cl) : cs.size = 7 := by obtain ⟨p, cap, rfl, _⟩ := h; rfl
theorem RC.one {w : World} {cs : Array Value} {cl : Club} (h : RC w cs cl) : ∀ v ∈ cs.toList, oneV v = true := by
  obtain ⟨p, cap, rfl, _⟩ := h
  intro v hv
  simp only [rclubV, List.mem_cons, List.not_mem_nil, or_false] at hv
  rcases hv with rfl | rfl | rfl | rfl | rfl | rfl | rfl <;> rfl

theorem two_new {t : TypeId} {cs : Array Value} {w : World} {K : Nat → Nat → World → Prop}
    (hK : ∀ b b1 w', b ≠ b1 → w.heap.size ≤ b → w.heap.size ≤ b1 → Has w' b (.cells cs t (0, 0)) → Has w' b1 (.cells (zc Try.prog t) t (0, 0)) → Keep (fun _ => False) w w' → K b b1 w') :
    Alc t cs w fun b w => Alc t (zc Try.prog t) w fun b1 w => K b b1 w := by
  rw [Alc_iff, Alc_iff]
  have hb := Has.new w (.cells cs t)
  exact hK _ _ _ hb.ne_new (Nat.le_refl _) (by simp) hb.alloc (Has.new _ _) ((Keep.new _ _ _).alloc _)
theorem one_new {t : TypeId} {cs : Array Value} {w : World} {K : Nat → World → Prop}
    (hK : ∀ b w', w.heap.size ≤ b → Has w' b (.cells cs t (0, 0)) → Keep (fun _ => False) w w' → K b w') : Alc t cs w fun b w => K b w := by
  rw [Alc_iff]
  exact hK _ _ (Nat.le_refl _) (Has.new _ _) (Keep.new _ _ _)
/-- a value is copied out, and the call ends -/
theorem ret_copy {t : TypeId} {n b b1 : Nat} {cs c0 : Array Value} {w : World} {K : Array Value → World → Prop} (hb : Has w b (.cells cs t (0, 0))) (hb1 : Has w b1 (.cells c0 t (0, 0))) (hs : cs.size = n) (h0 : c0.size = n) (h1 : ∀ v ∈ cs.toList, oneV v = true)
    (hK : ∀ w', Keep (fun k => k = b1) w w' → K cs w') : Dr1 w fun w => LdA n b 0 (At w) fun cs => StA n b1 0 cs w fun w => LdA n b1 0 (At w) fun cs' => Ret [] (K cs' w) := by
  intro d _
  refine LdA_all (hb.dr d) hs ?_
  refine StA_all (hb1.dr d) hs h0 h1 ?_
  refine LdA_all ((hb1.dr d).upd_same _) hs ?_
  rw [Ret_nil]
  exact hK _ (((Keep.refl (fun k => k = b1) w).dr d).upd (fun _ => rfl) _)
theorem zc_club : (zc Try.prog 50).size = 7 := by kernel_rfl

section cells
variable {cl : Club} {p : Option Addr} {cap : Nat} {n : Int}
theorem rc_liv (h : sideOk n) : (rclubV cl p cap)[0 + Int.toNat n * 3]? = some (.bool (cl.one n).lives) := by rcases h with rfl | rfl <;> rfl
theorem rc_ep (h : sideOk n) : (rclubV cl p cap)[0 + Int.toNat n * 3 + 1]? = some (.int .u32 (cl.one n).epoch) := by rcases h with rfl | rfl <;> rfl
theorem rc_sil (h : sideOk n) : (rclubV cl p cap)[0 + Int.toNat n * 3 + 2]? = some (.int .i64 (cl.one n).sil) := by rcases h with rfl | rfl <;> rfl
theorem rc_in (h : sideOk n) : 0 ≤ n ∧ n < 2 := by rcases h with rfl | rfl <;> decide
theorem rc_lt (h : sideOk n) : 0 + Int.toNat n * 3 + 2 < 7 := by rcases h with rfl | rfl <;> decide
theorem rcs_liv (h : sideOk n) (x : Bool) : (rclubV cl p cap).setIfInBounds (0 + Int.toNat n * 3) (.bool x) = rclubV (cl.set n { cl.one n with lives := x }) p cap := by rcases h with rfl | rfl <;> rfl
theorem rcs_ep (h : sideOk n) (x : Int) : (rclubV cl p cap).setIfInBounds (0 + Int.toNat n * 3 + 1) (.int .u32 x) = rclubV (cl.set n { cl.one n with epoch := x }) p cap := by rcases h with rfl | rfl <;> rfl
theorem rcs_sil (h : sideOk n) (x : Int) : (rclubV cl p cap).setIfInBounds (0 + Int.toNat n * 3 + 2) (.int .i64 x) = rclubV (cl.set n { cl.one n with sil := x }) p cap := by rcases h with rfl | rfl <;> rfl
@[simp] theorem set_n (o : One) : (cl.set n o).n = cl.n := by unfold Club.set; split <;> rfl
@[simp] theorem set_d (o : One) : (cl.set n o).d = cl.d := by unfold Club.set; split <;> rfl
theorem set_drvs (o : One) : (cl.set n o).drvs = cl.drvs := by unfold Club.drvs; rw [set_n, set_d]
theorem one_set (o : One) : (cl.set n o).one n = o := by unfold Club.set Club.one; split <;> rfl
theorem set_set (o o' : One) : (cl.set n o).set n o' = cl.set n o' := by unfold Club.set; split <;> rfl
theorem SlD.set {w : World} (h : SlD w p cl) (o : One) : SlD w p (cl.set n o) := ⟨by rw [set_n, set_drvs]; exact h.sl, h.ty⟩
theorem RC.set {w : World} (h : SlD w p cl) (hn : cl.n ≤ 32) (o : One) : RC w (rclubV (cl.set n o) p cap) (cl.set n o) := ⟨p, cap, rfl, h.set o, by rw [set_n]; exact hn⟩
end cells

theorem ref_side {n : Int} {w : World} {R : Value → World → Prop} (h : R (.bool (decide (sideOk n))) w) : CallV Try.prog 51 #[.int .i64 n] w R := by
  apply C_ravelinref15_side
  unfold F_ravelinref15_side
  refine ⟨rfl, rfl, ?_⟩
  rw [Ret_nil]
  have : (cond (n == 0) true (n == 1)) = decide (sideOk n) := by
    unfold sideOk
    by_cases h0 : n = 0
    · subst h0; rfl
    · have : (n == 0) = false := by simpa using h0
      rw [this, cond_false]
      by_cases h1 : n = 1
      · subst h1; rfl
      · have : (n == 1) = false := by simpa using h1
        rw [this]; simp [h0, h1]
  rw [this]
  exact h

/-- a store into a block that is known -/
theorem st_cell {t : TypeId} {b o : Nat} {v : Value} {w : World} {K : World → Prop} {cs cs' : Array Value} (hb : Has w b (.cells cs t (0, 0))) (ho : o < cs.size) (h1 : oneV v = true) (e : cs.setIfInBounds o v = cs')
    (hK : ∀ w', Has w' b (.cells cs' t (0, 0)) → Keep (fun k => k = b) w w' → K w') : StV b o v w K := by
  refine StV_of hb ho h1 ?_
  rw [e]
  exact hK _ (hb.upd_same _) (Keep.one w b _)

section calls
variable {cs : Array Value} {n : Int} {cl : Club} {w : World} {R : Value → World → Prop}
theorem ref_Tick (h : RC w cs cl) (hK : ∀ cs' w', RC w' cs' (tickS cl n).2 → Keep (fun _ => False) w w' → R (.tuple #[.int .i64 (tickS cl n).1, .agg cs']) w') :
    CallV Try.prog 28 #[.agg cs, .int .i64 n] w R := by
  apply C_ravelinref15_Tick
  unfold F_ravelinref15_Tick
  obtain ⟨p, cap, rfl, hs, hle⟩ := id h
  refine two_new fun b b1 w1 hne lb lb1 hb hb1 k1 => ?_
  refine ref_side ?_
  simp only [OpB_bool]
  unfold tickS at hK
  by_cases hn : sideOk n
  · rw [decide_eq_true hn, Bool.not_true, Cb_false]
    rw [if_pos hn] at hK
    refine ⟨rc_in hn, LdV_has hb (rc_liv hn) ?_⟩
    simp only [OpB_bool]
    refine Cb_of (fun hl => ?_) (fun hl => ?_)
    · rw [if_neg (by simpa using hl)] at hK
      exact ret_copy hb hb1 h.size zc_club h.one fun w2 k2 => have k := k1.trans' k2 (fun k hk e => by omega); hK _ w2 (h.keep k) k
    · rw [if_pos (by simpa using hl)] at hK
      refine ⟨rc_in hn, LdV_has hb (rc_sil hn) ?_⟩
      simp only [OpI_int]
      refine ⟨rc_in hn, st_cell hb (rc_lt hn) rfl (rcs_sil hn _) fun w2 hb2 k2 => ?_⟩
      have hb12 := k2.has hb1 (fun e => hne e.symm)
      have k12 := k1.trans' k2 (fun k hk e => by omega)
      have hr := RC.set (n := n) (cap := cap) hs hle { cl.one n with sil := IntKind.wrap .i64 ((cl.one n).sil + 1) }
      exact ret_copy hb2 hb12 rfl zc_club hr.one fun w3 k3 => have k := k12.trans' k3 (fun k hk e => by omega); hK _ w3 (hr.keep k) k
  · rw [decide_eq_false hn, Bool.not_false, Cb_true]
    rw [if_neg hn] at hK
    exact ret_copy hb hb1 h.size zc_club h.one fun w2 k2 => have k := k1.trans' k2 (fun k hk e => by omega); hK _ w2 (h.keep k) k
theorem ref_Crash (h : RC w cs cl) (hK : ∀ cs' w', RC w' cs' (crashS cl n).2 → Keep (fun _ => False) w w' → R (.tuple #[.int .i64 (crashS cl n).1, .agg cs']) w') :
    CallV Try.prog 34 #[.agg cs, .int .i64 n] w R := by
  apply C_ravelinref15_Crash
  unfold F_ravelinref15_Crash
  obtain ⟨p, cap, rfl, hs, hle⟩ := id h
  refine two_new fun b b1 w1 hne lb lb1 hb hb1 k1 => ?_
  refine ref_side ?_
  simp only [OpB_bool]
  unfold crashS at hK
  by_cases hn : sideOk n
  · rw [decide_eq_true hn, Bool.not_true, Cb_false]
    rw [if_pos hn] at hK
    refine ⟨rc_in hn, LdV_has hb (rc_liv hn) ?_⟩
    simp only [OpB_bool]
    refine Cb_of (fun hl => ?_) (fun hl => ?_)
    · rw [if_neg (by simpa using hl)] at hK
      exact ret_copy hb hb1 h.size zc_club h.one fun w2 k2 => have k := k1.trans' k2 (fun k hk e => by omega); hK _ w2 (h.keep k) k
    · rw [if_pos (by simpa using hl)] at hK
      refine ⟨rc_in hn, st_cell hb (Nat.lt_of_le_of_lt (Nat.le_add_right _ 2) (rc_lt hn)) rfl (rcs_liv hn _) fun w2 hb2 k2 => ?_⟩
      have hb12 := k2.has hb1 (fun e => hne e.symm)
      have k12 := k1.trans' k2 (fun k hk e => by omega)
      have hr := RC.set (n := n) (cap := cap) hs hle { cl.one n with lives := false }
      exact ret_copy hb2 hb12 rfl zc_club hr.one fun w3 k3 => have k := k12.trans' k3 (fun k hk e => by omega); hK _ w3 (hr.keep k) k
  · rw [decide_eq_false hn, Bool.not_false, Cb_true]
    rw [if_neg hn] at hK
    exact ret_copy hb hb1 h.size zc_club h.one fun w2 k2 => have k := k1.trans' k2 (fun k hk e => by omega); hK _ w2 (h.keep k) k
theorem ref_Restart (h : RC w cs cl) (hK : ∀ cs' w', RC w' cs' (restartS cl n).2 → Keep (fun _ => False) w w' → R (.tuple #[.int .i64 (restartS cl n).1, .agg cs']) w') :
    CallV Try.prog 35 #[.agg cs, .int .i64 n] w R := by
  apply C_ravelinref15_Restart
  unfold F_ravelinref15_Restart
  obtain ⟨p, cap, rfl, hs, hle⟩ := id h
  refine two_new fun b b1 w1 hne lb lb1 hb hb1 k1 => ?_
  refine ref_side ?_
  simp only [OpB_bool]
  unfold restartS at hK
  by_cases hn : sideOk n
  · rw [decide_eq_true hn, Bool.not_true, Cb_false]
    rw [if_pos hn] at hK
    refine ⟨rc_in hn, LdV_has hb (rc_liv hn) ?_⟩
    simp only [OpB_bool]
    refine Cb_of (fun hl => ?_) (fun hl => ?_)
    · rw [if_pos (by simpa using hl)] at hK
      exact ret_copy hb hb1 h.size zc_club h.one fun w2 k2 => have k := k1.trans' k2 (fun k hk e => by omega); hK _ w2 (h.keep k) k
    · rw [if_neg (by simp [hl])] at hK
      refine ⟨rc_in hn, st_cell hb (Nat.lt_of_le_of_lt (Nat.le_add_right _ 2) (rc_lt hn)) rfl (rcs_liv hn _) fun w2 hb2 k2 => ?_⟩
      have hb12 := k2.has hb1 (fun e => hne e.symm)
      have k12 := k1.trans' k2 (fun k hk e => by omega)
      refine ⟨rc_in hn, st_cell hb2 (rc_lt hn) rfl (rcs_sil hn _) fun w3 hb3 k3 => ?_⟩
      rw [one_set, set_set] at hb3
      have hb13 := k3.has hb12 (fun e => hne e.symm)
      have k13 := k12.trans' k3 (fun k hk e => by omega)
      have hr := RC.set (n := n) (cap := cap) hs hle ⟨true, (cl.one n).epoch, 0⟩
      exact ret_copy hb3 hb13 rfl zc_club hr.one fun w4 k4 => have k := k13.trans' k4 (fun k hk e => by omega); hK _ w4 (hr.keep k) k
  · rw [decide_eq_false hn, Bool.not_false, Cb_true]
    rw [if_neg hn] at hK
    exact ret_copy hb hb1 h.size zc_club h.one fun w2 k2 => have k := k1.trans' k2 (fun k hk e => by omega); hK _ w2 (h.keep k) k
end calls
end Go.Proofs
