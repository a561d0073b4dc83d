/-
  THE CLUB OF TWO MEMBERS: what each of its calls does, said over plain data.
-/
import Derived.Test.YtdjlmpkjdgmkkaaRun
import Derived.Test.YtdjlmpkjdgmkkaaFMem
import Derived.Test.YtdjlmpkjdgmkkaaFAfter
import Derived.Laws.Tables
namespace Go.Proofs
open Go Go.Ev
set_option linter.unusedSimpArgs false
set_option linter.unusedVariables false
set_option maxRecDepth 100000

structure One where
  lives : Bool
  epoch : Int
  sil : Int
structure Club where
  a : One
  b : One
  n : Nat
  d : Nat → Bool × Int
def clubV (cl : Club) (q cap : Nat) : Array Value :=
  #[.bool cl.a.lives, .int .u32 cl.a.epoch, .int .i64 cl.a.sil, .bool cl.b.lives, .int .u32 cl.b.epoch, .int .i64 cl.b.sil, .slice (some ⟨q, 0, none⟩) cl.n cap]
def ClubAt (w : World) (c q : Nat) (cl : Club) : Prop :=
  ∃ cap cur, Has w c (.cells (clubV cl q cap) 79 (0, 0)) ∧ Has w q (.cells cur 81 (0, 0)) ∧ cl.n ≤ maxLen ∧ ∀ i, i < cl.n → cur[2 * i]? = some (.bool (cl.d i).1) ∧ cur[2 * i + 1]? = some (.int .u32 (cl.d i).2)
theorem ClubAt.keep {w w' : World} {c q : Nat} {cl : Club} {S : Nat → Prop} (h : ClubAt w c q cl) (hk : Keep S w w') (hc : ¬ S c) (hq : ¬ S q) : ClubAt w' c q cl := by
  obtain ⟨cap, cur, h1, h2, h3⟩ := h
  exact ⟨cap, cur, hk.has h1 hc, hk.has h2 hq, h3⟩
theorem ClubAt.ne {w : World} {c q : Nat} {cl : Club} (h : ClubAt w c q cl) : c ≠ q := by
  obtain ⟨cap, cur, h1, h2, h3⟩ := h
  exact h1.ne h2 (by intro e; simp at e)
theorem ClubAt.lt {w : World} {c q : Nat} {cl : Club} (h : ClubAt w c q cl) : c < w.heap.size ∧ q < w.heap.size := by
  obtain ⟨cap, cur, h1, h2, h3⟩ := h
  exact ⟨h1.lt, h2.lt⟩
/-- the sides are written -/
theorem ClubAt.set {w : World} {c q cap : Nat} {cl cl' : Club} {cur cs : Array Value} (h1 : Has w c (.cells (clubV cl q cap) 79 (0, 0))) (h2 : Has w q (.cells cur 81 (0, 0))) (h3 : cl.n ≤ maxLen)
    (h4 : ∀ i, i < cl.n → cur[2 * i]? = some (.bool (cl.d i).1) ∧ cur[2 * i + 1]? = some (.int .u32 (cl.d i).2)) (e : cs = clubV cl' q cap) (en : cl'.n = cl.n) (ed : cl'.d = cl.d) :
    ClubAt (w.upd c (.cells cs 79 (0, 0))) c q cl' :=
  ⟨cap, cur, by rw [← e]; exact h1.upd_same _, h2.upd (h2.ne h1 (by intro e; simp at e)), by rw [en]; exact h3, by rw [en, ed]; exact h4⟩

def keyN (d : Nat → Bool × Int) : Nat → Int
  | 0 => 0
  | i + 1 => if (d i).1 then max (keyN d i) (d i).2 else keyN d i
def Club.key (cl : Club) : Int := keyN cl.d cl.n
def Club.one (cl : Club) (n : Int) : One := if n = 0 then cl.a else cl.b
def Club.set (cl : Club) (n : Int) (o : One) : Club := if n = 0 then { cl with a := o } else { cl with b := o }
def sideOk (n : Int) : Prop := n = 0 ∨ n = 1
instance (n : Int) : Decidable (sideOk n) := inferInstanceAs (Decidable (_ ∨ _))
theorem side0 : sideOk 0 := Or.inl rfl
theorem side1 : sideOk 1 := Or.inr rfl

theorem mem_side {c : Nat} {n : Int} {w : World} {R : Value → World → Prop} (h : R (if sideOk n then .pointer (some ⟨c, 0 + Int.toNat n * 3, none⟩) else .pointer none) w) :
    CallV Try.prog 48 #[.pointer (some ⟨c, 0, none⟩), .int .i64 n] w R := by
  apply C_member_Club_side
  unfold F_member_Club_side
  simp only [Req_true, Req_rfl]
  by_cases h0 : n < 0
  · rw [if_neg (by unfold sideOk; omega)] at h
    simpa [h0] using h
  · by_cases h1 : n > 1
    · rw [if_neg (by unfold sideOk; omega)] at h
      simpa [h0, h1] using h
    · rw [if_pos (by unfold sideOk; omega)] at h
      simp only [h0, h1, decide_false, cond_false, Cb_false, Ret_nil, Req_iff]
      exact ⟨by omega, h⟩

def tickS (cl : Club) (n : Int) : Int × Club :=
  if sideOk n then if (cl.one n).lives then (0, cl.set n { cl.one n with sil := IntKind.wrap .i64 ((cl.one n).sil + 1) }) else (13, cl) else (2, cl)
theorem mem_Tick {c q : Nat} {n : Int} {cl : Club} {w : World} {R : Value → World → Prop} (h : ClubAt w c q cl) (hK : ∀ w', ClubAt w' c q (tickS cl n).2 → Keep (fun k => k = c) w w' → R (.int .i64 (tickS cl n).1) w') :
    CallV Try.prog 23 #[.pointer (some ⟨c, 0, none⟩), .int .i64 n] w R := by
  apply C_member_Club_Tick
  unfold F_member_Club_Tick
  refine mem_side ?_
  obtain ⟨cap, cur, h1, h2, h3, h4⟩ := id h
  by_cases hn : sideOk n
  · rw [if_pos hn]
    simp only [OpP_some, LdV_iff h1, StV_iff h1]
    unfold tickS at hK
    rw [if_pos hn] at hK
    rcases hn with rfl | rfl
    all_goals
      simp only [clubV, Club.one, Club.set, if_true] at *
      simp only [Int.reduceToNat, Nat.zero_mul, Nat.one_mul, Nat.zero_add, List.getElem?_toArray, List.getElem?_cons_zero, List.getElem?_cons_succ, Option.some.injEq, exists_eq_left', OpB_bool, OpI_int, Ret_nil, Nat.reduceAdd, Int.reduceEq, if_false] at *
      refine Cb_of (fun hl => ?_) (fun hl => ?_)
      · simp only [Bool.not_eq_true'] at hl
        rw [if_neg (by simp [hl])] at hK
        exact hK w h (Keep.refl _ _)
      · simp only [Bool.not_eq_false'] at hl
        rw [if_pos hl] at hK
        exact ⟨rfl, by simp, hK _ (ClubAt.set h1 h2 h3 h4 (by simp [clubV]) rfl rfl) (Keep.one _ _ _)⟩
  · rw [if_neg hn]
    simp only [OpP_none, Ret_nil]
    unfold tickS at hK
    rw [if_neg hn] at hK
    exact hK w h (Keep.refl _ _)

def crashS (cl : Club) (n : Int) : Int × Club :=
  if sideOk n then if (cl.one n).lives then (0, cl.set n { cl.one n with lives := false }) else (13, cl) else (2, cl)
theorem mem_Crash {c q : Nat} {n : Int} {cl : Club} {w : World} {R : Value → World → Prop} (h : ClubAt w c q cl) (hK : ∀ w', ClubAt w' c q (crashS cl n).2 → Keep (fun k => k = c) w w' → R (.int .i64 (crashS cl n).1) w') :
    CallV Try.prog 19 #[.pointer (some ⟨c, 0, none⟩), .int .i64 n] w R := by
  apply C_member_Club_Crash
  unfold F_member_Club_Crash
  refine mem_side ?_
  obtain ⟨cap, cur, h1, h2, h3, h4⟩ := id h
  by_cases hn : sideOk n
  · rw [if_pos hn]
    simp only [OpP_some, LdV_iff h1, StV_iff h1]
    unfold crashS at hK
    rw [if_pos hn] at hK
    rcases hn with rfl | rfl
    all_goals
      simp only [clubV, Club.one, Club.set, if_true] at *
      simp only [Int.reduceToNat, Nat.zero_mul, Nat.one_mul, Nat.zero_add, List.getElem?_toArray, List.getElem?_cons_zero, List.getElem?_cons_succ, Option.some.injEq, exists_eq_left', OpB_bool, OpI_int, Ret_nil, Nat.reduceAdd, Int.reduceEq, if_false] at *
      refine Cb_of (fun hl => ?_) (fun hl => ?_)
      · simp only [Bool.not_eq_true'] at hl
        rw [if_neg (by simp [hl])] at hK
        exact hK w h (Keep.refl _ _)
      · simp only [Bool.not_eq_false'] at hl
        rw [if_pos hl] at hK
        exact ⟨rfl, by simp, hK _ (ClubAt.set h1 h2 h3 h4 (by simp [clubV]) rfl rfl) (Keep.one _ _ _)⟩
  · rw [if_neg hn]
    simp only [OpP_none, Ret_nil]
    unfold crashS at hK
    rw [if_neg hn] at hK
    exact hK w h (Keep.refl _ _)

def restartS (cl : Club) (n : Int) : Int × Club :=
  if sideOk n then if (cl.one n).lives then (11, cl) else (0, cl.set n ⟨true, (cl.one n).epoch, 0⟩) else (2, cl)
theorem mem_Restart {c q : Nat} {n : Int} {cl : Club} {w : World} {R : Value → World → Prop} (h : ClubAt w c q cl) (hK : ∀ w', ClubAt w' c q (restartS cl n).2 → Keep (fun k => k = c) w w' → R (.int .i64 (restartS cl n).1) w') :
    CallV Try.prog 25 #[.pointer (some ⟨c, 0, none⟩), .int .i64 n] w R := by
  apply C_member_Club_Restart
  unfold F_member_Club_Restart
  refine mem_side ?_
  obtain ⟨cap, cur, h1, h2, h3, h4⟩ := id h
  by_cases hn : sideOk n
  · rw [if_pos hn]
    simp only [OpP_some, LdV_iff h1, StV_iff h1]
    unfold restartS at hK
    rw [if_pos hn] at hK
    rcases hn with rfl | rfl
    all_goals
      simp only [clubV, Club.one, Club.set, if_true] at *
      simp only [Int.reduceToNat, Nat.zero_mul, Nat.one_mul, Nat.zero_add, List.getElem?_toArray, List.getElem?_cons_zero, List.getElem?_cons_succ, Option.some.injEq, exists_eq_left', OpB_bool, OpI_int, Ret_nil, Nat.reduceAdd, Int.reduceEq, if_false] at *
      refine Cb_of (fun hl => ?_) (fun hl => ?_)
      · rw [if_pos hl] at hK
        exact hK w h (Keep.refl _ _)
      · rw [if_neg (by simp [hl])] at hK
        refine ⟨rfl, by simp, ?_⟩
        rw [StV_upd h1.lt]
        exact ⟨rfl, by simp, hK _ (ClubAt.set h1 h2 h3 h4 (by simp [clubV]) rfl rfl) (Keep.one _ _ _)⟩
  · rw [if_neg hn]
    simp only [OpP_none, Ret_nil]
    unfold restartS at hK
    rw [if_neg hn] at hK
    exact hK w h (Keep.refl _ _)

def suspS (cl : Club) (n : Int) : Bool := decide (sideOk n) && (cl.one n).lives && decide (3 ≤ (cl.one n).sil)
theorem mem_Suspects {c q : Nat} {n : Int} {cl : Club} {w : World} {R : Value → World → Prop} (h : ClubAt w c q cl) (hK : R (.bool (suspS cl n)) w) :
    CallV Try.prog 26 #[.pointer (some ⟨c, 0, none⟩), .int .i64 n] w R := by
  apply C_member_Club_Suspects
  unfold F_member_Club_Suspects
  refine mem_side ?_
  obtain ⟨cap, cur, h1, h2, h3, h4⟩ := id h
  by_cases hn : sideOk n
  · rw [if_pos hn]
    simp only [OpP_some, LdV_iff h1]
    unfold suspS at hK
    rw [decide_eq_true hn] at hK
    rcases hn with rfl | rfl
    all_goals
      simp only [clubV, Club.one, if_true] at *
      simp only [Int.reduceToNat, Nat.zero_mul, Nat.one_mul, Nat.zero_add, List.getElem?_toArray, List.getElem?_cons_zero, List.getElem?_cons_succ, Option.some.injEq, exists_eq_left', OpB_bool, OpI_int, Ret_nil, Nat.reduceAdd, Int.reduceEq, if_false] at *
      refine Cb_of (fun hl => ?_) (fun hl => ?_)
      · rw [hl] at hK; simpa using hK
      · rw [hl] at hK; simpa using hK
  · rw [if_neg hn]
    simp only [OpP_none, Ret_nil]
    unfold suspS at hK
    rw [decide_eq_false hn] at hK
    simpa using hK

def epochS (cl : Club) (n : Int) : Int × Int := if sideOk n then ((cl.one n).epoch, 0) else (0, 2)
theorem mem_Epoch {c q : Nat} {n : Int} {cl : Club} {w : World} {R : Value → World → Prop} (h : ClubAt w c q cl) (hK : R (.tuple #[.int .u32 (epochS cl n).1, .int .i64 (epochS cl n).2]) w) :
    CallV Try.prog 40 #[.pointer (some ⟨c, 0, none⟩), .int .i64 n] w R := by
  apply C_member_Club_Epoch
  unfold F_member_Club_Epoch
  refine mem_side ?_
  obtain ⟨cap, cur, h1, h2, h3, h4⟩ := id h
  by_cases hn : sideOk n
  · rw [if_pos hn]
    simp only [OpP_some, LdV_iff h1]
    unfold epochS at hK
    rw [if_pos hn] at hK
    rcases hn with rfl | rfl
    all_goals
      simp only [clubV, Club.one, if_true] at *
      simp only [Int.reduceToNat, Nat.zero_mul, Nat.one_mul, Nat.zero_add, List.getElem?_toArray, List.getElem?_cons_zero, List.getElem?_cons_succ, Option.some.injEq, exists_eq_left', OpB_bool, OpI_int, Ret_nil, Nat.reduceAdd, Int.reduceEq, if_false] at *
      exact hK
  · rw [if_neg hn]
    simp only [OpP_none, Ret_nil]
    unfold epochS at hK
    rw [if_neg hn] at hK
    exact hK

def beatS (cl : Club) (n : Int) : Int × Club :=
  if sideOk n then if (cl.one n).lives then if (cl.one (1 - n)).lives then (0, cl.set (1 - n) { cl.one (1 - n) with sil := 0 }) else (13, cl) else (13, cl) else (2, cl)
theorem mem_Beat {c q : Nat} {n : Int} {cl : Club} {w : World} {R : Value → World → Prop} (h : ClubAt w c q cl) (hK : ∀ w', ClubAt w' c q (beatS cl n).2 → Keep (fun k => k = c) w w' → R (.int .i64 (beatS cl n).1) w') :
    CallV Try.prog 21 #[.pointer (some ⟨c, 0, none⟩), .int .i64 n] w R := by
  apply C_member_Club_Beat
  unfold F_member_Club_Beat
  refine mem_side ?_
  obtain ⟨cap, cur, h1, h2, h3, h4⟩ := id h
  by_cases hn : sideOk n
  · rw [if_pos hn]
    simp only [OpP_some, LdV_iff h1]
    unfold beatS at hK
    rw [if_pos hn] at hK
    rcases hn with rfl | rfl
    · rw [show IntKind.wrap .i64 (1 - 0) = 1 from rfl]
      simp only [clubV, Club.one, Club.set, if_true, Int.sub_zero, Int.sub_self] at *
      simp only [Int.reduceToNat, Nat.zero_mul, Nat.one_mul, Nat.zero_add, List.getElem?_toArray, List.getElem?_cons_zero, List.getElem?_cons_succ, Option.some.injEq, exists_eq_left', OpB_bool, OpI_int, Ret_nil, Nat.reduceAdd, Int.reduceEq, if_false] at *
      refine Cb_of (fun hl => ?_) (fun hl => ?_)
      · simp only [Bool.not_eq_true'] at hl
        rw [if_neg (by simp [hl])] at hK
        exact hK w h (Keep.refl _ _)
      · simp only [Bool.not_eq_false'] at hl
        rw [if_pos hl] at hK
        refine mem_side ?_
        rw [if_pos side1]
        simp only [OpP_some, LdV_iff h1, clubV]
        simp only [Int.reduceToNat, Nat.zero_mul, Nat.one_mul, Nat.zero_add, List.getElem?_toArray, List.getElem?_cons_zero, List.getElem?_cons_succ, Option.some.injEq, exists_eq_left', OpB_bool, OpI_int, Ret_nil, Nat.reduceAdd]
        refine Cb_of (fun hl => ?_) (fun hl => ?_)
        · simp only [Bool.not_eq_true'] at hl
          rw [if_neg (by simp [hl])] at hK
          exact hK w h (Keep.refl _ _)
        · simp only [Bool.not_eq_false'] at hl
          rw [if_pos hl] at hK
          refine mem_side ?_
          rw [if_pos side1]
          simp only [OpP_some, StV_iff h1, clubV]
          exact ⟨rfl, by simp, by simpa using hK _ (ClubAt.set h1 h2 h3 h4 (by simp [clubV]) rfl rfl) (Keep.one _ _ _)⟩
    · rw [show IntKind.wrap .i64 (1 - 1) = 0 from rfl]
      simp only [clubV, Club.one, Club.set, if_true, Int.sub_zero, Int.sub_self] at *
      simp only [Int.reduceToNat, Nat.zero_mul, Nat.one_mul, Nat.zero_add, List.getElem?_toArray, List.getElem?_cons_zero, List.getElem?_cons_succ, Option.some.injEq, exists_eq_left', OpB_bool, OpI_int, Ret_nil, Nat.reduceAdd, Int.reduceEq, if_false] at *
      refine Cb_of (fun hl => ?_) (fun hl => ?_)
      · simp only [Bool.not_eq_true'] at hl
        rw [if_neg (by simp [hl])] at hK
        exact hK w h (Keep.refl _ _)
      · simp only [Bool.not_eq_false'] at hl
        rw [if_pos hl] at hK
        refine mem_side ?_
        rw [if_pos side0]
        simp only [OpP_some, LdV_iff h1, clubV]
        simp only [Int.reduceToNat, Nat.zero_mul, Nat.one_mul, Nat.zero_add, List.getElem?_toArray, List.getElem?_cons_zero, List.getElem?_cons_succ, Option.some.injEq, exists_eq_left', OpB_bool, OpI_int, Ret_nil, Nat.reduceAdd]
        refine Cb_of (fun hl => ?_) (fun hl => ?_)
        · simp only [Bool.not_eq_true'] at hl
          rw [if_neg (by simp [hl])] at hK
          exact hK w h (Keep.refl _ _)
        · simp only [Bool.not_eq_false'] at hl
          rw [if_pos hl] at hK
          refine mem_side ?_
          rw [if_pos side0]
          simp only [OpP_some, StV_iff h1, clubV]
          exact ⟨rfl, by simp, by simpa using hK _ (ClubAt.set h1 h2 h3 h4 (by simp [clubV]) rfl rfl) (Keep.one _ _ _)⟩
  · rw [if_neg hn]
    simp only [OpP_none, Ret_nil]
    unfold beatS at hK
    rw [if_neg hn] at hK
    exact hK w h (Keep.refl _ _)

theorem run_max (k : IntKind) (a b : Int) (t : TypeId) (ts : Array TypeId) (w : World) : (Builtin.max_ ts t #[.int k a, .int k b]).run Try.prog w = .ok (.int k (max a b)) w := by
  simp only [Builtin.max_, List.foldlM, Builtin.max2, Sem.run_bind, Sem.run_pure, if_true]
  by_cases h : a < b
  · simp [h, Sem.run_pure, Int.max_eq_right (Int.le_of_lt h)]
  · simp [h, Sem.run_pure, Int.max_eq_left (Int.not_lt.1 h)]

theorem mem_key {c q : Nat} {cl : Club} {w : World} {R : Value → World → Prop} (h : ClubAt w c q cl) (hK : ∀ w', Keep (fun _ => False) w w' → R (.int .u32 cl.key) w') :
    CallV Try.prog 49 #[.pointer (some ⟨c, 0, none⟩)] w R := by
  apply C_member_Club_key
  unfold F_member_Club_key
  obtain ⟨cap, cur, h1, h2, h3, h4⟩ := id h
  rw [LdV_iff h1]
  refine ⟨.slice (some ⟨q, 0, none⟩) cl.n cap, rfl, ?_⟩
  simp only [OpS_slice]
  have hmax : cl.n ≤ 9223372036854775807 := by simpa [maxLen] using h3
  refine LoopC_of (σ := Int × Int × Unit) (fun s w' => ∃ j : Nat, s.2.1 = j ∧ j ≤ cl.n ∧ s.1 = keyN cl.d j ∧ Keep (fun _ => False) w w') (fun s _ => (cl.n - s.2.1).toNat) ⟨0, rfl, by omega, rfl, Keep.refl _ _⟩ ?_
  intro _ s w1 hI
  obtain ⟨k, i, u⟩ := s
  obtain ⟨j, hij, hjn, hk, hkp⟩ := hI
  simp only at hij hk ⊢
  subst hij hk
  refine Cb_of (fun hc => ?_) (fun hc => ?_)
  · simp only [decide_eq_true_eq] at hc
    have hj : j < cl.n := by omega
    refine ⟨q, 0, rfl, by omega, hc, ?_⟩
    have hq1 := hkp.has h2 (by simp)
    obtain ⟨g1, g2⟩ := h4 j hj
    refine ⟨#[.bool (cl.d j).1, .int .u32 (cl.d j).2], rfl, ?_, ?_⟩
    · rintro w2 ⟨d, rfl⟩ t ht
      rw [cell_of (hq1.dr d)]
      match t, ht with
      | 0, _ => rw [show 0 + (j : Int).toNat * 2 + 0 = 2 * j by omega, g1]; rfl
      | 1, _ => rw [show 0 + (j : Int).toNat * 2 + 1 = 2 * j + 1 by omega, g2]; rfl
    show Alc _ _ _ _
    rw [Alc_iff]
    refine StA_all (Has.new _ _) rfl (by rw [show zc Try.prog 81 = #[.bool false, .int .u32 0] by kernel_rfl]; rfl) (by intro v hv; simp at hv; rcases hv with rfl | rfl <;> rfl) ?_
    have hb := (Has.new w1 (.cells (zc Try.prog 81) 81)).upd_same (.cells #[.bool (cl.d j).1, .int .u32 (cl.d j).2] 81)
    have hsz := hkp.size
    have hk2 : Keep (fun _ => False) w _ := (hkp.alloc (.cells (zc Try.prog 81) 81)).upd (k := w1.heap.size) (by omega) (.cells #[.bool (cl.d j).1, .int .u32 (cl.d j).2] 81)
    generalize (w1.alloc (.cells (zc Try.prog 81) 81)).upd w1.heap.size (.cells #[.bool (cl.d j).1, .int .u32 (cl.d j).2] 81) = w2 at *
    refine LdV_has (v := .bool (cl.d j).1) hb rfl ?_
    simp only [OpB_bool]
    have ew : IntKind.wrap .i64 ((j : Int) + 1) = ((j + 1 : Nat) : Int) := by rw [wrapI (by omega) (by omega)]; omega
    rw [ew]
    refine Cb_of (fun hl => ?_) (fun hl => ?_)
    · refine LdV_has (v := .int .u32 (cl.d j).2) hb rfl ?_
      simp only [OpI_int]
      refine DoQ_of (fun d => run_max _ _ _ _ _ _) ?_
      simp only [OpI_int]
      exact ⟨_, by omega, ⟨j + 1, rfl, hj, by simp [keyN, hl], hk2⟩, rfl⟩
    · exact ⟨_, by omega, ⟨j + 1, rfl, hj, by simp [keyN, hl], hk2⟩, rfl⟩
  · simp only [decide_eq_false_iff_not] at hc
    simp only [Ret_nil]
    have : j = cl.n := by omega
    subst this
    exact hK w1 hkp

def readyS (cl : Club) (n : Int) : Bool := decide (sideOk n) && (cl.one n).lives && decide (cl.key ≤ (cl.one n).epoch)
theorem mem_Ready {c q : Nat} {n : Int} {cl : Club} {w : World} {R : Value → World → Prop} (h : ClubAt w c q cl) (hK : ∀ w', Keep (fun _ => False) w w' → R (.bool (readyS cl n)) w') :
    CallV Try.prog 20 #[.pointer (some ⟨c, 0, none⟩), .int .i64 n] w R := by
  apply C_member_Club_Ready
  unfold F_member_Club_Ready
  refine mem_side ?_
  by_cases hn : sideOk n
  · rw [if_pos hn]
    simp only [OpP_some]
    intro d
    have hd := h.keep (Keep.drew (fun _ => False) w d) (by simp) (by simp)
    refine ⟨fun w' => ClubAt w' c q cl ∧ Keep (fun _ => False) w w', ⟨hd, Keep.drew _ _ _⟩, ?_⟩
    have ld : ∀ (o : Nat) (v : Value) (K : Value → Prop), (∀ cap, (clubV cl q cap)[o]? = some v) → K v → LdV c o (fun w' => ClubAt w' c q cl ∧ Keep (fun _ => False) w w') K :=
      fun o v K hv hK => LdV_of (fun w' ⟨⟨cap, cur, h1, _⟩, _⟩ => ⟨_, _, _, h1, hv cap⟩) hK
    rcases hn with rfl | rfl
    · refine ld _ (.bool cl.a.lives) _ (fun _ => rfl) ?_
      simp only [OpB_bool]
      refine Cb_of (fun hl => ?_) (fun hl => ?_)
      · refine ld _ (.int .u32 cl.a.epoch) _ (fun _ => rfl) ?_
        simp only [OpI_int]
        refine mem_key hd fun w2 k2 => ?_
        simp only [OpI_int, Ret_nil]
        refine ⟨⟨hd.keep k2 (by simp) (by simp), (Keep.drew _ _ _).trans k2⟩, ?_⟩
        have e : readyS cl 0 = decide (cl.key ≤ cl.a.epoch) := by simp [readyS, side0, Club.one, hl]
        rw [e] at hK
        exact hK _ ((Keep.drew _ _ _).trans k2)
      · simp only [Ret_nil]
        refine ⟨⟨hd, Keep.drew _ _ _⟩, ?_⟩
        have e : readyS cl 0 = false := by simp [readyS, Club.one, hl]
        rw [e] at hK
        exact hK _ (Keep.drew _ _ _)
    · refine ld _ (.bool cl.b.lives) _ (fun _ => rfl) ?_
      simp only [OpB_bool]
      refine Cb_of (fun hl => ?_) (fun hl => ?_)
      · refine ld _ (.int .u32 cl.b.epoch) _ (fun _ => rfl) ?_
        simp only [OpI_int]
        refine mem_key hd fun w2 k2 => ?_
        simp only [OpI_int, Ret_nil]
        refine ⟨⟨hd.keep k2 (by simp) (by simp), (Keep.drew _ _ _).trans k2⟩, ?_⟩
        have e : readyS cl 1 = decide (cl.key ≤ cl.b.epoch) := by simp [readyS, side1, Club.one, hl]
        rw [e] at hK
        exact hK _ ((Keep.drew _ _ _).trans k2)
      · simp only [Ret_nil]
        refine ⟨⟨hd, Keep.drew _ _ _⟩, ?_⟩
        have e : readyS cl 1 = false := by simp [readyS, Club.one, hl]
        rw [e] at hK
        exact hK _ (Keep.drew _ _ _)
  · rw [if_neg hn]
    simp only [OpP_none, Ret_nil]
    intro d
    refine ⟨fun _ => True, trivial, trivial, ?_⟩
    have e : readyS cl n = false := by simp [readyS, hn]
    rw [e] at hK
    exact hK _ (Keep.drew _ _ _)

def afterS (e side : Int) : Int × Int :=
  if ¬ sideOk side then (0, 2) else
    let x := if (e + 1) % 2 = side then e + 1 else e + 2
    if 4294967295 < x then (0, 14) else (x, 0)
theorem merge_After {e side : Int} {w : World} {R : Value → World → Prop} (h0 : 0 ≤ e) (h1 : e ≤ 4294967295) (hs : -9223372036854775808 ≤ side ∧ side ≤ 9223372036854775807) (hK : R (.tuple #[.int .u32 (afterS e side).1, .int .i64 (afterS e side).2]) w) :
    CallV Try.prog 50 #[.int .u32 e, .int .i64 side] w R := by
  apply C_merge_After
  unfold F_merge_After
  simp only [Req_true, Req_rfl]
  unfold afterS at hK
  by_cases hn : sideOk side
  · rw [if_neg (by simpa using hn)] at hK
    have e0 : (cond (side != 0) (side != 1) false) = false := by rcases hn with rfl | rfl <;> rfl
    have w1 : IntKind.wrap .u64 e = e := wrapU64 (by omega) (by omega)
    have w2 : IntKind.wrap .u64 (e + 1) = e + 1 := wrapU64 (by omega) (by omega)
    have w3 : IntKind.wrap .u64 side = side := wrapU64 (by rcases hn with rfl | rfl <;> omega) (by rcases hn with rfl | rfl <;> omega)
    have w4 : IntKind.wrap .u64 (e + 1 + 1) = e + 2 := by rw [wrapU64 (by omega) (by omega)]; omega
    rw [e0, Cb_false]
    refine ⟨by decide, ?_⟩
    simp only [w1, w2, w3, w4, Int.tmod_eq_emod_of_nonneg (show 0 ≤ e + 1 by omega)]
    refine Cb_of (fun hc => ?_) (fun hc => ?_)
    · have hx : (if (e + 1) % 2 = side then e + 1 else e + 2) = e + 2 := if_neg (by simpa using hc)
      simp only [hx] at hK
      refine Cb_of (fun hg => ?_) (fun hg => ?_)
      · have hg' : 4294967295 < e + 2 := by simpa using hg
        rw [if_pos hg'] at hK; simpa using hK
      · have hg' : ¬ 4294967295 < e + 2 := by simpa using hg
        rw [if_neg hg'] at hK
        rw [wrapU32 (by omega) (by omega)]; simpa using hK
    · have hx : (if (e + 1) % 2 = side then e + 1 else e + 2) = e + 1 := if_pos (by simpa using hc)
      simp only [hx] at hK
      refine Cb_of (fun hg => ?_) (fun hg => ?_)
      · have hg' : 4294967295 < e + 1 := by simpa using hg
        rw [if_pos hg'] at hK; simpa using hK
      · have hg' : ¬ 4294967295 < e + 1 := by simpa using hg
        rw [if_neg hg'] at hK
        rw [wrapU32 (by omega) (by omega)]; simpa using hK
  · rw [if_pos hn] at hK
    have e0 : (cond (side != 0) (side != 1) false) = true := by
      unfold sideOk at hn
      have h1 : (side != 0) = true := by simp; omega
      have h2 : (side != 1) = true := by simp; omega
      rw [h1, h2]; rfl
    rw [e0, Cb_true]
    simpa using hK
end Go.Proofs
