import Derived.Test.YthhimblbnnafkaaGreatLib
import Derived.Test.YthhimblbnnafkaaGreatFStrp

/-
  THE FIELD: Mul, power, Exp, Inv, Solve.
-/
namespace Go.Proofs
open Go Go.Ev
set_option linter.unusedSimpArgs false
set_option linter.unusedVariables false
set_option maxRecDepth 100000

def xt (x : Nat) : Nat := if 255 < 2 * x then (2 * x) ^^^ 285 else 2 * x
def gmL : Nat → Nat → Nat → Nat → Nat
  | 0, _, p, _ => p
  | k + 1, b, p, x => if b = 0 then p else gmL k (b / 2) (if b % 2 = 1 then p ^^^ x else p) (xt x)
def gmN (a b : Nat) : Nat := gmL 8 b 0 a
def powL : Nat → Nat → Nat → Nat → Nat
  | 0, _, _, p => p
  | k + 1, n, a, p => if n = 0 then p else powL k (n / 2) (gmN a a) (if n % 2 = 1 then gmN p a else p)
def powN (a n : Nat) : Nat := powL 8 n a 1
def expN (i : Nat) : Nat := powN 2 i
theorem xt_lt {x : Nat} (h : x < 256) : xt x < 256 := by
  have : ∀ x : Fin 256, xt x.val < 256 := by decide +kernel
  exact this ⟨x, h⟩
theorem xor_lt8 {a b : Nat} (ha : a < 256) (hb : b < 256) : a ^^^ b < 256 := Nat.xor_lt_two_pow (n := 8) ha hb
theorem gmL_lt : ∀ (k b p x : Nat), p < 256 → x < 256 → gmL k b p x < 256
  | 0, _, _, _, hp, _ => hp
  | k + 1, b, p, x, hp, hx => by
    unfold gmL
    split
    · exact hp
    · refine gmL_lt k _ _ _ ?_ (xt_lt hx)
      split
      · exact xor_lt8 hp hx
      · exact hp
theorem gmN_lt {a b : Nat} (ha : a < 256) : gmN a b < 256 := gmL_lt 8 b 0 a (by omega) ha
theorem powL_lt : ∀ (k n a p : Nat), a < 256 → p < 256 → powL k n a p < 256
  | 0, _, _, _, _, hp => hp
  | k + 1, n, a, p, ha, hp => by
    unfold powL
    split
    · exact hp
    · refine powL_lt k _ _ _ (gmN_lt ha) ?_
      split
      · exact gmN_lt hp
      · exact hp
theorem powN_lt {a n : Nat} (ha : a < 256) : powN a n < 256 := powL_lt 8 n a 1 ha (by omega)

/-! ### numbers of Go as numbers -/
theorem ofInt64 (n : Nat) : BitVec.ofInt 64 (n : Int) = BitVec.ofNat 64 n := by simp
theorem ofInt8 (n : Nat) : BitVec.ofInt 8 (n : Int) = BitVec.ofNat 8 n := by simp
theorem xor_i64 {a b : Nat} (ha : a < 2 ^ 62) (hb : b < 2 ^ 62) : ibits .xor .i64 (a : Int) (b : Int) = ((a ^^^ b : Nat) : Int) := by
  show IntKind.wrap .i64 ((BitVec.ofInt 64 _ ^^^ BitVec.ofInt 64 _).toNat : Int) = _
  rw [ofInt64, ofInt64, BitVec.toNat_xor, BitVec.toNat_ofNat, BitVec.toNat_ofNat, Nat.mod_eq_of_lt (by omega), Nat.mod_eq_of_lt (by omega)]
  have : a ^^^ b < 2 ^ 62 := Nat.xor_lt_two_pow ha hb
  exact wrapI (by omega) (by omega)
theorem xor_u8 {a b : Nat} (ha : a < 256) (hb : b < 256) : ibits .xor .u8 (a : Int) (b : Int) = ((a ^^^ b : Nat) : Int) := by
  show IntKind.wrap .u8 ((BitVec.ofInt 8 _ ^^^ BitVec.ofInt 8 _).toNat : Int) = _
  rw [ofInt8, ofInt8, BitVec.toNat_xor, BitVec.toNat_ofNat, BitVec.toNat_ofNat, Nat.mod_eq_of_lt (by omega), Nat.mod_eq_of_lt (by omega)]
  have : a ^^^ b < 256 := xor_lt8 ha hb
  exact wrapU8 (by omega) (by omega)
theorem and1_u8 {b : Nat} (hb : b < 256) : ibits .and .u8 (b : Int) 1 = ((b % 2 : Nat) : Int) := by
  have e : ((1 : Int)) = ((1 : Nat) : Int) := rfl
  rw [e]
  show IntKind.wrap .u8 ((BitVec.ofInt 8 _ &&& BitVec.ofInt 8 _).toNat : Int) = _
  rw [ofInt8, ofInt8, BitVec.toNat_and, BitVec.toNat_ofNat, BitVec.toNat_ofNat, Nat.mod_eq_of_lt (by omega), Nat.mod_eq_of_lt (by omega), Nat.and_one_is_mod]
  exact wrapU8 (by omega) (by omega)
theorem and1_i64 {b : Nat} (hb : b < 2 ^ 62) : ibits .and .i64 (b : Int) 1 = ((b % 2 : Nat) : Int) := by
  have e : ((1 : Int)) = ((1 : Nat) : Int) := rfl
  rw [e]
  show IntKind.wrap .i64 ((BitVec.ofInt 64 _ &&& BitVec.ofInt 64 _).toNat : Int) = _
  rw [ofInt64, ofInt64, BitVec.toNat_and, BitVec.toNat_ofNat, BitVec.toNat_ofNat, Nat.mod_eq_of_lt (by omega), Nat.mod_eq_of_lt (by omega), Nat.and_one_is_mod]
  exact wrapI (by omega) (by omega)
theorem shl1_i64 {x : Nat} (hx : x < 2 ^ 61) : ishl .i64 (x : Int) 1 = ((2 * x : Nat) : Int) := by
  unfold ishl
  show IntKind.wrap .i64 ((x : Int) * 2 ^ (min 1 64)) = _
  have : ((x : Int) * 2 ^ (min 1 64)) = ((2 * x : Nat) : Int) := by simp; omega
  rw [this]
  exact wrapI (by omega) (by omega)
theorem shr1 {k : IntKind} {x : Nat} : ishr k (x : Int) 1 = ((x / 2 : Nat) : Int) := by
  unfold ishr
  have : ∀ b : Nat, 1 ≤ b → Int.fdiv (x : Int) (2 ^ (min (1 : Int).toNat b)) = ((x / 2 : Nat) : Int) := by
    intro b hb
    rw [show (1 : Int).toNat = 1 from rfl, Nat.min_eq_left hb]
    simp only [Int.pow_one]
    rw [Int.fdiv_eq_ediv_of_nonneg _ (by omega)]
    rfl
  cases k <;> exact this _ (by decide)
section calls
variable {w : World} {R : Value → World → Prop}
theorem g_Mul {a b : Nat} (ha : a < 256) (hb : b < 256) (hK : R (.int .u8 ((gmN a b : Nat) : Int)) w) : CallV Tryz.prog 238 #[.int .u8 (a : Int), .int .u8 (b : Int)] w R := by
  apply C_gf_Mul
  unfold F_gf_Mul
  have e0 : IntKind.wrap .i64 (a : Int) = (a : Int) := wrapI (by omega) (by omega)
  rw [e0]
  refine LoopC_of (σ := Int × Int × Int × Unit) (fun st w' => w' = w ∧ ∃ k bn pn xn : Nat, st.1 = (bn : Int) ∧ st.2.1 = (pn : Int) ∧ st.2.2.1 = (xn : Int) ∧ bn < 2 ^ k ∧ k ≤ 8 ∧ pn < 256 ∧ xn < 256 ∧ gmL k bn pn xn = gmN a b) (fun st _ => st.1.toNat)
    ⟨rfl, 8, b, 0, a, rfl, rfl, rfl, hb, Nat.le_refl _, by omega, ha, rfl⟩ ?_
  rintro _ ⟨b1, p1, x1, u⟩ w1 ⟨hw, k, bn, pn, xn, h1, h2, h3, hk, hk8, hp, hx, hg⟩
  simp only at h1 h2 h3 ⊢
  subst h1 h2 h3
  rw [hw]
  clear hw
  have hbn : bn < 256 := Nat.lt_of_lt_of_le hk (by have := Nat.pow_le_pow_right (n := 2) (by omega) hk8; simpa using this)
  refine Cb_of (fun hc => ?_) (fun hc => ?_)
  · have hc : 0 < bn := by
      have : (bn : Int) > 0 := by simpa using hc
      omega
    obtain ⟨k', rfl⟩ : ∃ k', k = k' + 1 := by
      cases k with
      | zero => simp at hk; omega
      | succ k => exact ⟨k, rfl⟩
    have hst : gmL (k' + 1) bn pn xn = gmL k' (bn / 2) (if bn % 2 = 1 then pn ^^^ xn else pn) (xt xn) := by
      show (if bn = 0 then pn else _) = _
      rw [if_neg (by omega)]
    rw [hst] at hg
    rw [and1_u8 hbn, shl1_i64 (by omega), shr1]
    have hlt : bn / 2 < 2 ^ k' := by rw [Nat.pow_succ] at hk; omega
    have hm : (((bn / 2 : Nat) : Int)).toNat < ((bn : Int)).toNat := by omega
    have hx285 : 255 < 2 * xn → ibits .xor .i64 (((2 * xn : Nat) : Int)) 285 = ((xt xn : Nat) : Int) := by
      intro h
      have := xor_i64 (a := 2 * xn) (b := 285) (by omega) (by omega)
      unfold xt
      rw [if_pos h]
      exact this
    have hx0 : ¬ 255 < 2 * xn → ((2 * xn : Nat) : Int) = ((xt xn : Nat) : Int) := by
      intro h
      unfold xt
      rw [if_neg h]
    have fin : ∀ P1 : Nat, P1 = (if bn % 2 = 1 then pn ^^^ xn else pn) → ∃ m', m' < ((bn : Int)).toNat ∧ ((w = w) ∧ ∃ k bn' pn' xn' : Nat, ((bn / 2 : Nat) : Int) = (bn' : Int) ∧ (P1 : Int) = (pn' : Int) ∧ ((xt xn : Nat) : Int) = (xn' : Int) ∧ bn' < 2 ^ k ∧ k ≤ 8 ∧ pn' < 256 ∧ xn' < 256 ∧ gmL k bn' pn' xn' = gmN a b) ∧ (((bn / 2 : Nat) : Int)).toNat = m' := by
      intro P1 hP
      refine ⟨_, hm, ⟨rfl, k', bn / 2, P1, xt xn, rfl, rfl, rfl, hlt, by omega, ?_, xt_lt hx, by rw [hP]; exact hg⟩, rfl⟩
      rw [hP]
      split
      · exact xor_lt8 hp hx
      · exact hp
    refine Cb_of (fun hb1 => ?_) (fun hb1 => ?_)
    · have hb1 : bn % 2 = 1 := by
        have : ((bn % 2 : Nat) : Int) = 1 := by simpa using hb1
        omega
      rw [xor_i64 (by omega) (by omega)]
      refine ⟨by decide, ?_⟩
      refine Cb_of (fun h => ?_) (fun h => ?_)
      · have h : 255 < 2 * xn := by simp only [decide_eq_true_eq] at h; omega
        rw [hx285 h]
        have := fin (pn ^^^ xn) (by rw [if_pos hb1])
        simp only [true_and] at this ⊢
        exact ⟨by decide, this⟩
      · have h : ¬ 255 < 2 * xn := by simp only [decide_eq_false_iff_not] at h; omega
        rw [hx0 h]
        have := fin (pn ^^^ xn) (by rw [if_pos hb1])
        simp only [true_and] at this ⊢
        exact ⟨by decide, this⟩
    · have hb1 : ¬ bn % 2 = 1 := by
        have : ¬ ((bn % 2 : Nat) : Int) = 1 := by simpa using hb1
        omega
      refine ⟨by decide, ?_⟩
      refine Cb_of (fun h => ?_) (fun h => ?_)
      · have h : 255 < 2 * xn := by simp only [decide_eq_true_eq] at h; omega
        rw [hx285 h]
        have := fin pn (by rw [if_neg hb1])
        simp only [true_and] at this ⊢
        exact ⟨by decide, this⟩
      · have h : ¬ 255 < 2 * xn := by simp only [decide_eq_false_iff_not] at h; omega
        rw [hx0 h]
        have := fin pn (by rw [if_neg hb1])
        simp only [true_and] at this ⊢
        exact ⟨by decide, this⟩
  · have hc : bn = 0 := by
      have : ¬ (bn : Int) > 0 := by simpa using hc
      omega
    subst hc
    have : gmL k 0 pn xn = pn := by
      cases k with
      | zero => rfl
      | succ k => show (if (0 : Nat) = 0 then pn else _) = pn; rw [if_pos rfl]
    rw [this] at hg
    subst hg
    rw [wrapU8 (by omega) (by omega)]
    exact Ret_nil.2 hK
theorem g_power {a n : Nat} (ha : a < 256) (hn : n < 256) (hK : R (.int .u8 ((powN a n : Nat) : Int)) w) : CallV Tryz.prog 239 #[.int .u8 (a : Int), .int .i64 (n : Int)] w R := by
  apply C_gf_power
  unfold F_gf_power
  refine LoopC_of (σ := Int × Int × Int × Unit) (fun st w' => w' = w ∧ ∃ k an nn pn : Nat, st.1 = (an : Int) ∧ st.2.1 = (nn : Int) ∧ st.2.2.1 = (pn : Int) ∧ nn < 2 ^ k ∧ k ≤ 8 ∧ an < 256 ∧ pn < 256 ∧ powL k nn an pn = powN a n) (fun st _ => st.2.1.toNat)
    ⟨rfl, 8, a, n, 1, rfl, rfl, rfl, hn, Nat.le_refl _, ha, by omega, rfl⟩ ?_
  rintro _ ⟨a1, n1, p1, u⟩ w1 ⟨hw, k, an, nn, pn, h1, h2, h3, hk, hk8, ha2, hp, hg⟩
  simp only at h1 h2 h3 ⊢
  subst h1 h2 h3
  rw [hw]
  clear hw
  have hnn : nn < 256 := Nat.lt_of_lt_of_le hk (by have := Nat.pow_le_pow_right (n := 2) (by omega) hk8; simpa using this)
  refine Cb_of (fun hc => ?_) (fun hc => ?_)
  · have hc : 0 < nn := by
      have : (nn : Int) > 0 := by simpa using hc
      omega
    obtain ⟨k', rfl⟩ : ∃ k', k = k' + 1 := by
      cases k with
      | zero => simp at hk; omega
      | succ k => exact ⟨k, rfl⟩
    have hst : powL (k' + 1) nn an pn = powL k' (nn / 2) (gmN an an) (if nn % 2 = 1 then gmN pn an else pn) := by
      show (if nn = 0 then pn else _) = _
      rw [if_neg (by omega)]
    rw [hst] at hg
    have hlt : nn / 2 < 2 ^ k' := by rw [Nat.pow_succ] at hk; omega
    rw [and1_i64 (by omega), shr1]
    refine Cb_of (fun hb1 => ?_) (fun hb1 => ?_)
    · have hb1 : nn % 2 = 1 := by
        have : ((nn % 2 : Nat) : Int) = 1 := by simpa using hb1
        omega
      rw [if_pos hb1] at hg
      refine g_Mul hp ha2 (OpI_int.2 ?_)
      refine g_Mul ha2 ha2 (OpI_int.2 ⟨by decide, ?_⟩)
      exact ⟨_, by show (((nn / 2 : Nat) : Int)).toNat < ((nn : Int)).toNat; omega, ⟨by trivial, k', gmN an an, nn / 2, gmN pn an, rfl, rfl, rfl, hlt, by omega, gmN_lt ha2, gmN_lt hp, hg⟩, rfl⟩
    · have hb1 : ¬ nn % 2 = 1 := by
        have : ¬ ((nn % 2 : Nat) : Int) = 1 := by simpa using hb1
        omega
      rw [if_neg hb1] at hg
      refine g_Mul ha2 ha2 (OpI_int.2 ⟨by decide, ?_⟩)
      exact ⟨_, by show (((nn / 2 : Nat) : Int)).toNat < ((nn : Int)).toNat; omega, ⟨by trivial, k', gmN an an, nn / 2, pn, rfl, rfl, rfl, hlt, by omega, gmN_lt ha2, hp, hg⟩, rfl⟩
  · have hc : nn = 0 := by
      have : ¬ (nn : Int) > 0 := by simpa using hc
      omega
    subst hc
    have : powL k 0 an pn = pn := by
      cases k with
      | zero => rfl
      | succ k => show (if (0 : Nat) = 0 then pn else _) = pn; rw [if_pos rfl]
    rw [this] at hg
    subst hg
    exact Ret_nil.2 hK
theorem g_Exp {i : Nat} (hi : i < 255) (hK : R (.int .u8 ((expN i : Nat) : Int)) w) : CallV Tryz.prog 185 #[.int .i64 (i : Int)] w R := by
  apply C_gf_Exp
  unfold F_gf_Exp
  apply C_gf_around
  unfold F_gf_around
  refine ⟨by decide, by decide, Ret_nil.2 (OpI_int.2 ?_)⟩
  have e : Int.tmod (IntKind.wrap .i64 (Int.tmod (i : Int) 255 + 255)) 255 = (i : Int) := by
    have h1 : Int.tmod (i : Int) 255 = (i : Int) := by rw [Int.tmod_eq_emod_of_nonneg (by omega)]; omega
    rw [h1, wrapI (by omega) (by omega), Int.tmod_eq_emod_of_nonneg (by omega)]
    omega
  rw [e]
  exact g_power (a := 2) (by omega) (by omega) (OpI_int.2 (Ret_nil.2 hK))
theorem g_Inv {a : Nat} (h0 : a ≠ 0) (ha : a < 256) (hK : R (.tuple #[.int .u8 ((powN a 254 : Nat) : Int), .int .i64 0]) w) : CallV Tryz.prog 184 #[.int .u8 (a : Int)] w R := by
  apply C_gf_Inv
  unfold F_gf_Inv
  have e : ((a : Int) == 0) = false := by simp; omega
  rw [e]
  refine (Cb_false (p := _)).2 ?_
  exact g_power (n := 254) ha (by omega) (OpI_int.2 (Ret_nil.2 hK))
/-- x and y with x + y = e and c x + d y = f -/
theorem g_Solve {c d e f : Nat} (hc : c < 256) (hd : d < 256) (he : e < 256) (hf : f < 256) (hne : gmN 1 d ^^^ gmN 1 c ≠ 0)
    (hK : R (.tuple #[.int .u8 ((gmN (powN (gmN 1 d ^^^ gmN 1 c) 254) (gmN d e ^^^ gmN 1 f) : Nat) : Int), .int .u8 ((gmN (powN (gmN 1 d ^^^ gmN 1 c) 254) (gmN 1 f ^^^ gmN c e) : Nat) : Int), .int .i64 0]) w) :
    CallV Tryz.prog 186 #[.int .u8 1, .int .u8 1, .int .u8 (c : Int), .int .u8 (d : Int), .int .u8 (e : Int), .int .u8 (f : Int)] w R := by
  apply C_gf_Solve
  unfold F_gf_Solve
  have l1 : gmN 1 d < 256 := gmN_lt (by omega)
  have l2 : gmN 1 c < 256 := gmN_lt (by omega)
  have ldet : powN (gmN 1 d ^^^ gmN 1 c) 254 < 256 := powN_lt (xor_lt8 l1 l2)
  refine g_Mul (a := 1) (by omega) hd (OpI_int.2 ?_)
  refine g_Mul (a := 1) (by omega) hc (OpI_int.2 ?_)
  rw [xor_u8 l1 l2]
  refine g_Inv hne (xor_lt8 l1 l2) ?_
  refine T2_mk.2 (OpI_int.2 (OpI_int.2 ((Cb_false (p := _)).2 ?_)))
  refine g_Mul hd he (OpI_int.2 ?_)
  refine g_Mul (a := 1) (by omega) hf (OpI_int.2 ?_)
  rw [xor_u8 (gmN_lt hd) (gmN_lt (by omega))]
  refine g_Mul ldet (xor_lt8 (gmN_lt hd) (gmN_lt (by omega))) (OpI_int.2 ?_)
  refine g_Mul (a := 1) (by omega) hf (OpI_int.2 ?_)
  refine g_Mul hc he (OpI_int.2 ?_)
  rw [xor_u8 (gmN_lt (by omega)) (gmN_lt hc)]
  refine g_Mul ldet (xor_lt8 (gmN_lt (by omega)) (gmN_lt hc)) (OpI_int.2 (Ret_nil.2 hK))
end calls
end Go.Proofs

/-
  THE FIELD, in plain: what is linear, and what has an inverse.
-/
namespace Go.Proofs
set_option linter.unusedSimpArgs false
set_option linter.unusedVariables false
set_option maxRecDepth 100000

def gmF : Nat → Nat → Nat → Nat
  | 0, _, _ => 0
  | k + 1, b, x => (if b % 2 = 1 then x else 0) ^^^ gmF k (b / 2) (xt x)
theorem gmF_zero : ∀ k x, gmF k 0 x = 0
  | 0, _ => rfl
  | k + 1, x => by
    show (if 0 % 2 = 1 then x else 0) ^^^ gmF k (0 / 2) (xt x) = 0
    rw [if_neg (by omega), Nat.zero_div, gmF_zero k]; rfl
theorem gmL_F : ∀ k b p x, gmL k b p x = p ^^^ gmF k b x
  | 0, _, p, _ => by show p = p ^^^ 0; rw [Nat.xor_zero]
  | k + 1, b, p, x => by
    unfold gmL
    by_cases hb : b = 0
    · rw [if_pos hb, hb, gmF_zero, Nat.xor_zero]
    · rw [if_neg hb, gmL_F k]
      show _ = p ^^^ ((if b % 2 = 1 then x else 0) ^^^ gmF k (b / 2) (xt x))
      split
      · rw [Nat.xor_assoc]
      · rw [Nat.zero_xor]
theorem gmN_F (a b : Nat) : gmN a b = gmF 8 b a := by unfold gmN; rw [gmL_F, Nat.zero_xor]
theorem xor_swap (a b c d : Nat) : (a ^^^ b) ^^^ (c ^^^ d) = (a ^^^ c) ^^^ (b ^^^ d) := by
  rw [Nat.xor_assoc, Nat.xor_assoc, ← Nat.xor_assoc b, ← Nat.xor_assoc c, Nat.xor_comm b c]
theorem xor_mod2 (b c : Nat) : (b ^^^ c) % 2 = 1 ↔ (b % 2 = 1 ∧ ¬ c % 2 = 1) ∨ (¬ b % 2 = 1 ∧ c % 2 = 1) := by
  have h := Nat.testBit_xor b c 0
  simp only [Nat.testBit_zero] at h
  by_cases h1 : b % 2 = 1 <;> by_cases h2 : c % 2 = 1 <;> by_cases h3 : (b ^^^ c) % 2 = 1 <;> simp_all
theorem xor_div2 (b c : Nat) : (b ^^^ c) / 2 = (b / 2) ^^^ (c / 2) := by
  apply Nat.eq_of_testBit_eq
  intro i
  rw [Nat.testBit_xor, Nat.testBit_div_two, Nat.testBit_div_two, Nat.testBit_div_two, Nat.testBit_xor]
theorem gmF_add : ∀ k b c x, gmF k (b ^^^ c) x = gmF k b x ^^^ gmF k c x
  | 0, _, _, _ => by show 0 = 0 ^^^ 0; rfl
  | k + 1, b, c, x => by
    show (if (b ^^^ c) % 2 = 1 then x else 0) ^^^ gmF k ((b ^^^ c) / 2) (xt x) = ((if b % 2 = 1 then x else 0) ^^^ gmF k (b / 2) (xt x)) ^^^ ((if c % 2 = 1 then x else 0) ^^^ gmF k (c / 2) (xt x))
    rw [xor_div2, gmF_add k, xor_swap]
    congr 1
    by_cases h1 : b % 2 = 1
    · by_cases h2 : c % 2 = 1
      · rw [if_pos h1, if_pos h2, if_neg (by rw [xor_mod2]; simp [h1, h2]), Nat.xor_self]
      · rw [if_pos h1, if_neg h2, if_pos (by rw [xor_mod2]; simp [h1, h2]), Nat.xor_zero]
    · by_cases h2 : c % 2 = 1
      · rw [if_neg h1, if_pos h2, if_pos (by rw [xor_mod2]; simp [h1, h2]), Nat.zero_xor]
      · rw [if_neg h1, if_neg h2, if_neg (by rw [xor_mod2]; simp [h1, h2]), Nat.xor_self]
/-- linear in what is multiplied -/
theorem gm_add (a b c : Nat) : gmN a (b ^^^ c) = gmN a b ^^^ gmN a c := by rw [gmN_F, gmN_F, gmN_F, gmF_add]
theorem gm_zero (a : Nat) : gmN a 0 = 0 := rfl
theorem top_bit {x : Nat} (h : x < 256) : (255 < 2 * x) ↔ x.testBit 7 = true := by
  have : ∀ x : Fin 256, decide (255 < 2 * x.val) = x.val.testBit 7 := by decide +kernel
  rw [← this ⟨x, h⟩]; simp
theorem two_xor (x y : Nat) : 2 * (x ^^^ y) = 2 * x ^^^ 2 * y := by
  have e : ∀ z : Nat, 2 * z = z <<< 1 := fun z => by rw [Nat.shiftLeft_eq]; omega
  rw [e, e, e, Nat.shiftLeft_xor_distrib]
theorem xt_bit {x : Nat} (h : x < 256) : xt x = 2 * x ^^^ (if x.testBit 7 = true then 285 else 0) := by
  unfold xt
  by_cases h1 : 255 < 2 * x
  · rw [if_pos h1, if_pos ((top_bit h).1 h1)]
  · rw [if_neg h1, if_neg (fun h2 => h1 ((top_bit h).2 h2)), Nat.xor_zero]
theorem xt_add {x y : Nat} (hx : x < 256) (hy : y < 256) : xt (x ^^^ y) = xt x ^^^ xt y := by
  rw [xt_bit (xor_lt8 hx hy), xt_bit hx, xt_bit hy, two_xor, xor_swap, Nat.testBit_xor]
  congr 1
  cases x.testBit 7 <;> cases y.testBit 7 <;> simp
theorem gmF_addx : ∀ k b x y, x < 256 → y < 256 → gmF k b (x ^^^ y) = gmF k b x ^^^ gmF k b y
  | 0, _, _, _, _, _ => by show 0 = 0 ^^^ 0; rfl
  | k + 1, b, x, y, hx, hy => by
    show (if b % 2 = 1 then x ^^^ y else 0) ^^^ gmF k (b / 2) (xt (x ^^^ y)) = ((if b % 2 = 1 then x else 0) ^^^ gmF k (b / 2) (xt x)) ^^^ ((if b % 2 = 1 then y else 0) ^^^ gmF k (b / 2) (xt y))
    rw [xt_add hx hy, gmF_addx k _ _ _ (xt_lt hx) (xt_lt hy), xor_swap]
    congr 1
    split <;> simp
/-- linear in the factor -/
theorem gm_addl {a b c : Nat} (ha : a < 256) (hb : b < 256) : gmN (a ^^^ b) c = gmN a c ^^^ gmN b c := by rw [gmN_F, gmN_F, gmN_F, gmF_addx _ _ _ _ ha hb]
theorem gm_one {x : Nat} (h : x < 256) : gmN 1 x = x := by
  have : ∀ x : Fin 256, gmN 1 x.val = x.val := by decide +kernel
  exact this ⟨x, h⟩
def bitN (x i : Nat) : Nat := if x.testBit i = true then 2 ^ i else 0
theorem bits_of {x : Nat} (h : x < 256) : x = bitN x 0 ^^^ (bitN x 1 ^^^ (bitN x 2 ^^^ (bitN x 3 ^^^ (bitN x 4 ^^^ (bitN x 5 ^^^ (bitN x 6 ^^^ bitN x 7)))))) := by
  have : ∀ x : Fin 256, x.val = bitN x.val 0 ^^^ (bitN x.val 1 ^^^ (bitN x.val 2 ^^^ (bitN x.val 3 ^^^ (bitN x.val 4 ^^^ (bitN x.val 5 ^^^ (bitN x.val 6 ^^^ bitN x.val 7)))))) := by decide +kernel
  exact this ⟨x, h⟩
/-- what is linear and leaves the bits alone leaves all alone -/
theorem lin_id {f : Nat → Nat} (h0 : f 0 = 0) (ha : ∀ x y, f (x ^^^ y) = f x ^^^ f y) (hb : ∀ i, i < 8 → f (2 ^ i) = 2 ^ i) {x : Nat} (h : x < 256) : f x = x := by
  have e : ∀ i, i < 8 → f (bitN x i) = bitN x i := by
    intro i hi
    unfold bitN
    split
    · exact hb i hi
    · exact h0
  have hx := bits_of h
  have h1 : f (bitN x 0 ^^^ (bitN x 1 ^^^ (bitN x 2 ^^^ (bitN x 3 ^^^ (bitN x 4 ^^^ (bitN x 5 ^^^ (bitN x 6 ^^^ bitN x 7))))))) = bitN x 0 ^^^ (bitN x 1 ^^^ (bitN x 2 ^^^ (bitN x 3 ^^^ (bitN x 4 ^^^ (bitN x 5 ^^^ (bitN x 6 ^^^ bitN x 7)))))) := by
    rw [ha, ha, ha, ha, ha, ha, ha, e 0 (by omega), e 1 (by omega), e 2 (by omega), e 3 (by omega), e 4 (by omega), e 5 (by omega), e 6 (by omega), e 7 (by omega)]
  rw [← hx] at h1
  exact h1
/-- one over a -/
theorem gm_inv {a x : Nat} (h0 : a ≠ 0) (ha : a < 256) (hx : x < 256) : gmN (powN a 254) (gmN a x) = x := by
  have key : ∀ a : Fin 256, a.val ≠ 0 → ∀ i : Fin 8, gmN (powN a.val 254) (gmN a.val (2 ^ i.val)) = 2 ^ i.val := by decide +kernel
  refine lin_id (f := fun x => gmN (powN a 254) (gmN a x)) rfl (fun x y => ?_) (fun i hi => key ⟨a, ha⟩ h0 ⟨i, hi⟩) hx
  show gmN _ (gmN a (x ^^^ y)) = _
  rw [gm_add, gm_add]
theorem exp_lt {i : Nat} : expN i < 256 := powN_lt (by omega)
theorem exp_ne0 {i : Nat} (h : i < 30) : expN i ≠ 0 := by
  have : ∀ i : Fin 30, expN i.val ≠ 0 := by decide +kernel
  exact this ⟨i, h⟩
theorem exp_ne {i j : Nat} (hi : i < 30) (hj : j < 30) (h : i ≠ j) : expN j ^^^ expN i ≠ 0 := by
  have : ∀ i j : Fin 30, i.val ≠ j.val → expN j.val ^^^ expN i.val ≠ 0 := by decide +kernel
  exact this ⟨i, hi⟩ ⟨j, hj⟩ h
/-- two columns that are lost, from what is missing -/
theorem gm_two {i j x y : Nat} (hi : i < 30) (hj : j < 30) (h : i ≠ j) (hx : x < 256) (hy : y < 256) :
    gmN (powN (gmN 1 (expN j) ^^^ gmN 1 (expN i)) 254) (gmN (expN j) (x ^^^ y) ^^^ gmN 1 (gmN (expN i) x ^^^ gmN (expN j) y)) = x ∧
    gmN (powN (gmN 1 (expN j) ^^^ gmN 1 (expN i)) 254) (gmN 1 (gmN (expN i) x ^^^ gmN (expN j) y) ^^^ gmN (expN i) (x ^^^ y)) = y := by
  have l1 : gmN (expN i) x ^^^ gmN (expN j) y < 256 := xor_lt8 (gmN_lt exp_lt) (gmN_lt exp_lt)
  rw [gm_one exp_lt, gm_one exp_lt, gm_one l1, gm_add (expN j) x y, gm_add (expN i) x y]
  have e1 : (gmN (expN j) x ^^^ gmN (expN j) y) ^^^ (gmN (expN i) x ^^^ gmN (expN j) y) = gmN (expN j ^^^ expN i) x := by
    rw [gm_addl exp_lt exp_lt, xor_swap, Nat.xor_self, Nat.xor_zero]
  have e2 : (gmN (expN i) x ^^^ gmN (expN j) y) ^^^ (gmN (expN i) x ^^^ gmN (expN i) y) = gmN (expN j ^^^ expN i) y := by
    rw [gm_addl exp_lt exp_lt, xor_swap, Nat.xor_self, Nat.zero_xor]
  rw [e1, e2]
  have hne := exp_ne hi hj h
  exact ⟨gm_inv hne (xor_lt8 exp_lt exp_lt) hx, gm_inv hne (xor_lt8 exp_lt exp_lt) hy⟩
end Go.Proofs
