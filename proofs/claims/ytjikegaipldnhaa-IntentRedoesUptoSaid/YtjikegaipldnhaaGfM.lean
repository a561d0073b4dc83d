import Derived.Test.YtjikegaipldnhaaLib
import Derived.Test.YtjikegaipldnhaaFStrp

/-
  THE FIELD: Mul, power, Exp, Inv, Solve.
-/
namespace Go.Proofs
open Go Go.Ev
set_option linter.unusedSimpArgs false
set_option linter.unusedVariables false
set_option maxRecDepth 100000

def xt (x : Nat) : Nat := if 255 < 2 * x then (2 * x) ^^^ 285 else 2 * x
def gmL : Nat → Nat → Nat → Nat → Nat
  | 0, _, p, _ => p
  | k + 1, b, p, x => if b = 0 then p else gmL k (b / 2) (if b % 2 = 1 then p ^^^ x else p) (xt x)
def gmN (a b : Nat) : Nat := gmL 8 b 0 a
def powL : Nat → Nat → Nat → Nat → Nat
  | 0, _, _, p => p
  | k + 1, n, a, p => if n = 0 then p else powL k (n / 2) (gmN a a) (if n % 2 = 1 then gmN p a else p)
def powN (a n : Nat) : Nat := powL 8 n a 1
def expN (i : Nat) : Nat := powN 2 i
theorem xt_lt {x : Nat} (h : x < 256) : xt x < 256 := by
  have : ∀ x : Fin 256, xt x.val < 256 := by decide +kernel
  exact this ⟨x, h⟩
theorem xor_lt8 {a b : Nat} (ha : a < 256) (hb : b < 256) : a ^^^ b < 256 := Nat.xor_lt_two_pow (n := 8) ha hb
theorem gmL_lt : ∀ (k b p x : Nat), p < 256 → x < 256 → gmL k b p x < 256
  | 0, _, _, _, hp, _ => hp
  | k + 1, b, p, x, hp, hx => by
    unfold gmL
    split
    · exact hp
    · refine gmL_lt k _ _ _ ?_ (xt_lt hx)
      split
      · exact xor_lt8 hp hx
      · exact hp
theorem gmN_lt {a b : Nat} (ha : a < 256) : gmN a b < 256 := gmL_lt 8 b 0 a (by omega) ha
theorem powL_lt : ∀ (k n a p : Nat), a < 256 → p < 256 → powL k n a p < 256
  | 0, _, _, _, _, hp => hp
  | k + 1, n, a, p, ha, hp => by
    unfold powL
    split
    · exact hp
    · refine powL_lt k _ _ _ (gmN_lt ha) ?_
      split
      · exact gmN_lt hp
      · exact hp
theorem powN_lt {a n : Nat} (ha : a < 256) : powN a n < 256 := powL_lt 8 n a 1 ha (by omega)

/-! ### numbers of Go as numbers -/
theorem ofInt64 (n : Nat) : BitVec.ofInt 64 (n : Int) = BitVec.ofNat 64 n := by simp
theorem ofInt8 (n : Nat) : BitVec.ofInt 8 (n : Int) = BitVec.ofNat 8 n := by simp
theorem xor_i64 {a b : Nat} (ha : a < 2 ^ 62) (hb : b < 2 ^ 62) : ibits .xor .i64 (a : Int) (b : Int) = ((a ^^^ b : Nat) : Int) := by
  show IntKind.wrap .i64 ((BitVec.ofInt 64 _ ^^^ BitVec.ofInt 64 _).toNat : Int) = _
  rw [ofInt64, ofInt64, BitVec.toNat_xor, BitVec.toNat_ofNat, BitVec.toNat_ofNat, Nat.mod_eq_of_lt (by omega), Nat.mod_eq_of_lt (by omega)]
  have : a ^^^ b < 2 ^ 62 := Nat.xor_lt_two_pow ha hb
  exact wrapI (by omega) (by omega)
theorem xor_u8 {a b : Nat} (ha : a < 256) (hb : b < 256) : ibits .xor .u8 (a : Int) (b : Int) = ((a ^^^ b : Nat) : Int) := by
  show IntKind.wrap .u8 ((BitVec.ofInt 8 _ ^^^ BitVec.ofInt 8 _).toNat : Int) = _
  rw [ofInt8, ofInt8, BitVec.toNat_xor, BitVec.toNat_ofNat, BitVec.toNat_ofNat, Nat.mod_eq_of_lt (by omega), Nat.mod_eq_of_lt (by omega)]
  have : a ^^^ b < 256 := xor_lt8 ha hb
  exact wrapU8 (by omega) (by omega)
theorem and1_u8 {b : Nat} (hb : b < 256) : ibits .and .u8 (b : Int) 1 = ((b % 2 : Nat) : Int) := by
  have e : ((1 : Int)) = ((1 : Nat) : Int) := rfl
  rw [e]
  show IntKind.wrap .u8 ((BitVec.ofInt 8 _ &&& BitVec.ofInt 8 _).toNat : Int) = _
  rw [ofInt8, ofInt8, BitVec.toNat_and, BitVec.toNat_ofNat, BitVec.toNat_ofNat, Nat.mod_eq_of_lt (by omega), Nat.mod_eq_of_lt (by omega), Nat.and_one_is_mod]
  exact wrapU8 (by omega) (by omega)
theorem and1_i64 {b : Nat} (hb : b < 2 ^ 62) : ibits .and .i64 (b : Int) 1 = ((b % 2 : Nat) : Int) := by
  have e : ((1 : Int)) = ((1 : Nat) : Int) := rfl
  rw [e]
  show IntKind.wrap .i64 ((BitVec.ofInt 64 _ &&& BitVec.ofInt 64 _).toNat : Int) = _
  rw [ofInt64, ofInt64, BitVec.toNat_and, BitVec.toNat_ofNat, BitVec.toNat_ofNat, Nat.mod_eq_of_lt (by omega), Nat.mod_eq_of_lt (by omega), Nat.and_one_is_mod]
  exact wrapI (by omega) (by omega)
theorem shl1_i64 {x : Nat} (hx : x < 2 ^ 61) : ishl .i64 (x : Int) 1 = ((2 * x : Nat) : Int) := by
  unfold ishl
  show IntKind.wrap .i64 ((x : Int) * 2 ^ (min 1 64)) = _
  have : ((x : Int) * 2 ^ (min 1 64)) = ((2 * x : Nat) : Int) := by simp; omega
  rw [this]
  exact wrapI (by omega) (by omega)
theorem shr1 {k : IntKind} {x : Nat} : ishr k (x : Int) 1 = ((x / 2 : Nat) : Int) := by
  unfold ishr
  have : ∀ b : Nat, 1 ≤ b → Int.fdiv (x : Int) (2 ^ (min (1 : Int).toNat b)) = ((x / 2 : Nat) : Int) := by
    intro b hb
    rw [show (1 : Int).toNat = 1 from rfl, Nat.min_eq_left hb]
    simp only [Int.pow_one]
    rw [Int.fdiv_eq_ediv_of_nonneg _ (by omega)]
    rfl
  cases k <;> exact this _ (by decide)
section calls
variable {w : World} {R : Value → World → Prop}
end calls
end Go.Proofs

/-
  THE FIELD, in plain: what is linear, and what has an inverse.
-/
namespace Go.Proofs
set_option linter.unusedSimpArgs false
set_option linter.unusedVariables false
set_option maxRecDepth 100000

def gmF : Nat → Nat → Nat → Nat
  | 0, _, _ => 0
  | k + 1, b, x => (if b % 2 = 1 then x else 0) ^^^ gmF k (b / 2) (xt x)
theorem gmF_zero : ∀ k x, gmF k 0 x = 0
  | 0, _ => rfl
  | k + 1, x => by
    show (if 0 % 2 = 1 then x else 0) ^^^ gmF k (0 / 2) (xt x) = 0
    rw [if_neg (by omega), Nat.zero_div, gmF_zero k]; rfl
theorem gmL_F : ∀ k b p x, gmL k b p x = p ^^^ gmF k b x
  | 0, _, p, _ => by show p = p ^^^ 0; rw [Nat.xor_zero]
  | k + 1, b, p, x => by
    unfold gmL
    by_cases hb : b = 0
    · rw [if_pos hb, hb, gmF_zero, Nat.xor_zero]
    · rw [if_neg hb, gmL_F k]
      show _ = p ^^^ ((if b % 2 = 1 then x else 0) ^^^ gmF k (b / 2) (xt x))
      split
      · rw [Nat.xor_assoc]
      · rw [Nat.zero_xor]
theorem gmN_F (a b : Nat) : gmN a b = gmF 8 b a := by unfold gmN; rw [gmL_F, Nat.zero_xor]
theorem xor_swap (a b c d : Nat) : (a ^^^ b) ^^^ (c ^^^ d) = (a ^^^ c) ^^^ (b ^^^ d) := by
  rw [Nat.xor_assoc, Nat.xor_assoc, ← Nat.xor_assoc b, ← Nat.xor_assoc c, Nat.xor_comm b c]
theorem xor_mod2 (b c : Nat) : (b ^^^ c) % 2 = 1 ↔ (b % 2 = 1 ∧ ¬ c % 2 = 1) ∨ (¬ b % 2 = 1 ∧ c % 2 = 1) := by
  have h := Nat.testBit_xor b c 0
  simp only [Nat.testBit_zero] at h
  by_cases h1 : b % 2 = 1 <;> by_cases h2 : c % 2 = 1 <;> by_cases h3 : (b ^^^ c) % 2 = 1 <;> simp_all
theorem xor_div2 (b c : Nat) : (b ^^^ c) / 2 = (b / 2) ^^^ (c / 2) := by
  apply Nat.eq_of_testBit_eq
  intro i
  rw [Nat.testBit_xor, Nat.testBit_div_two, Nat.testBit_div_two, Nat.testBit_div_two, Nat.testBit_xor]
theorem gmF_add : ∀ k b c x, gmF k (b ^^^ c) x = gmF k b x ^^^ gmF k c x
  | 0, _, _, _ => by show 0 = 0 ^^^ 0; rfl
  | k + 1, b, c, x => by
    show (if (b ^^^ c) % 2 = 1 then x else 0) ^^^ gmF k ((b ^^^ c) / 2) (xt x) = ((if b % 2 = 1 then x else 0) ^^^ gmF k (b / 2) (xt x)) ^^^ ((if c % 2 = 1 then x else 0) ^^^ gmF k (c / 2) (xt x))
    rw [xor_div2, gmF_add k, xor_swap]
    congr 1
    by_cases h1 : b % 2 = 1
    · by_cases h2 : c % 2 = 1
      · rw [if_pos h1, if_pos h2, if_neg (by rw [xor_mod2]; simp [h1, h2]), Nat.xor_self]
      · rw [if_pos h1, if_neg h2, if_pos (by rw [xor_mod2]; simp [h1, h2]), Nat.xor_zero]
    · by_cases h2 : c % 2 = 1
      · rw [if_neg h1, if_pos h2, if_pos (by rw [xor_mod2]; simp [h1, h2]), Nat.zero_xor]
      · rw [if_neg h1, if_neg h2, if_neg (by rw [xor_mod2]; simp [h1, h2]), Nat.xor_self]
/-- linear in what is multiplied -/
theorem gm_add (a b c : Nat) : gmN a (b ^^^ c) = gmN a b ^^^ gmN a c := by rw [gmN_F, gmN_F, gmN_F, gmF_add]
theorem gm_zero (a : Nat) : gmN a 0 = 0 := rfl
theorem top_bit {x : Nat} (h : x < 256) : (255 < 2 * x) ↔ x.testBit 7 = true := by
  have : ∀ x : Fin 256, decide (255 < 2 * x.val) = x.val.testBit 7 := by decide +kernel
  rw [← this ⟨x, h⟩]; simp
theorem two_xor (x y : Nat) : 2 * (x ^^^ y) = 2 * x ^^^ 2 * y := by
  have e : ∀ z : Nat, 2 * z = z <<< 1 := fun z => by rw [Nat.shiftLeft_eq]; omega
  rw [e, e, e, Nat.shiftLeft_xor_distrib]
theorem xt_bit {x : Nat} (h : x < 256) : xt x = 2 * x ^^^ (if x.testBit 7 = true then 285 else 0) := by
  unfold xt
  by_cases h1 : 255 < 2 * x
  · rw [if_pos h1, if_pos ((top_bit h).1 h1)]
  · rw [if_neg h1, if_neg (fun h2 => h1 ((top_bit h).2 h2)), Nat.xor_zero]
theorem xt_add {x y : Nat} (hx : x < 256) (hy : y < 256) : xt (x ^^^ y) = xt x ^^^ xt y := by
  rw [xt_bit (xor_lt8 hx hy), xt_bit hx, xt_bit hy, two_xor, xor_swap, Nat.testBit_xor]
  congr 1
  cases x.testBit 7 <;> cases y.testBit 7 <;> simp
theorem gmF_addx : ∀ k b x y, x < 256 → y < 256 → gmF k b (x ^^^ y) = gmF k b x ^^^ gmF k b y
  | 0, _, _, _, _, _ => by show 0 = 0 ^^^ 0; rfl
  | k + 1, b, x, y, hx, hy => by
    show (if b % 2 = 1 then x ^^^ y else 0) ^^^ gmF k (b / 2) (xt (x ^^^ y)) = ((if b % 2 = 1 then x else 0) ^^^ gmF k (b / 2) (xt x)) ^^^ ((if b % 2 = 1 then y else 0) ^^^ gmF k (b / 2) (xt y))
    rw [xt_add hx hy, gmF_addx k _ _ _ (xt_lt hx) (xt_lt hy), xor_swap]
    congr 1
    split <;> simp
/-- linear in the factor -/
theorem gm_addl {a b c : Nat} (ha : a < 256) (hb : b < 256) : gmN (a ^^^ b) c = gmN a c ^^^ gmN b c := by rw [gmN_F, gmN_F, gmN_F, gmF_addx _ _ _ _ ha hb]
theorem gm_one {x : Nat} (h : x < 256) : gmN 1 x = x := by
  have : ∀ x : Fin 256, gmN 1 x.val = x.val := by decide +kernel
  exact this ⟨x, h⟩
def bitN (x i : Nat) : Nat := if x.testBit i = true then 2 ^ i else 0
theorem bits_of {x : Nat} (h : x < 256) : x = bitN x 0 ^^^ (bitN x 1 ^^^ (bitN x 2 ^^^ (bitN x 3 ^^^ (bitN x 4 ^^^ (bitN x 5 ^^^ (bitN x 6 ^^^ bitN x 7)))))) := by
  have : ∀ x : Fin 256, x.val = bitN x.val 0 ^^^ (bitN x.val 1 ^^^ (bitN x.val 2 ^^^ (bitN x.val 3 ^^^ (bitN x.val 4 ^^^ (bitN x.val 5 ^^^ (bitN x.val 6 ^^^ bitN x.val 7)))))) := by decide +kernel
  exact this ⟨x, h⟩
/-- what is linear and leaves the bits alone leaves all alone -/
theorem lin_id {f : Nat → Nat} (h0 : f 0 = 0) (ha : ∀ x y, f (x ^^^ y) = f x ^^^ f y) (hb : ∀ i, i < 8 → f (2 ^ i) = 2 ^ i) {x : Nat} (h : x < 256) : f x = x := by
  have e : ∀ i, i < 8 → f (bitN x i) = bitN x i := by
    intro i hi
    unfold bitN
    split
    · exact hb i hi
    · exact h0
  have hx := bits_of h
  have h1 : f (bitN x 0 ^^^ (bitN x 1 ^^^ (bitN x 2 ^^^ (bitN x 3 ^^^ (bitN x 4 ^^^ (bitN x 5 ^^^ (bitN x 6 ^^^ bitN x 7))))))) = bitN x 0 ^^^ (bitN x 1 ^^^ (bitN x 2 ^^^ (bitN x 3 ^^^ (bitN x 4 ^^^ (bitN x 5 ^^^ (bitN x 6 ^^^ bitN x 7)))))) := by
    rw [ha, ha, ha, ha, ha, ha, ha, e 0 (by omega), e 1 (by omega), e 2 (by omega), e 3 (by omega), e 4 (by omega), e 5 (by omega), e 6 (by omega), e 7 (by omega)]
  rw [← hx] at h1
  exact h1
/-- one over a -/
theorem gm_inv {a x : Nat} (h0 : a ≠ 0) (ha : a < 256) (hx : x < 256) : gmN (powN a 254) (gmN a x) = x := by
  have key : ∀ a : Fin 256, a.val ≠ 0 → ∀ i : Fin 8, gmN (powN a.val 254) (gmN a.val (2 ^ i.val)) = 2 ^ i.val := by decide +kernel
  refine lin_id (f := fun x => gmN (powN a 254) (gmN a x)) rfl (fun x y => ?_) (fun i hi => key ⟨a, ha⟩ h0 ⟨i, hi⟩) hx
  show gmN _ (gmN a (x ^^^ y)) = _
  rw [gm_add, gm_add]
theorem exp_lt {i : Nat} : expN i < 256 := powN_lt (by omega)
theorem exp_ne0 {i : Nat} (h : i < 30) : expN i ≠ 0 := by
  have : ∀ i : Fin 30, expN i.val ≠ 0 := by decide +kernel
  exact this ⟨i, h⟩
theorem exp_ne {i j : Nat} (hi : i < 30) (hj : j < 30) (h : i ≠ j) : expN j ^^^ expN i ≠ 0 := by
  have : ∀ i j : Fin 30, i.val ≠ j.val → expN j.val ^^^ expN i.val ≠ 0 := by decide +kernel
  exact this ⟨i, hi⟩ ⟨j, hj⟩ h
/-- two columns that are lost, from what is missing -/
theorem gm_two {i j x y : Nat} (hi : i < 30) (hj : j < 30) (h : i ≠ j) (hx : x < 256) (hy : y < 256) :
    gmN (powN (gmN 1 (expN j) ^^^ gmN 1 (expN i)) 254) (gmN (expN j) (x ^^^ y) ^^^ gmN 1 (gmN (expN i) x ^^^ gmN (expN j) y)) = x ∧
    gmN (powN (gmN 1 (expN j) ^^^ gmN 1 (expN i)) 254) (gmN 1 (gmN (expN i) x ^^^ gmN (expN j) y) ^^^ gmN (expN i) (x ^^^ y)) = y := by
  have l1 : gmN (expN i) x ^^^ gmN (expN j) y < 256 := xor_lt8 (gmN_lt exp_lt) (gmN_lt exp_lt)
  rw [gm_one exp_lt, gm_one exp_lt, gm_one l1, gm_add (expN j) x y, gm_add (expN i) x y]
  have e1 : (gmN (expN j) x ^^^ gmN (expN j) y) ^^^ (gmN (expN i) x ^^^ gmN (expN j) y) = gmN (expN j ^^^ expN i) x := by
    rw [gm_addl exp_lt exp_lt, xor_swap, Nat.xor_self, Nat.xor_zero]
  have e2 : (gmN (expN i) x ^^^ gmN (expN j) y) ^^^ (gmN (expN i) x ^^^ gmN (expN i) y) = gmN (expN j ^^^ expN i) y := by
    rw [gm_addl exp_lt exp_lt, xor_swap, Nat.xor_self, Nat.zero_xor]
  rw [e1, e2]
  have hne := exp_ne hi hj h
  exact ⟨gm_inv hne (xor_lt8 exp_lt exp_lt) hx, gm_inv hne (xor_lt8 exp_lt exp_lt) hy⟩
end Go.Proofs
