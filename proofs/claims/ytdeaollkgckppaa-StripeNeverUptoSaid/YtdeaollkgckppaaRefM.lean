import Derived.Test.YtdeaollkgckppaaDiskM
import Derived.Test.YtdeaollkgckppaaRows1
import Derived.Test.YtdeaollkgckppaaGfM
import Derived.Test.YtdeaollkgckppaaConcB
import Derived.Test.YtdeaollkgckppaaSetM
import Derived.Test.YtdeaollkgckppaaFRefs
import Derived.Test.YtdeaollkgckppaaInvM

/-
  THE REFERENCES' SUM is the program's.
-/
namespace Go.Proofs
open Go Go.Ev
set_option linter.unusedSimpArgs false
set_option linter.unusedVariables false
set_option maxRecDepth 100000

theorem ofInt32 (n : Nat) : BitVec.ofInt 32 (n : Int) = BitVec.ofNat 32 n := by simp
theorem xor_lt32 {a b : Nat} (ha : a < 2 ^ 32) (hb : b < 2 ^ 32) : a ^^^ b < 2 ^ 32 := Nat.xor_lt_two_pow ha hb
theorem xor_u32 {a b : Nat} (ha : a < 2 ^ 32) (hb : b < 2 ^ 32) : ibits .xor .u32 (a : Int) (b : Int) = ((a ^^^ b : Nat) : Int) := by
  show IntKind.wrap .u32 ((BitVec.ofInt 32 _ ^^^ BitVec.ofInt 32 _).toNat : Int) = _
  rw [ofInt32, ofInt32, BitVec.toNat_xor, BitVec.toNat_ofNat, BitVec.toNat_ofNat, Nat.mod_eq_of_lt (by omega), Nat.mod_eq_of_lt (by omega)]
  have := xor_lt32 ha hb
  exact wrapU32 (by omega) (by omega)
theorem and1_u32 {b : Nat} (hb : b < 2 ^ 32) : ibits .and .u32 (b : Int) 1 = ((b % 2 : Nat) : Int) := by
  have e : ((1 : Int)) = ((1 : Nat) : Int) := rfl
  rw [e]
  show IntKind.wrap .u32 ((BitVec.ofInt 32 _ &&& BitVec.ofInt 32 _).toNat : Int) = _
  rw [ofInt32, ofInt32, BitVec.toNat_and, BitVec.toNat_ofNat, BitVec.toNat_ofNat, Nat.mod_eq_of_lt (by omega), Nat.mod_eq_of_lt (by omega), Nat.and_one_is_mod]
  exact wrapU32 (by omega) (by omega)
def polyN : Nat := 3988292384
def bitSN (c : Nat) : Nat := if c % 2 = 1 then (c / 2) ^^^ polyN else c / 2
def bitRN (c b : Nat) : Nat := if (c ^^^ b) % 2 = 1 then (c / 2) ^^^ polyN else c / 2
def itR : Nat → Nat → Nat → Nat
  | 0, c, m => c ^^^ m
  | k + 1, c, m => itR k (bitRN c (m % 2)) (m / 2)
theorem bitSN_lt {c : Nat} (h : c < 2 ^ 32) : bitSN c < 2 ^ 32 := by
  unfold bitSN
  split
  · exact xor_lt32 (by omega) (by decide)
  · omega
theorem bitRN_lt {c b : Nat} (h : c < 2 ^ 32) : bitRN c b < 2 ^ 32 := by
  unfold bitRN
  split
  · exact xor_lt32 (by omega) (by decide)
  · omega
theorem bitS_N {c : Nat} (h : c < 2 ^ 32) : bitS (c : Int) = ((bitSN c : Nat) : Int) := by
  unfold bitS bitSN
  rw [and1_u32 h, shr1]
  by_cases hc : c % 2 = 1
  · rw [if_pos hc, if_pos (by rw [hc]; rfl)]
    exact xor_u32 (b := polyN) (by omega) (by decide)
  · rw [if_neg hc, if_neg (by have : c % 2 = 0 := by omega
                              rw [this]; decide)]
theorem bitSN_xor (c m : Nat) : bitSN (c ^^^ m) = bitRN c (m % 2) ^^^ (m / 2) := by
  unfold bitSN bitRN
  have h1 : (c ^^^ m) % 2 = 1 ↔ (c ^^^ (m % 2)) % 2 = 1 := by
    rw [xor_mod2, xor_mod2]
    omega
  rw [xor_div2]
  by_cases h : (c ^^^ m) % 2 = 1
  · rw [if_pos h, if_pos (h1.1 h), Nat.xor_assoc, Nat.xor_assoc, Nat.xor_comm (m / 2)]
  · rw [if_neg h, if_neg (fun h' => h (h1.2 h'))]
theorem itS_R : ∀ (k c m : Nat), c < 2 ^ 32 → m < 2 ^ 32 → itS k ((c ^^^ m : Nat) : Int) = ((itR k c m : Nat) : Int)
  | 0, _, _, _, _ => rfl
  | k + 1, c, m, hc, hm => by
    show itS k (bitS _) = ((itR k (bitRN c (m % 2)) (m / 2) : Nat) : Int)
    rw [bitS_N (xor_lt32 hc hm), bitSN_xor]
    exact itS_R k _ _ (bitRN_lt hc) (by omega)
theorem itR_end {c m : Nat} (h : m = 0) : itR 0 c m = c := by subst h; exact Nat.xor_zero c
theorem shr_u8 {n k : Nat} (hk : k < 8) : ishr .u8 (n : Int) (k : Int) = ((n / 2 ^ k : Nat) : Int) := by
  unfold ishr
  have e : min (k : Int).toNat (IntKind.bits .u8) = k := by
    rw [Int.toNat_natCast]
    show min k 8 = k
    omega
  rw [e, Int.fdiv_eq_ediv_of_nonneg _ (by exact Int.le_of_lt (Int.pow_pos (by decide)))]
  norm_cast
section calls
variable {w : World} {p : Option Addr} {l c : Nat} {xs : List Int} {R : Value → World → Prop}
theorem get_secB' (F : Sec) : ∀ {i : Nat} (h : i < 16), (secB F)[i]? = some (F ⟨i, h⟩) := fun {i} h => by
  rcases (show i = 0 ∨ i = 1 ∨ i = 2 ∨ i = 3 ∨ i = 4 ∨ i = 5 ∨ i = 6 ∨ i = 7 ∨ i = 8 ∨ i = 9 ∨ i = 10 ∨ i = 11 ∨ i = 12 ∨ i = 13 ∨ i = 14 ∨ i = 15 by omega) with rfl | rfl | rfl | rfl | rfl | rfl | rfl | rfl | rfl | rfl | rfl | rfl | rfl | rfl | rfl | rfl <;> rfl
theorem r_bit {c b : Nat} (hc : c < 2 ^ 32) (hb : b < 2) (hK : R (.int .u32 ((bitRN c b : Nat) : Int)) w) : CallV Try.prog 109 #[.int .u32 (c : Int), .int .u32 (b : Int)] w R := by
  apply C_ravelinref02_bit
  unfold F_ravelinref02_bit
  refine ⟨by decide, ?_⟩
  rw [xor_u32 hc (by omega), and1_u32 (xor_lt32 hc (by omega)), shr1]
  unfold bitRN at hK
  by_cases h : (c ^^^ b) % 2 = 1
  · rw [if_pos h] at hK
    rw [h]
    refine (Cb_true (q := _)).2 (Ret_nil.2 ?_)
    rw [show (3988292384 : Int) = ((polyN : Nat) : Int) from rfl, xor_u32 (by omega) (by decide)]
    exact hK
  · rw [if_neg h] at hK
    have : (c ^^^ b) % 2 = 0 := by omega
    rw [this]
    exact (Cb_false (p := _)).2 (Ret_nil.2 hK)
theorem stepS_R {c n : Nat} (hc : c < 2 ^ 32) (hn : n < 256) : stepS (ibits .xor .u32 (c : Int) (IntKind.wrap .u32 (n : Int))) = ((itR 8 c n : Nat) : Int) := by
  rw [wrapU32 (by omega) (by omega), xor_u32 hc (by omega)]
  exact itS_R 8 c n hc (by omega)
theorem itR_lt : ∀ (k c m : Nat), c < 2 ^ 32 → m < 2 ^ 32 → itR k c m < 2 ^ 32
  | 0, c, m, hc, hm => xor_lt32 hc hm
  | k + 1, c, m, hc, hm => itR_lt k _ _ (bitRN_lt hc) (by omega)
theorem foldS_lt : ∀ (l : List Int) (c : Int), (0 ≤ c ∧ c < 4294967296) → By l → 0 ≤ foldS c l ∧ foldS c l < 4294967296
  | [], c, hc, _ => hc
  | x :: l, c, hc, hb => by
    have hx := hb x (by simp)
    have e1 : x = ((x.toNat : Nat) : Int) := by omega
    have e2 : c = ((c.toNat : Nat) : Int) := by omega
    show 0 ≤ foldS (stepS (ibits .xor .u32 c (IntKind.wrap .u32 x))) l ∧ foldS (stepS (ibits .xor .u32 c (IntKind.wrap .u32 x))) l < 4294967296
    refine foldS_lt l _ ?_ fun y hy => hb y (by simp [hy])
    rw [e1, e2, stepS_R (by omega) (by omega)]
    have := itR_lt 8 c.toNat x.toNat (by omega) (by omega)
    omega
theorem r_More {crc : Int} (hcrc : 0 ≤ ibits .xor .u32 allS crc ∧ ibits .xor .u32 allS crc < 4294967296) (h : SlL byLay w p l xs) (hb : By xs) (hl : l ≤ 1000000000) (hK : R (.int .u32 (ibits .xor .u32 allS (foldS (ibits .xor .u32 allS crc) xs))) w) : CallV Try.prog 105 #[.int .u32 crc, .slice p l c] w R := by
  apply C_ravelinref02_More
  unfold F_ravelinref02_More
  have hlen := h.1
  refine LoopC_of (σ := Int × Int × Unit) (fun st w' => w' = w ∧ ∃ j : Nat, st.2.1 = j ∧ j ≤ l ∧ st.1 = foldS (ibits .xor .u32 allS crc) (xs.take j)) (fun st _ => (l - st.2.1).toNat) ⟨rfl, 0, rfl, by omega, rfl⟩ ?_
  rintro _ ⟨y, i1, u⟩ w1 ⟨hw, j, hj, hjl, hy⟩
  simp only at hj hy ⊢
  subst hj hy
  rw [hw]
  clear hw
  refine Cb_of (fun hc => ?_) (fun hc => ?_)
  · have hj : j < l := by simp only [decide_eq_true_eq] at hc; omega
    have ew : IntKind.wrap .i64 ((j : Int) + 1) = ((j + 1 : Nat) : Int) := by rw [wrapI (by omega) (by omega)]; omega
    have hbt : By (xs.take j) := fun x hx => hb x (List.mem_of_mem_take hx)
    have hcr := foldS_lt (xs.take j) _ hcrc hbt
    have hst : foldS (ibits .xor .u32 allS crc) (xs.take (j + 1)) = stepS (ibits .xor .u32 (foldS (ibits .xor .u32 allS crc) (xs.take j)) (IntKind.wrap .u32 (xs.getD j 0))) := by
      rw [take_succ_getD (by omega)]
      unfold foldS
      rw [List.foldl_append]; rfl
    have hx : xs[j]? = some (xs.getD j 0) := by
      have := getD_at (xs := xs) (i := j) (by omega) 0
      rwa [Int.toNat_natCast] at this
    have hxr := hb _ (List.mem_of_getElem? hx)
    generalize hcv : foldS (ibits .xor .u32 allS crc) (xs.take j) = cv at *
    obtain ⟨cN, rfl⟩ : ∃ cN : Nat, cv = (cN : Int) := ⟨cv.toNat, by omega⟩
    generalize hxv : xs.getD j 0 = xv at *
    obtain ⟨n, rfl⟩ : ∃ n : Nat, xv = (n : Int) := ⟨xv.toNat, by omega⟩
    rw [stepS_R (by omega) (by omega)] at hst
    refine LoopC_of (σ := Int × Int × Unit) (fun st w' => w' = w ∧ ∃ (k cur : Nat), st.2.1 = (k : Int) ∧ st.1 = (cur : Int) ∧ k ≤ 8 ∧ cur < 2 ^ 32 ∧ itR (8 - k) cur (n / 2 ^ k) = itR 8 cN n) (fun st _ => (8 - st.2.1).toNat) ⟨rfl, 0, cN, rfl, rfl, by omega, by omega, by simp⟩ ?_
    rintro _ ⟨y2, i2, u2⟩ w2 ⟨hw, k, cur, hk, hcur, hk8, hc32, hit⟩
    simp only at hk hcur ⊢
    subst hk hcur
    rw [hw]
    clear hw
    refine Cb_of (fun hc => ?_) (fun hc => ?_)
    · have hk : k < 8 := by
        have : (k : Int) < 8 := by simpa using hc
        omega
      have ek : IntKind.wrap .i64 ((k : Int) + 1) = ((k + 1 : Nat) : Int) := by rw [wrapI (by omega) (by omega)]; omega
      refine h.ld0 (i := (j : Int)) rfl (by omega) (by rw [Int.toNat_natCast]; exact hx) (v := .int .u8 (n : Int)) rfl (OpI_int.2 ⟨by omega, ?_⟩)
      have hdiv : n / 2 ^ k < 256 := Nat.lt_of_le_of_lt (Nat.div_le_self _ _) (by omega)
      rw [shr_u8 hk, and1_u8 hdiv, wrapU32 (by omega) (by omega)]
      refine r_bit hc32 (by omega) (OpI_int.2 ?_)
      refine ⟨_, by show (8 - IntKind.wrap .i64 ((k : Int) + 1)).toNat < (8 - (k : Int)).toNat; rw [ek]; omega, ⟨by trivial, k + 1, _, ek, rfl, by omega, bitRN_lt hc32, ?_⟩, rfl⟩
      rw [← hit, show 8 - k = (8 - (k + 1)) + 1 by omega]
      show _ = itR (8 - (k + 1)) (bitRN cur (n / 2 ^ k % 2)) (n / 2 ^ k / 2)
      rw [Nat.div_div_eq_div_mul, ← Nat.pow_succ]
    · have hk : k = 8 := by
        have : ¬ (k : Int) < 8 := by simpa using hc
        omega
      subst hk
      have hz : n / 2 ^ 8 = 0 := Nat.div_eq_of_lt (by omega)
      have hit : itR 0 cur (n / 2 ^ 8) = itR 8 cN n := hit
      rw [itR_end hz] at hit
      refine ⟨_, by show ((l : Int) - IntKind.wrap .i64 ((j : Int) + 1)).toNat < ((l : Int) - (j : Int)).toNat; rw [ew]; omega, ⟨by trivial, j + 1, ew, by omega, ?_⟩, rfl⟩
      rw [hst, hit]
  · have hj : j = l := by simp only [decide_eq_false_iff_not] at hc; omega
    subst hj
    refine Ret_nil.2 ?_
    rw [List.take_of_length_le (by omega)]
    exact hK
theorem r_Crc (h : SlL byLay w p l xs) (hb : By xs) (hl : l ≤ 1000000000) (hK : R (.int .u32 (crcS xs)) w) : CallV Try.prog 94 #[.slice p l c] w R := by
  apply C_ravelinref02_Crc
  unfold F_ravelinref02_Crc
  refine r_More (by decide +kernel) h hb hl ?_
  exact OpI_int.2 (Ret_nil.2 hK)
theorem bsl_b1 (x : Int) (w : World) : (Instr.buildSlice 72 1 #[(0, .int .u8 x)]).run Try.prog w = .ok (.slice (some ⟨w.heap.size, 0, none⟩) 1 1) (w.alloc (.cells #[.int .u8 x] 5)) :=
  run_buildSlice w 72 5 1 _ #[.int .u8 x] ((Try.prog.info? 5).get (by kernel_rfl)) (((Try.prog.info? 5).get (by kernel_rfl)).zero.get (by kernel_rfl)) (by kernel_rfl) (by kernel_rfl) (by kernel_rfl) (by decide +kernel) (by decide +kernel) (by kernel_rfl)
theorem atB_ref {at_ : Int} (h : 0 ≤ at_ ∧ at_ ≤ 1000000) {j : Nat} (hj : j < 8) : IntKind.wrap .u8 (ishr .u64 (IntKind.wrap .u64 at_) (IntKind.wrap .i64 (8 * (7 - (j : Int))))) = atB at_ j := by
  unfold atB
  rw [wrapU64 h.1 (by omega), wrapI (x := 8 * (7 - (j : Int))) (by omega) (by omega), show 8 * (7 - (j : Int)) = 56 - 8 * (j : Int) by omega]
  rfl
theorem atB_rng (at_ : Int) (j : Nat) : 0 ≤ atB at_ j ∧ atB at_ j ≤ 255 := by
  unfold atB
  have : ∀ x : Int, 0 ≤ IntKind.wrap .u8 x ∧ IntKind.wrap .u8 x ≤ 255 := fun x => by
    show 0 ≤ x % 256 ∧ x % 256 ≤ 255
    omega
  exact this _
theorem by_seal {at_ : Int} {d : Sec} (h : SecOk d) : By (atBs at_ ++ secB d) := by
  intro x hx
  rcases List.mem_append.1 hx with hx | hx
  · unfold atBs at hx
    simp only [List.mem_cons, List.not_mem_nil, or_false] at hx
    rcases hx with rfl | rfl | rfl | rfl | rfl | rfl | rfl | rfl <;> exact atB_rng _ _
  · obtain ⟨i, hi⟩ := List.getElem?_of_mem hx
    have hlt : i < 16 := (List.getElem?_eq_some_iff.1 hi).1
    rw [get_secB' d hlt] at hi
    cases hi
    exact h _
theorem r_Seal {at_ : Int} {d : Sec} (hat : 0 ≤ at_ ∧ at_ ≤ 1000000) (hd : SecOk d) (hK : ∀ w', Keep (fun _ => False) w w' → R (.agg (celV ⟨d, sumS at_ d⟩)) w') : CallV Try.prog 75 #[.int .i64 at_, .agg (secV d)] w R := by
  apply C_ravelinref02_Seal
  unfold F_ravelinref02_Seal
  refine alc_fresh fun w1 hb1 k1 z1 => ?_
  refine alc_fresh fun w2 hb2 k2 z2 => ?_
  refine ⟨_, _, run_mt0 w2, OpS_slice.2 ?_⟩
  have k3 := Keep.new (fun _ => False) w2 (.cells #[] 5)
  have h3 := Has.new w2 (.cells #[] 5)
  generalize hw3 : w2.alloc (.cells #[] 5) = w3 at *
  have k03 := (k1.trans k2).trans k3
  have hd3 := k3.has (k2.has hb1 (by simp)) (by simp)
  have hc3 := k3.has hb2 (by simp)
  have z03 : w.heap.size ≤ w2.heap.size := (k1.trans k2).size
  have o3 : OwnL byLay w3 w2.heap.size 5 (some ⟨w2.heap.size, 0, none⟩) 0 0 [] := OwnL.mk (xs := []) (Nat.le_refl _) h3 (by simp [maxLen]) rfl
  have hl1 : w.heap.size < w2.heap.size := by omega
  have hl2 : w1.heap.size < w2.heap.size := by omega
  have hl12 : w.heap.size ≤ w1.heap.size := by omega
  have z3 : w2.heap.size ≤ w3.heap.size := k3.size
  generalize w2.heap.size = B at *
  generalize w1.heap.size = b1 at *
  generalize hb0 : w.heap.size = b at *
  have kF : ∀ {w' w'' : World} {q : Option Addr} {n m : Nat} {ys : List Int}, OwnL byLay w' B 5 q n m ys → Keep (fun k => q = some ⟨k, 0, none⟩) w' w'' → Keep (fun k => B ≤ k) w' w'' := fun o k => k.mono fun i hi => (o.lt hi).1
  refine LoopC_of (σ := (Option Addr × Nat × Nat) × Int × Unit) (fun s w' => ∃ j : Nat, s.2.1 = 7 - (j : Int) ∧ j ≤ 8 ∧ s.1.2.1 = j ∧ OwnL byLay w' B 5 s.1.1 j s.1.2.2 ((atBs at_).take j) ∧ Keep (fun k => B ≤ k) w3 w') (fun s _ => (s.2.1 + 1).toNat)
    ⟨0, rfl, by omega, rfl, o3, Keep.refl _ _⟩ ?_
  rintro _ ⟨⟨q, l1, c1⟩, i, u⟩ w4 ⟨j, hi, hj, hl, o4, k4⟩
  simp only at hi hl o4 ⊢
  subst hl
  rw [hi]
  have z4 : B ≤ w4.heap.size := by have := k4.size; omega
  refine Cb_of (fun hc => ?_) (fun hc => ?_)
  · have hc : l1 < 8 := by
      have : (0 : Int) ≤ 7 - (l1 : Int) := by simpa using hc
      omega
    refine ⟨by rw [wrapI (by omega) (by omega)]; omega, ?_⟩
    rw [atB_ref hat hc]
    refine ⟨_, _, bsl_b1 _ w4, OpS_slice.2 ?_⟩
    have k5 := Keep.new (fun _ => False) w4 (.cells #[.int .u8 (atB at_ l1)] 5)
    have h5 := Has.new w4 (.cells #[.int .u8 (atB at_ l1)] 5)
    generalize w4.alloc (.cells #[.int .u8 (atB at_ l1)] 5) = w5 at *
    obtain ⟨p6, c6, w6, hr6, o6, k6, _⟩ := run_appendF1 byLayT (o4.keep k5 (by simp)) (y := atB at_ l1) h5 rfl (ty := 72) (by omega) (by simp only [maxLen]; omega) (by have := k5.size; omega) (c2 := 1)
    refine ⟨_, _, hr6, OpS_slice.2 ?_⟩
    have ek : IntKind.wrap .i64 (7 - (l1 : Int) - 1) = 7 - ((l1 + 1 : Nat) : Int) := by rw [wrapI (by omega) (by omega)]; omega
    refine ⟨_, by show (IntKind.wrap .i64 (7 - (l1 : Int) - 1) + 1).toNat < (7 - (l1 : Int) + 1).toNat; rw [ek]; omega, ⟨l1 + 1, ek, by omega, rfl, ?_, (k4.trans (k5.mono fun _ h => h.elim)).trans (kF (o4.keep k5 (by simp)) k6)⟩, rfl⟩
    have e : (atBs at_).take (l1 + 1) = (atBs at_).take l1 ++ [atB at_ l1] := by
      rcases (show l1 = 0 ∨ l1 = 1 ∨ l1 = 2 ∨ l1 = 3 ∨ l1 = 4 ∨ l1 = 5 ∨ l1 = 6 ∨ l1 = 7 by omega) with rfl | rfl | rfl | rfl | rfl | rfl | rfl | rfl <;> rfl
    rw [e]
    exact o6
  · have hc : l1 = 8 := by
      have : ¬ (0 : Int) ≤ 7 - (l1 : Int) := by simpa using hc
      omega
    subst hc
    have o4 : OwnL byLay w4 B 5 q 8 c1 (atBs at_ ++ (secB d).take 0) := o4
    refine LoopC_of (σ := (Option Addr × Nat × Nat) × Int × Unit) (fun s w' => ∃ j : Nat, s.2.1 = (j : Int) ∧ j ≤ 16 ∧ s.1.2.1 = 8 + j ∧ OwnL byLay w' B 5 s.1.1 (8 + j) s.1.2.2 (atBs at_ ++ (secB d).take j) ∧ Keep (fun k => B ≤ k) w3 w') (fun s _ => (16 - s.2.1).toNat)
      ⟨0, rfl, by omega, rfl, o4, k4⟩ ?_
    rintro _ ⟨⟨q2, l2, c2⟩, i2, u2⟩ w5 ⟨k, hi2, hk, hl2', o5, k5⟩
    simp only at hi2 hl2' o5 ⊢
    subst hi2 hl2'
    have hd5 := k5.has hd3 (by omega)
    have z5 : B ≤ w5.heap.size := by have := k5.size; omega
    refine Cb_of (fun hc => ?_) (fun hc => ?_)
    · have hc : k < 16 := by
        have : (k : Int) < 16 := by simpa using hc
        omega
      have ek : IntKind.wrap .i64 ((k : Int) + 1) = ((k + 1 : Nat) : Int) := by rw [wrapI (by omega) (by omega)]; omega
      refine ⟨by omega, ?_⟩
      have hcv : (secV d)[0 + (k : Int).toNat * 1]? = some (.int .u8 (d ⟨k, hc⟩)) := by
        have e : (secV d).toList = (secB d).map fun y => Value.int .u8 y := rfl
        rw [← Array.getElem?_toList, e, List.getElem?_map, show 0 + (k : Int).toNat * 1 = k by omega, get_secB' d hc]; rfl
      refine LdV_has (v := .int .u8 (d ⟨k, hc⟩)) hd5 hcv (OpI_int.2 ?_)
      refine ⟨_, _, bsl_b1 _ w5, OpS_slice.2 ?_⟩
      have k6 := Keep.new (fun _ => False) w5 (.cells #[.int .u8 (d ⟨k, hc⟩)] 5)
      have h6 := Has.new w5 (.cells #[.int .u8 (d ⟨k, hc⟩)] 5)
      generalize w5.alloc (.cells #[.int .u8 (d ⟨k, hc⟩)] 5) = w6 at *
      obtain ⟨p7, c7, w7, hr7, o7, k7, _⟩ := run_appendF1 byLayT (o5.keep k6 (by simp)) (y := d ⟨k, hc⟩) h6 rfl (ty := 72) (by omega) (by simp only [maxLen]; omega) (by have := k6.size; omega) (c2 := 1)
      refine ⟨_, _, hr7, OpS_slice.2 ?_⟩
      refine ⟨_, by show (16 - IntKind.wrap .i64 ((k : Int) + 1)).toNat < (16 - (k : Int)).toNat; rw [ek]; omega, ⟨k + 1, ek, by omega, rfl, ?_, (k5.trans (k6.mono fun _ h => h.elim)).trans (kF (o5.keep k6 (by simp)) k7)⟩, rfl⟩
      rw [List.take_add_one, get_secB' d hc]
      rw [List.append_assoc] at o7
      exact o7
    · have hc : k = 16 := by
        have : ¬ (k : Int) < 16 := by simpa using hc
        omega
      subst hc
      have o5 : OwnL byLay w5 B 5 q2 24 c2 (atBs at_ ++ secB d) := o5
      have hc5 := k5.has hc3 (by omega)
      intro dd _
      refine LdA_all (hd5.dr dd) rfl ?_
      refine CallS_of (V := .int .u32 (sumS at_ d)) (r_Crc (o5.keep (Keep.drew (fun _ => False) w5 dd) (by simp)).sl (by_seal hd) (by omega) ⟨rfl, rfl⟩) ?_
      refine OpI_int.2 ?_
      refine DoQ_of (v := .agg (celV ⟨d, sumS at_ d⟩)) (fun _ => run_build _ _ _ _ (by kernel_rfl)) ?_
      refine OpA_agg.2 ⟨rfl, ?_⟩
      refine StA_all (hc5.dr dd) rfl (by kernel_rfl) (one_celV _) ?_
      refine LdA_all ((hc5.dr dd).upd_same _) rfl ?_
      refine Ret_nil.2 (hK _ ?_)
      exact ((k03.trans' k5 fun i hi e => by omega).dr dd).trans' ((Keep.refl (fun k => k = b1) _).upd (fun _ => rfl) _) fun i hi e => by omega
end calls
end Go.Proofs

/-
  THE REFERENCES' SET: New; the layout's Check, Size, Capacity.
-/
namespace Go.Proofs
open Go Go.Ev
set_option linter.unusedSimpArgs false
set_option linter.unusedVariables false
set_option maxRecDepth 100000

section layout
variable {w : World} {g : Geo} {R : Value → World → Prop}
theorem r3_Check (h : GeoOk g) (hK : ∀ w', Keep (fun _ => False) w w' → R (.int .i64 0) w') : CallV Try.prog 32 #[.agg (geoV g)] w R := by
  apply C_ravelinref03_Check
  unfold F_ravelinref03_Check
  refine alc_fresh fun w1 hb k1 z1 => ?_
  obtain ⟨⟨d1, d2⟩, ⟨c1, c2⟩, ⟨s1, s2⟩⟩ := h
  refine LdV_has (v := .int .i64 g.d) hb rfl (OpI_int.2 ?_)
  rw [decide_eq_false (show ¬ g.d < 4 by omega)]
  refine (Cb_false (p := _)).2 ?_
  refine LdV_has (v := .int .i64 g.d) hb rfl (OpI_int.2 ?_)
  rw [decide_eq_false (show ¬ g.d > 32 by omega)]
  refine (Cb_false (p := _)).2 ?_
  refine LdV_has (v := .int .i64 g.c) hb rfl (OpI_int.2 ?_)
  rw [decide_eq_false (show ¬ g.c < 1 by omega)]
  refine (Cb_false (p := _)).2 ?_
  refine LdV_has (v := .int .i64 g.c) hb rfl (OpI_int.2 ?_)
  rw [decide_eq_false (show ¬ g.c > 8 by omega)]
  refine (Cb_false (p := _)).2 ?_
  refine LdV_has (v := .int .i64 g.s) hb rfl (OpI_int.2 ?_)
  rw [decide_eq_false (show ¬ g.s < 1 by omega)]
  refine (Cb_false (p := _)).2 ?_
  refine LdV_has (v := .int .i64 g.s) hb rfl (OpI_int.2 ?_)
  rw [decide_eq_false (show ¬ g.s > 64 by omega)]
  exact (Cb_false (p := _)).2 (Ret_nil.2 (hK w1 k1))
theorem r3_Size (h : GeoOk g) (hK : ∀ w', Keep (fun _ => False) w w' → R (.tuple #[.int .i64 (g.c * g.s), .int .i64 0]) w') : CallV Try.prog 54 #[.agg (geoV g)] w R := by
  apply C_ravelinref03_Size
  unfold F_ravelinref03_Size
  have hs := h.size
  refine alc_fresh fun w1 hb k1 z1 => ?_
  refine LdA_all hb rfl ?_
  refine r3_Check h fun w2 k2 => ?_
  refine OpI_int.2 ((Cb_false (p := _)).2 ?_)
  have hb2 := k2.has hb (by simp)
  refine LdV_has (v := .int .i64 g.c) hb2 rfl (OpI_int.2 ?_)
  refine LdV_has (v := .int .i64 g.s) hb2 rfl (OpI_int.2 ?_)
  rw [wrapI (by omega) (by omega)]
  exact Ret_nil.2 (hK w2 (k1.trans k2))
theorem r3_Cap (h : GeoOk g) (hK : ∀ w', Keep (fun _ => False) w w' → R (.tuple #[.int .i64 ((g.d - 2) * g.c * g.s), .int .i64 0]) w') : CallV Try.prog 15 #[.agg (geoV g)] w R := by
  apply C_ravelinref03_Capacity
  unfold F_ravelinref03_Capacity
  have hcap := h.cap
  obtain ⟨⟨d1, d2⟩, ⟨c1, c2⟩, ⟨s1, s2⟩⟩ := h
  have h1 := Int.mul_le_mul (show g.d - 2 ≤ (30 : Int) by omega) c2 (by omega) (by omega)
  have h0 := Int.mul_nonneg (show (0 : Int) ≤ g.d - 2 by omega) (show (0 : Int) ≤ g.c by omega)
  refine alc_fresh fun w1 hb k1 z1 => ?_
  refine LdA_all hb rfl ?_
  refine r3_Check ⟨⟨d1, d2⟩, ⟨c1, c2⟩, ⟨s1, s2⟩⟩ fun w2 k2 => ?_
  refine OpI_int.2 ((Cb_false (p := _)).2 ?_)
  have hb2 := k2.has hb (by simp)
  refine LdV_has (v := .int .i64 g.d) hb2 rfl (OpI_int.2 ?_)
  refine LdV_has (v := .int .i64 g.c) hb2 rfl (OpI_int.2 ?_)
  refine LdV_has (v := .int .i64 g.s) hb2 rfl (OpI_int.2 ?_)
  rw [wrapI (x := g.d - 2) (by omega) (by omega), wrapI (x := (g.d - 2) * g.c) (by omega) (by omega), wrapI (by omega) (by omega)]
  exact Ret_nil.2 (hK w2 (k1.trans k2))
end layout

/-! ### rows that are filled one by one -/
def fillN {α : Type} (f : Nat → α) (z : α) (t n : Nat) : List α := (List.range n).map fun k => if k < t then f k else z
theorem len_fillN {α : Type} (f : Nat → α) (z : α) (t n : Nat) : (fillN f z t n).length = n := by simp [fillN]
theorem fillN_at {α : Type} {f : Nat → α} {z : α} {t n k : Nat} (h : k < n) : (fillN f z t n)[k]? = some (if k < t then f k else z) := by
  unfold fillN
  rw [List.getElem?_map, List.getElem?_range h]; rfl
theorem fillN_zero {α : Type} (f : Nat → α) (z : α) (n : Nat) : List.replicate n z = fillN f z 0 n := by
  apply List.ext_getElem?
  intro i
  by_cases h : i < n
  · rw [fillN_at h, List.getElem?_replicate, if_pos h, if_neg (by omega)]
  · rw [List.getElem?_eq_none (by simp; omega), List.getElem?_eq_none (by rw [len_fillN]; omega)]
theorem fillN_set {α : Type} {f : Nat → α} {z : α} {t n : Nat} (h : t < n) : (fillN f z t n).set t (f t) = fillN f z (t + 1) n := by
  apply List.ext_getElem?
  intro i
  by_cases hi : i < n
  · by_cases e : t = i
    · subst e
      rw [List.getElem?_set_self (by rw [len_fillN]; exact hi), fillN_at hi, if_pos (by omega)]
    · rw [List.getElem?_set_ne e, fillN_at hi, fillN_at hi]
      by_cases h1 : i < t
      · rw [if_pos h1, if_pos (by omega)]
      · rw [if_neg h1, if_neg (by omega)]
  · rw [List.getElem?_eq_none (by rw [List.length_set, len_fillN]; omega), List.getElem?_eq_none (by rw [len_fillN]; omega)]
def boLay : Lay Bool := ⟨1, fun b => [.bool b], fun _ => rfl, fun y v hv => by rw [List.mem_singleton.1 hv]; rfl, by decide⟩
/-- a reference's disk: where its cells and its marks lie -/
def rdL (x : Nat × Nat × Nat) : List Value := [.slice (some ⟨x.1, 0, none⟩) x.2.2 x.2.2, .slice (some ⟨x.2.1, 0, none⟩) x.2.2 x.2.2, .int .u32 0, .bool false]
def rdV (x : Nat × Nat × Nat) : Array Value := #[.slice (some ⟨x.1, 0, none⟩) x.2.2 x.2.2, .slice (some ⟨x.2.1, 0, none⟩) x.2.2 x.2.2, .int .u32 0, .bool false]
theorem one_rdV (x : Nat × Nat × Nat) : ∀ v ∈ (rdV x).toList, oneV v = true := by
  intro v hv
  have hv : v ∈ rdL x := hv
  simp only [rdL, List.mem_cons, List.not_mem_nil, or_false] at hv
  rcases hv with rfl | rfl | rfl | rfl <;> rfl
def rdLay : Lay (Nat × Nat × Nat) := ⟨4, rdL, fun _ => rfl, fun x => one_rdV x, by decide⟩
theorem run_mkc (w : World) {n : Nat} (hn : n ≤ 1000) : ∃ w', (Instr.makeSlice 63 (.int .i64 (n : Int)) (.int .i64 (n : Int))).run Try.prog w = .ok (.slice (some ⟨w.heap.size, 0, none⟩) n n) w' ∧ OwnL cLay w' w.heap.size 57 (some ⟨w.heap.size, 0, none⟩) n n (List.replicate n cel0) ∧ Keep (fun _ => False) w w' ∧ w'.heap.size = w.heap.size + 1 :=
  run_makeL (P := Try.prog) (L := cLay) (x0 := cel0) (t := 63) (e := 57) (i := (Try.prog.info? 57).get (by kernel_rfl)) (z := ((Try.prog.info? 57).get (by kernel_rfl)).zero.get (by kernel_rfl)) w (by kernel_rfl) (by kernel_rfl) (by kernel_rfl) (by kernel_rfl) (by kernel_rfl) n
    (by show n * 17 ≤ _; omega) (by have : ((Try.prog.info? 57).get (by kernel_rfl)).bytes = 20 := by kernel_rfl
                                    rw [this]; omega) (by simp only [maxLen]; omega)
theorem run_mkb (w : World) {n : Nat} (hn : n ≤ 1000) : ∃ w', (Instr.makeSlice 64 (.int .i64 (n : Int)) (.int .i64 (n : Int))).run Try.prog w = .ok (.slice (some ⟨w.heap.size, 0, none⟩) n n) w' ∧ OwnL boLay w' w.heap.size 4 (some ⟨w.heap.size, 0, none⟩) n n (List.replicate n false) ∧ Keep (fun _ => False) w w' ∧ w'.heap.size = w.heap.size + 1 :=
  run_makeL (P := Try.prog) (L := boLay) (x0 := false) (t := 64) (e := 4) (i := (Try.prog.info? 4).get (by kernel_rfl)) (z := ((Try.prog.info? 4).get (by kernel_rfl)).zero.get (by kernel_rfl)) w (by kernel_rfl) (by kernel_rfl) (by kernel_rfl) (by kernel_rfl) (by kernel_rfl) n
    (by show n * 1 ≤ _; omega) (by have : ((Try.prog.info? 4).get (by kernel_rfl)).bytes = 1 := by kernel_rfl
                                   rw [this]; omega) (by simp only [maxLen]; omega)
theorem zc_rd : (zc Try.prog 66).size = 4 := by kernel_rfl
theorem bld_rd (p q : Option Addr) (n : Nat) (w : World) : (Instr.build 66 #[(0, .slice p n n), (1, .slice q n n), (2, .int .u32 0), (3, .bool false)]).run Try.prog w = .ok (.agg #[.slice p n n, .slice q n n, .int .u32 0, .bool false]) w := run_build _ _ _ _ (by kernel_rfl)
section calls
variable {w : World} {R : Value → World → Prop}
theorem r6_New {n : Nat} (hn : n ≤ 1000) (hK : ∀ bc bg w', w.heap.size ≤ bc → w.heap.size ≤ bg → OwnL cLay w' w.heap.size 57 (some ⟨bc, 0, none⟩) n n (List.replicate n cel0) → OwnL boLay w' w.heap.size 4 (some ⟨bg, 0, none⟩) n n (List.replicate n false) → Keep (fun _ => False) w w' → R (.agg (rdV (bc, bg, n))) w') :
    CallV Try.prog 66 #[.int .i64 (n : Int)] w R := by
  apply C_ravelinref06_New
  unfold F_ravelinref06_New
  refine alc_fresh fun w1 hb1 k1 z1 => ?_
  intro d
  have kd := Keep.drew (fun _ => False) w1 d
  have hb2 := hb1.dr d
  have k02 := k1.trans kd
  have z2 : (w1.dr d).heap.size = w.heap.size + 1 := z1
  generalize w1.dr d = w2 at *
  have hzs : ∀ w', Has w' w.heap.size (.cells (zc Try.prog 66) 66 (0, 0)) → Keep (fun _ => False) w w' → ∀ bc bg, w.heap.size + 1 ≤ bc → w.heap.size + 1 ≤ bg → OwnL cLay w' w.heap.size 57 (some ⟨bc, 0, none⟩) n n (List.replicate n cel0) → OwnL boLay w' w.heap.size 4 (some ⟨bg, 0, none⟩) n n (List.replicate n false) →
      DoQ Try.prog (Instr.build 66 #[(0, .slice (some ⟨bc, 0, none⟩) n n), (1, .slice (some ⟨bg, 0, none⟩) n n), (2, .int .u32 0), (3, .bool false)]) (At w') fun v2 => OpA 4 v2 fun cs => StA 4 w.heap.size 0 cs w' fun w => Hld True (LdA 4 (w1.heap.size - 1) 0 (At w) fun cs1 => Ret [] (R (.agg cs1) w)) := by
    intro w' hb' k' bc bg h1 h2 oc og
    refine DoQ_of (v := .agg (rdV (bc, bg, n))) (fun _ => bld_rd _ _ _ _) (OpA_agg.2 ⟨rfl, ?_⟩)
    refine StA_all hb' rfl zc_rd (one_rdV (bc, bg, n)) ⟨trivial, ?_⟩
    rw [show w1.heap.size - 1 = w.heap.size by omega]
    refine LdA_all (hb'.upd_same _) rfl (Ret_nil.2 ?_)
    have ku : Keep (fun k => k = w.heap.size) w' (w'.upd w.heap.size (.cells (rdV (bc, bg, n)) 66 (0, 0))) := (Keep.refl (fun k => k = w.heap.size) w').upd (fun _ => rfl) _
    exact hK bc bg _ (by omega) (by omega) (oc.keep ku fun k hk e => by cases hk; omega) (og.keep ku fun k hk e => by cases hk; omega) (k'.trans' ku fun i hi e => by omega)
  rw [show w1.heap.size - 1 = w.heap.size by omega] at hzs
  refine ⟨fun _ => True, trivial, ?_, ?_⟩
  · obtain ⟨w3, hr3, o3, k3, z3⟩ := run_mkc w2 hn
    refine ⟨_, _, hr3, OpS_slice.2 ⟨trivial, ?_⟩⟩
    obtain ⟨w4, hr4, o4, k4, z4⟩ := run_mkb w3 hn
    refine ⟨_, _, hr4, OpS_slice.2 ⟨trivial, ?_⟩⟩
    exact hzs w4 ((k3.trans k4).has hb2 (by simp)) ((k02.trans k3).trans k4) _ _ (by omega) (by omega) ((o3.rebase (by omega)).keep k4 (by simp)) (o4.rebase (by omega))
  · obtain ⟨w3, hr3, o3, k3, z3⟩ := run_mkb w2 hn
    refine ⟨_, _, hr3, OpS_slice.2 ⟨trivial, ?_⟩⟩
    obtain ⟨w4, hr4, o4, k4, z4⟩ := run_mkc w3 hn
    refine ⟨_, _, hr4, OpS_slice.2 ⟨trivial, ?_⟩⟩
    exact hzs w4 ((k3.trans k4).has hb2 (by simp)) ((k02.trans k3).trans k4) _ _ (by omega) (by omega) (o4.rebase (by omega)) ((o3.rebase (by omega)).keep k4 (by simp))
theorem r6_On (hK : ∀ w', Keep (fun _ => False) w w' → R (.agg #[.bool false, .int .i64 (-1), .int .i64 0]) w') : CallV Try.prog 43 #[] w R := by
  apply C_ravelinref06_On
  unfold F_ravelinref06_On
  refine alc_fresh fun w1 hb1 k1 z1 => ?_
  refine DoQ_of (v := .agg #[.bool false, .int .i64 (-1), .int .i64 0]) (fun _ => run_build _ _ _ _ (by kernel_rfl)) (OpA_agg.2 ⟨rfl, ?_⟩)
  refine StA_all hb1 rfl (by kernel_rfl) (by intro v hv; have hv : v ∈ [Value.bool false, .int .i64 (-1), .int .i64 0] := hv; simp only [List.mem_cons, List.not_mem_nil, or_false] at hv; rcases hv with rfl | rfl | rfl <;> rfl) ?_
  refine LdA_all (hb1.upd_same _) rfl (Ret_nil.2 (hK _ ?_))
  exact k1.trans' ((Keep.refl (fun k => k = w.heap.size) _).upd (fun _ => rfl) _) fun i hi e => by omega
end calls
end Go.Proofs

/-
  THE REFERENCES' SET: New.
-/
namespace Go.Proofs
open Go Go.Ev
set_option linter.unusedSimpArgs false
set_option linter.unusedVariables false
set_option maxRecDepth 100000

def celN (k : Nat) : Cel := (nul (k : Int)).cel
def FillR (b4 : Nat) (n : Int) (w : World) (K : World → Prop) : Prop :=
  LoopC (σ := Int × Unit) (fun _ s2 w K2 => Cb (decide (s2.1 < n)) (HeldR w fun S w => LdV b4 0 S fun v6 => OpS v6 fun p1 l c => DoQ Try.prog (Instr.build 23 #[]) (At w)
  fun v7 => OpA 16 v7 fun cs5 => CallV Try.prog 75 #[.int .i64 s2.1, .agg cs5] w fun v8 w => OpA 17 v8 fun cs6 => Hld (S w) (IdxS p1 l s2.1 17 fun b5 o => StA 17 b5 o cs6 w
  fun w => Hld (S w) (LdV b4 1 (At w) fun v9 => OpS v9 fun p2 l1 c1 => IdxS p2 l1 s2.1 1 fun b6 o1 => StV b6 o1 (.bool true) w fun w => K2 (IntKind.wrap .i64 (s2.1 + 1), ())
  w))) (K w)) (0, ()) w
section calls
variable {w : World} {R : Value → World → Prop}
theorem fillR {b4 bc bg n base : Nat} (hn : n ≤ 1000) (hb : Has w b4 (.cells (rdV (bc, bg, n)) 66 (0, 0))) (oc : OwnL cLay w base 57 (some ⟨bc, 0, none⟩) n n (List.replicate n cel0)) (og : OwnL boLay w base 4 (some ⟨bg, 0, none⟩) n n (List.replicate n false)) {K : World → Prop}
    (hK : ∀ w', OwnL cLay w' base 57 (some ⟨bc, 0, none⟩) n n (fillN celN cel0 n n) → OwnL boLay w' base 4 (some ⟨bg, 0, none⟩) n n (fillN (fun _ => true) false n n) → Keep (fun k => k = bc ∨ k = bg) w w' → K w') : FillR b4 (n : Int) w K := by
  unfold FillR
  rw [fillN_zero celN] at oc
  rw [fillN_zero (fun _ => true)] at og
  refine LoopC_of (σ := Int × Unit) (fun s w' => ∃ t : Nat, s.1 = (t : Int) ∧ t ≤ n ∧ OwnL cLay w' base 57 (some ⟨bc, 0, none⟩) n n (fillN celN cel0 t n) ∧ OwnL boLay w' base 4 (some ⟨bg, 0, none⟩) n n (fillN (fun _ => true) false t n) ∧ Has w' b4 (.cells (rdV (bc, bg, n)) 66 (0, 0)) ∧ Keep (fun k => k = bc ∨ k = bg) w w') (fun s _ => (n - s.1).toNat)
    ⟨0, rfl, by omega, oc, og, hb, Keep.refl _ _⟩ ?_
  rintro _ ⟨i, u⟩ w1 ⟨t, hi, ht, o1, g1, h1, k1⟩
  simp only at hi ⊢
  subst hi
  refine Cb_of (fun hc => ?_) (fun hc => ?_)
  · have hc : t < n := by
      have : (t : Int) < (n : Int) := by simpa using hc
      omega
    have ek : IntKind.wrap .i64 ((t : Int) + 1) = ((t + 1 : Nat) : Int) := by rw [wrapI (by omega) (by omega)]; omega
    intro d
    have kd := Keep.drew (fun _ => False) w1 d
    have h2 := h1.dr d
    have o2 := o1.keep kd (by simp)
    have g2 := g1.keep kd (by simp)
    have k12 : Keep (fun k => k = bc ∨ k = bg) w (w1.dr d) := k1.dr d
    generalize w1.dr d = w2 at *
    refine ⟨fun w' => Has w' b4 (.cells (rdV (bc, bg, n)) 66 (0, 0)), h2, ?_⟩
    refine LdV_of (v := .slice (some ⟨bc, 0, none⟩) n n) (fun w' hw => ⟨_, _, _, hw, rfl⟩) (OpS_slice.2 ?_)
    refine DoQ_of (fun d => bld_sec0 _) (OpA_agg.2 ⟨rfl, ?_⟩)
    refine r_Seal ⟨by omega, by omega⟩ sec0_ok' fun w3 k3 => OpA_agg.2 ⟨rfl, ⟨k3.has h2 (by simp), ?_⟩⟩
    have o3 := o2.keep k3 (by simp)
    have g3 := g2.keep k3 (by simp)
    have h3 := k3.has h2 (by simp)
    refine o3.stA (i := (t : Int)) (n := 17) rfl (by omega) (by omega) (celN t) rfl fun w4 o4 k4 z4 => ?_
    have h4 := k4.has h3 (OwnL.neH o3 h3 (by decide))
    refine ⟨h4, ?_⟩
    have g4 := g3.keep k4 fun k hk he => OwnL.ne g3 o3 (by decide) hk he
    refine LdV_has (v := .slice (some ⟨bg, 0, none⟩) n n) h4 rfl (OpS_slice.2 ?_)
    refine g4.stF (i := (t : Int)) (n := 1) (t := 0) (x := false) (y := true) (v := .bool true) rfl (by omega) (by rw [Int.toNat_natCast, fillN_at hc, if_neg (by omega)]) (by decide) rfl rfl fun w5 g5 k5 z5 => ?_
    rw [Int.toNat_natCast, fillN_set hc] at o4
    rw [Int.toNat_natCast] at g5
    have g5' := fillN_set (f := fun _ : Nat => true) (z := false) hc
    rw [g5'] at g5
    have o5 := o4.keep k5 fun k hk he => OwnL.ne o4 g4 (by decide) hk he
    have h5 := k5.has h4 (OwnL.neH g4 h4 (by decide))
    refine ⟨_, by show ((n : Int) - IntKind.wrap .i64 ((t : Int) + 1)).toNat < ((n : Int) - (t : Int)).toNat; rw [ek]; omega, ⟨t + 1, ek, by omega, o5, g5, h5, ?_⟩, rfl⟩
    refine (k12.trans (k3.mono fun _ h => h.elim)).trans ((k4.mono fun k hk => ?_).trans (k5.mono fun k hk => ?_))
    · cases hk; exact Or.inl rfl
    · cases hk; exact Or.inr rfl
  · have hc : t = n := by
      have : ¬ (t : Int) < (n : Int) := by simpa using hc
      omega
    subst hc
    exact hK w1 o1 g1 k1
def rsetV (g : Geo) (p : Option Addr) (l c : Nat) : Array Value := #[.int .i64 g.d, .int .i64 g.c, .int .i64 g.s, .slice p l c, .bool false, .int .i64 (-1), .int .i64 0]
theorem one_rsetV (g : Geo) (p : Option Addr) (l c : Nat) : ∀ v ∈ (rsetV g p l c).toList, oneV v = true := by
  intro v hv
  have hv : v ∈ [Value.int .i64 g.d, .int .i64 g.c, .int .i64 g.s, .slice p l c, .bool false, .int .i64 (-1), .int .i64 0] := hv
  simp only [List.mem_cons, List.not_mem_nil, or_false] at hv
  rcases hv with rfl | rfl | rfl | rfl | rfl | rfl | rfl <;> rfl
theorem zc_rset : zc Try.prog 34 = #[.int .i64 0, .int .i64 0, .int .i64 0, .slice none 0 0, .bool false, .int .i64 0, .int .i64 0] := by kernel_rfl
theorem rdLayT : LayT Try.prog rdLay 30 66 56 := ⟨by kernel_rfl, ⟨(Try.prog.info? 66).get (by kernel_rfl), ((Try.prog.info? 66).get (by kernel_rfl)).zero.get (by kernel_rfl), by kernel_rfl, by kernel_rfl, by kernel_rfl, by kernel_rfl, by kernel_rfl⟩⟩
theorem bsl_rd1 (x : Nat × Nat × Nat) (w : World) : (Instr.buildSlice 30 1 #[(0, .agg (rdV x))]).run Try.prog w = .ok (.slice (some ⟨w.heap.size, 0, none⟩) 1 1) (w.alloc (.cells (rdV x) 66)) :=
  run_buildSlice w 30 66 1 _ (rdV x) ((Try.prog.info? 66).get (by kernel_rfl)) (((Try.prog.info? 66).get (by kernel_rfl)).zero.get (by kernel_rfl)) (by kernel_rfl) (by kernel_rfl) (by kernel_rfl) (by decide +kernel) (by decide +kernel) (by kernel_rfl)
/-- the references' new set -/
structure RSet (w : World) (B : Nat) (p : Option Addr) (d c n : Nat) (xs : List (Nat × Nat × Nat)) : Prop where
  row : OwnL rdLay w B 66 p d c xs
  cells : ∀ x ∈ xs, x.2.2 = n ∧ OwnL cLay w B 57 (some ⟨x.1, 0, none⟩) n n (fillN celN cel0 n n)
  goods : ∀ x ∈ xs, OwnL boLay w B 4 (some ⟨x.2.1, 0, none⟩) n n (fillN (fun _ => true) false n n)
theorem RSet.keep {w w' : World} {B : Nat} {p : Option Addr} {d c n : Nat} {xs : List (Nat × Nat × Nat)} (h : RSet w B p d c n xs) {S : Nat → Prop} (k : Keep S w w') (hS : ∀ b cs t, Has w b (.cells cs t (0, 0)) → t = 66 ∨ t = 57 ∨ t = 4 → B ≤ b → ¬ S b) : RSet w' B p d c n xs := by
  have own : ∀ {α : Type} {L : Lay α} {e : TypeId} {q : Option Addr} {l m : Nat} {ys : List α}, OwnL L w B e q l m ys → e = 66 ∨ e = 57 ∨ e = 4 → OwnL L w' B e q l m ys := by
    intro α L e q l m ys o he
    refine o.keep k fun k hk hs => ?_
    rcases Own.cases o with ⟨h0, _⟩ | ⟨b', cur, h0, hb', hg, _⟩
    · rw [h0] at hk; cases hk
    · rw [h0] at hk
      cases hk
      exact hS _ _ _ hg he hb' hs
  exact ⟨own h.row (Or.inl rfl), fun x hx => ⟨(h.cells x hx).1, own (h.cells x hx).2 (Or.inr (Or.inl rfl))⟩, fun x hx => own (h.goods x hx) (Or.inr (Or.inr rfl))⟩
theorem RSet.keep0 {w w' : World} {B : Nat} {p : Option Addr} {d c n : Nat} {xs : List (Nat × Nat × Nat)} (h : RSet w B p d c n xs) (k : Keep (fun _ => False) w w') : RSet w' B p d c n xs := h.keep k fun _ _ _ _ _ _ h => h
theorem r9_New {g : Geo} (hg : GeoOk g) (hK : ∀ p c xs w', RSet w' w.heap.size p g.d.toNat c (g.c * g.s).toNat xs → Keep (fun _ => False) w w' → R (.agg (rsetV g p g.d.toNat c)) w') :
    CallV Try.prog 42 #[.agg (geoV g), .agg #[.bool false, .int .i64 (-1), .int .i64 0]] w R := by
  apply C_ravelinref09_New
  unfold F_ravelinref09_New
  have hsz := hg.size
  have hgd := hg.d
  refine alc_fresh fun w1 hb1 k1 z1 => ?_
  refine alc_fresh fun w2 hb2 k2 z2 => ?_
  refine alc_fresh fun w3 hb3 k3 z3 => ?_
  refine LdA_all ((k2.trans k3).has hb1 (by simp)) rfl ?_
  refine LdA_all (k3.has hb2 (by simp)) rfl ?_
  refine DoQ_of (v := .agg (rsetV g none 0 0)) (fun _ => run_build _ _ _ _ (by kernel_rfl)) (OpA_agg.2 ⟨rfl, ?_⟩)
  refine copy_of (by rw [zc_rset]; rfl) rfl (one_rsetV g none 0 0) fun w4 hb4 k4 z4 => ?_
  have hg4 := ((k2.trans k3).trans k4).has hb1 (by simp)
  have hr4 := k4.has hb3 (by simp)
  have k04 := ((k1.trans k2).trans k3).trans k4
  refine LdA_all hg4 rfl ?_
  refine r3_Size hg fun w5 k5 => ?_
  refine T2_mk.2 (OpI_int.2 (OpI_int.2 ?_))
  have hn : g.c * g.s = (((g.c * g.s).toNat : Nat) : Int) := by omega
  rw [hn]
  have hn1 : (g.c * g.s).toNat ≤ 1000 := by omega
  generalize (g.c * g.s).toNat = n at *
  have k05 := k04.trans k5
  have hg5 := k5.has hg4 (by simp)
  have hr5 := k5.has hr4 (by simp)
  have hs5 := k5.has hb4 (by simp)
  have z5 := k05.size
  have zb : w.heap.size < w2.heap.size ∧ w2.heap.size < w3.heap.size := by omega
  generalize hbs : w3.heap.size = bs at *
  generalize hbr : w2.heap.size = br at *
  generalize hB : w.heap.size = B at *
  refine LoopC_of (σ := Int × Unit) (fun s w' => ∃ (i : Nat) (p : Option Addr) (c : Nat) (xs : List (Nat × Nat × Nat)), s.1 = (i : Int) ∧ i ≤ g.d.toNat ∧ RSet w' B p i c n xs ∧ Has w' B (.cells (geoV g) 25 (0, 0)) ∧ Has w' br (.cells (zc Try.prog 34) 34 (0, 0)) ∧ Has w' bs (.cells (rsetV g p i c) 34 (0, 0)) ∧ Keep (fun _ => False) w w') (fun s _ => (g.d - s.1).toNat)
    ⟨0, none, 0, [], rfl, by omega, ⟨OwnL.nil, by simp, by simp⟩, hg5, hr5, hs5, k05⟩ ?_
  rintro _ ⟨i, u⟩ w6 ⟨i', p, c, xs, hi, hil, hR, hg6, hr6, hs6, k6⟩
  simp only at hi ⊢
  subst hi
  have z6 := k6.size
  refine LdV_has (v := .int .i64 g.d) hg6 rfl (OpI_int.2 ?_)
  refine Cb_of (fun hc => ?_) (fun hc => ?_)
  · have hc : i' < g.d.toNat := by
      have : (i' : Int) < g.d := by simpa using hc
      omega
    have ek : IntKind.wrap .i64 ((i' : Int) + 1) = ((i' + 1 : Nat) : Int) := by rw [wrapI (by omega) (by omega)]; omega
    refine r6_New hn1 fun bc bg w7 hbc hbg oc og k7 => OpA_agg.2 ⟨rfl, ?_⟩
    refine copy_of zc_rd rfl (one_rdV (bc, bg, n)) fun w8 hb8 k8 z8 => ?_
    have k68 := k7.trans k8
    have z7 := k7.size
    refine fillR hn1 hb8 (oc.keep k8 (by simp)) (og.keep k8 (by simp)) fun w9 oc9 og9 k9 => ?_
    have k69 : Keep (fun _ => False) w6 w9 := k68.trans' k9 fun i hi e => by rcases e with e | e <;> omega
    have hb9 : Has w9 w7.heap.size (.cells (rdV (bc, bg, n)) 66 (0, 0)) := k9.has hb8 (fun e => by
      have l1 := (oc.lt rfl).2
      have l2 := (og.lt rfl).2
      rcases e with e | e <;> omega)
    have hR9 := hR.keep0 k69
    have hs9 := k69.has hs6 (by simp)
    refine LdV_has (v := .slice p i' c) hs9 rfl (OpS_slice.2 ?_)
    refine LdA_all hb9 rfl ?_
    refine ⟨_, _, bsl_rd1 _ w9, OpS_slice.2 ?_⟩
    have k10 := Keep.new (fun _ => False) w9 (.cells (rdV (bc, bg, n)) 66)
    have hb10 := Has.new w9 (.cells (rdV (bc, bg, n)) 66)
    generalize w9.alloc (.cells (rdV (bc, bg, n)) 66) = w10 at *
    have hR10 := hR9.keep0 k10
    have k610 := k69.trans k10
    have k010 := k6.trans k610
    have z10 := k010.size
    obtain ⟨p11, c11, w11, hr11, o11, k11, _⟩ := run_appendF1 rdLayT hR10.row (y := (bc, bg, n)) hb10 rfl (ty := 30) (by omega) (by simp only [maxLen]; omega) (by omega) (c2 := 1)
    refine ⟨_, _, hr11, OpS_slice.2 ?_⟩
    have k011 : Keep (fun _ => False) w w11 := k010.trans' k11 fun i hi e => by have := (hR10.row.lt e).1; omega
    have hs10 := k10.has hs9 (by simp)
    have hs11 := k11.has hs10 (OwnL.neH hR10.row hs10 (by decide))
    have hg10 := k610.has hg6 (by simp)
    have hr10 := k610.has hr6 (by simp)
    have hg11 := k11.has hg10 (OwnL.neH hR10.row hg10 (by decide))
    have hr11' := k11.has hr10 (OwnL.neH hR10.row hr10 (by decide))
    have ocB : OwnL cLay w11 B 57 (some ⟨bc, 0, none⟩) n n (fillN celN cel0 n n) := by
      have oc10 := (oc9.keep k10 (by simp))
      exact (oc10.keep k11 fun k hk he => OwnL.ne oc10 hR10.row (by decide) hk he).rebase (by omega)
    have hcl : ∀ x ∈ xs ++ [(bc, bg, n)], x.2.2 = n ∧ OwnL cLay w11 B 57 (some ⟨x.1, 0, none⟩) n n (fillN celN cel0 n n) := by
      intro x hx
      rcases List.mem_append.1 hx with hx | hx
      · refine ⟨(hR10.cells x hx).1, (hR10.cells x hx).2.keep k11 fun k hk he => OwnL.ne (hR10.cells x hx).2 hR10.row (by decide) hk he⟩
      · rw [List.mem_singleton.1 hx]
        exact ⟨rfl, ocB⟩
    have ogB : OwnL boLay w11 B 4 (some ⟨bg, 0, none⟩) n n (fillN (fun _ => true) false n n) := by
      have og10 := (og9.keep k10 (by simp))
      exact (og10.keep k11 fun k hk he => OwnL.ne og10 hR10.row (by decide) hk he).rebase (by omega)
    have hgl : ∀ x ∈ xs ++ [(bc, bg, n)], OwnL boLay w11 B 4 (some ⟨x.2.1, 0, none⟩) n n (fillN (fun _ => true) false n n) := by
      intro x hx
      rcases List.mem_append.1 hx with hx | hx
      · exact (hR10.goods x hx).keep k11 fun k hk he => OwnL.ne (hR10.goods x hx) hR10.row (by decide) hk he
      · rw [List.mem_singleton.1 hx]
        exact ogB
    have hR11 : RSet w11 B p11 (i' + 1) c11 n (xs ++ [(bc, bg, n)]) := ⟨o11, hcl, hgl⟩
    refine StV_of hs11 (by show 3 < 7; decide) rfl ?_
    have hs12 := hs11.upd_same (.cells (rsetV g p11 (i' + 1) c11) 34 (0, 0))
    have ku : Keep (fun k => k = bs) w11 (w11.upd bs (.cells (rsetV g p11 (i' + 1) c11) 34 (0, 0))) := (Keep.refl (fun k => k = bs) w11).upd (fun _ => rfl) _
    refine ⟨_, by show (g.d - IntKind.wrap .i64 ((i' : Int) + 1)).toNat < (g.d - (i' : Int)).toNat; rw [ek]; omega, ⟨i' + 1, p11, c11, _, ek, by omega, hR11.keep ku ?_, ku.has hg11 (by omega), ku.has hr11' (by omega), hs12, ?_⟩, rfl⟩
    · intro b cs t hb ht _ e
      subst e
      refine hb.ne hs11 ?_ rfl
      rcases ht with rfl | rfl | rfl
      · simp only [ne_eq, Obj.cells.injEq]; intro e; exact absurd e.2.1 (by decide)
      · simp only [ne_eq, Obj.cells.injEq]; intro e; exact absurd e.2.1 (by decide)
      · simp only [ne_eq, Obj.cells.injEq]; intro e; exact absurd e.2.1 (by decide)
    · exact k011.trans' ku fun i hi e => by omega
  · have hc : i' = g.d.toNat := by
      have : ¬ (i' : Int) < g.d := by simpa using hc
      omega
    subst hc
    refine LdA_all hs6 rfl ?_
    refine StA_all hr6 rfl (by rw [zc_rset]; rfl) (one_rsetV _ _ _ _) ?_
    refine LdA_all (hr6.upd_same _) rfl (Ret_nil.2 (hK p c xs _ ?_ ?_))
    · refine hR.keep ((Keep.refl (fun k => k = br) w6).upd (fun _ => rfl) _) ?_
      intro b cs t hb ht _ e
      subst e
      refine hb.ne hr6 ?_ rfl
      rcases ht with rfl | rfl | rfl
      · simp only [ne_eq, Obj.cells.injEq]; intro e; exact absurd e.2.1 (by decide)
      · simp only [ne_eq, Obj.cells.injEq]; intro e; exact absurd e.2.1 (by decide)
      · simp only [ne_eq, Obj.cells.injEq]; intro e; exact absurd e.2.1 (by decide)
    · exact k6.trans' ((Keep.refl (fun k => k = br) w6).upd (fun _ => rfl) _) fun i hi e => by omega
end calls
end Go.Proofs
