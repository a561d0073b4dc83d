/-
  What was packed is read again.
-/
import Derived.Test.YthhimblbnnafkaaGreatScan
namespace Go.Proofs
open Go Go.Ev
set_option linter.unusedSimpArgs false
set_option linter.unusedVariables false
set_option maxRecDepth 100000

theorem or_u64 {a b : Nat} (ha : a < 2 ^ 56) (hb : b < 256) : ibits .or .u64 (ishl .u64 (a : Int) 8) (IntKind.wrap .u64 (b : Int)) = ((a * 256 + b : Nat) : Int) := by
  have e1 : ishl .u64 (a : Int) 8 = ((a * 256 : Nat) : Int) := by
    unfold ishl
    show IntKind.wrap .u64 ((a : Int) * 2 ^ (min 8 64)) = _
    have : ((a : Int) * 2 ^ (min 8 64)) = ((a * 256 : Nat) : Int) := by simp
    rw [this, wrapU64 (by omega) (by omega)]
  have e2 : IntKind.wrap .u64 (b : Int) = (b : Int) := wrapU64 (by omega) (by omega)
  rw [e1, e2]
  show IntKind.wrap .u64 ((BitVec.ofInt 64 _ ||| BitVec.ofInt 64 _).toNat : Int) = _
  have o : ∀ n : Nat, BitVec.ofInt 64 (n : Int) = BitVec.ofNat 64 n := fun n => by simp
  rw [o, o, BitVec.toNat_or, BitVec.toNat_ofNat, BitVec.toNat_ofNat, Nat.mod_eq_of_lt (by omega), Nat.mod_eq_of_lt (by omega)]
  have : a * 256 ||| b = a * 256 + b := by
    have := Nat.shiftLeft_add_eq_or_of_lt (show b < 2 ^ 8 by omega) a
    rw [Nat.shiftLeft_eq] at this
    exact this.symm
  rw [this, wrapU64 (by omega) (by omega)]
theorem byte_of {n i : Nat} (hi : i < 8) : IntKind.wrap .u8 (ishr .u64 (n : Int) (8 * (i : Int))) = ((n / 256 ^ i % 256 : Nat) : Int) := by
  have e : ishr .u64 (n : Int) (8 * (i : Int)) = ((n / 256 ^ i : Nat) : Int) := by
    unfold ishr
    show Int.fdiv (n : Int) (2 ^ (min (8 * (i : Int)).toNat 64)) = _
    rw [show (8 * (i : Int)).toNat = 8 * i by omega, Nat.min_eq_left (by omega)]
    have e2 : (2 : Int) ^ (8 * i) = ((256 ^ i : Nat) : Int) := by
      rw [Int.pow_mul]; simp
    rw [e2]
    generalize 256 ^ i = p
    rw [Int.fdiv_eq_ediv_of_nonneg _ (by omega)]
    exact (Int.natCast_ediv n p).symm
  rw [e]
  generalize n / 256 ^ i = q
  simp [IntKind.wrap, IntKind.signed, IntKind.bits]
theorem fold_low (n : Nat) : ∀ i, i ≤ 8 → ∀ a : Nat, a * 256 ^ i < 2 ^ 64 → (lowB (n : Int) i).foldl (fun a b => ibits .or .u64 (ishl .u64 a 8) (IntKind.wrap .u64 b)) (a : Int) = ((a * 256 ^ i + n % 256 ^ i : Nat) : Int)
  | 0, _, a, _ => by simp [lowB, Nat.mod_one]
  | i + 1, hi, a, ha => by
    unfold lowB
    rw [List.foldl_cons, byte_of (by omega)]
    have hp : 0 < 256 ^ i := Nat.pow_pos (by decide)
    have hm : n / 256 ^ i % 256 < 256 := Nat.mod_lt _ (by decide)
    have ha' : a < 2 ^ 56 := by
      have h1 : a * 256 ≤ a * 256 ^ (i + 1) := by
        rw [Nat.pow_succ]
        exact Nat.mul_le_mul_left _ (by omega)
      omega
    rw [or_u64 ha' hm, fold_low n i (by omega)]
    · congr 1
      rw [Nat.pow_succ, Nat.mod_mul, Nat.add_mul, Nat.mul_assoc, Nat.mul_comm 256 (256 ^ i)]
      generalize n / 256 ^ i % 256 = q
      rw [Nat.mul_comm q]
      omega
    · have e8 : (2 : Nat) ^ 64 = 256 ^ (7 - i) * 256 ^ (i + 1) := by
        rw [← Nat.pow_add, show 7 - i + (i + 1) = 8 by omega]
      rw [e8] at ha ⊢
      have hlt : a < 256 ^ (7 - i) := Nat.lt_of_mul_lt_mul_right ha
      have h1 : (a * 256 + n / 256 ^ i % 256) * 256 ^ i < (a + 1) * 256 * 256 ^ i := by
        refine Nat.mul_lt_mul_of_pos_right ?_ hp
        omega
      have h2 : (a + 1) * 256 * 256 ^ i = (a + 1) * 256 ^ (i + 1) := by rw [Nat.pow_succ, Nat.mul_assoc, Nat.mul_comm 256]
      have h3 : (a + 1) * 256 ^ (i + 1) ≤ 256 ^ (7 - i) * 256 ^ (i + 1) := Nat.mul_le_mul_right _ hlt
      omega
theorem read_low {n : Nat} (hn : n < 2 ^ 64) : readB (lowB (n : Int) 8) = (n : Int) := by
  have h := fold_low n 8 (Nat.le_refl _) 0 (by decide)
  have e : (256 : Nat) ^ 8 = 2 ^ 64 := by decide
  have h : readB (lowB (n : Int) 8) = ((0 * 256 ^ 8 + n % 256 ^ 8 : Nat) : Int) := h
  rw [h, e, Nat.zero_mul, Nat.zero_add, Nat.mod_eq_of_lt hn]
/-- what was packed is read again, whatever stands behind it -/
theorem un_pack {r : Rec} (hg : recGood r = true) (hv : 0 ≤ r.ver ∧ r.ver ≤ 18446744073709551615) (hs : SecOk r.data) (t : List Int) : unB (packB r ++ t) = r := by
  unfold recGood at hg
  simp only [Bool.and_eq_true, decide_eq_true_eq] at hg
  obtain ⟨⟨⟨h1, h2⟩, h3⟩, h4⟩ := hg
  obtain ⟨kind, ver, lba, data⟩ := r
  simp only at h1 h2 h3 h4 hv hs
  have ek : IntKind.wrap .u8 kind = kind := wrapU8 (by omega) (by omega)
  have el : IntKind.wrap .u64 lba = lba := wrapU64 (by omega) (by omega)
  have hb : ∃ t', packB ⟨kind, ver, lba, data⟩ ++ t = kind :: (lowB ver 8 ++ (lowB lba 8 ++ (secB data ++ t'))) := by
    refine ⟨lowB (IntKind.wrap .u64 (crcS (bareB ⟨kind, ver, lba, data⟩))) 4 ++ t, ?_⟩
    unfold packB sealB
    have : bareB ⟨kind, ver, lba, data⟩ = kind :: (lowB ver 8 ++ lowB lba 8 ++ secB data) := by unfold bareB; rw [ek, el]
    rw [this]
    simp
  obtain ⟨t', hb⟩ := hb
  rw [hb]
  unfold unB
  have hver : readB ((((kind :: (lowB ver 8 ++ (lowB lba 8 ++ (secB data ++ t')))).take 9).drop 1)) = ver := by
    have : (((kind :: (lowB ver 8 ++ (lowB lba 8 ++ (secB data ++ t')))).take 9).drop 1) = lowB ver 8 := by
      rw [List.take_succ_cons, List.drop_succ_cons, List.drop_zero, List.take_left' (by simp)]
    rw [this]
    have := read_low (n := ver.toNat) (by omega)
    rw [show ((ver.toNat : Nat) : Int) = ver by omega] at this
    exact this
  have hlba : readB ((((kind :: (lowB ver 8 ++ (lowB lba 8 ++ (secB data ++ t')))).take 17).drop 9)) = lba := by
    have : (((kind :: (lowB ver 8 ++ (lowB lba 8 ++ (secB data ++ t')))).take 17).drop 9) = lowB lba 8 := by
      rw [List.take_succ_cons, List.drop_succ_cons, List.take_append, List.take_of_length_le (by simp), len_lowB, show 16 - 8 = 8 from rfl, List.drop_left' (by simp), List.take_left' (by simp)]
    rw [this]
    have := read_low (n := lba.toNat) (by omega)
    rw [show ((lba.toNat : Nat) : Int) = lba by omega] at this
    exact this
  rw [hver, hlba]
  have e1 : IntKind.wrap .i64 ((kind :: (lowB ver 8 ++ (lowB lba 8 ++ (secB data ++ t')))).getD 0 0) = kind := by
    show IntKind.wrap .i64 kind = kind
    exact wrapI (by omega) (by omega)
  have e2 : IntKind.wrap .i64 lba = lba := wrapI (by omega) (by omega)
  rw [e1, e2]
  congr 1
  funext k
  match k with
  | ⟨0, _⟩ => rfl | ⟨1, _⟩ => rfl | ⟨2, _⟩ => rfl | ⟨3, _⟩ => rfl | ⟨4, _⟩ => rfl | ⟨5, _⟩ => rfl | ⟨6, _⟩ => rfl | ⟨7, _⟩ => rfl
  | ⟨8, _⟩ => rfl | ⟨9, _⟩ => rfl | ⟨10, _⟩ => rfl | ⟨11, _⟩ => rfl | ⟨12, _⟩ => rfl | ⟨13, _⟩ => rfl | ⟨14, _⟩ => rfl | ⟨15, _⟩ => rfl
  | ⟨n + 16, hn⟩ => exact absurd hn (by omega)
theorem un_good {r : Rec} (hg : recGood r = true) (hv : 0 ≤ r.ver ∧ r.ver ≤ 18446744073709551615) (hs : SecOk r.data) (t : List Int) : unGood (packB r ++ t) := by
  unfold unGood
  rw [un_pack hg hv hs]
  exact ⟨hg, by rw [List.take_left' (by simp)]⟩
/-- records one behind the other, and a torn one -/
theorem scan_packs : ∀ (rs : List Rec) (t : List Int) (n : Nat), (∀ r ∈ rs, recGood r = true ∧ (0 ≤ r.ver ∧ r.ver ≤ 18446744073709551615) ∧ SecOk r.data) → t.length < 37 → rs.length < n → scanF n (rs.flatMap packB ++ t) = rs
  | [], t, n + 1, _, ht, _ => by
    show (if _ then _ else _) = _
    rw [if_neg (by simp; omega)]
  | r :: rs, t, n + 1, h, ht, hn => by
    obtain ⟨h1, h2, h3⟩ := h r (by simp)
    have e : (r :: rs).flatMap packB ++ t = packB r ++ (rs.flatMap packB ++ t) := by simp
    rw [e]
    show (if _ then _ else _) = _
    rw [if_pos ⟨by rw [List.length_append, len_packB]; omega, un_good h1 h2 h3 _⟩, un_pack h1 h2 h3, List.drop_left' (by simp), scan_packs rs t n (fun x hx => h x (by simp [hx])) ht (by simp at hn; omega)]
  | _, _, 0, _, _, h => by simp at h
end Go.Proofs
