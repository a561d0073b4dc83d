/-
  HISTORIES, PLAIN: events of one sector, states that some order reaches, bits of small numbers. No program is named here.
-/
import Derived.Test.YtdjlmpkjdgmkkaaData
namespace Go.Proofs
open Go Go.Ev
set_option linter.unusedSimpArgs false
set_option linter.unusedVariables false

structure Evt where
  wr : Bool
  val : Sec
  fr : Int
  to : Int
instance : Inhabited Evt := ⟨⟨false, fun _ => 0, 0, 0⟩⟩
/-- which events have been done, and which one wrote last (-1: none) -/
abbrev Stt := Nat × Int

section plain
variable (evs : List Evt) (start : Sec)
def cur (l : Int) : Sec := if 0 ≤ l then (evs.getD l.toNat default).val else start
def Blk (d i : Nat) : Prop := ∃ (j : Nat) (x : Evt), evs[j]? = some x ∧ d.testBit j = false ∧ 0 ≤ x.to ∧ x.to < (evs.getD i default).fr
def May (s : Stt) (i : Nat) : Prop := ∃ x, evs[i]? = some x ∧ s.1.testBit i = false ∧ (x.wr = true ∨ (0 ≤ x.to ∧ x.val = cur evs start s.2)) ∧ ¬ Blk evs s.1 i
def nxt (s : Stt) (i : Nat) : Stt := (s.1 ||| 2 ^ i, if (evs.getD i default).wr = true then (i : Int) else s.2)
inductive Reach : Stt → Prop
  | start : Reach (0, -1)
  | step {s : Stt} {i : Nat} : Reach s → May evs start s i → Reach (nxt evs s i)
def Cmp (s : Stt) : Prop := ∀ (i : Nat) (x : Evt), evs[i]? = some x → 0 ≤ x.to → s.1.testBit i = true
/-- is there an order of all that was answered? -/
def Ord : Prop := ∃ s, Reach evs start s ∧ Cmp evs s
/-- what the sector may hold in the end -/
def Holds21 (v : Sec) : Prop := ∃ s, Reach evs start s ∧ Cmp evs s ∧ v = cur evs start s.2
end plain
section facts
variable {evs : List Evt} {start : Sec}
theorem nxt_lt {s : Stt} {i n : Nat} (h : s.1 < 2 ^ n) (hi : i < n) : (nxt evs s i).1 < 2 ^ n := Nat.or_lt_two_pow h (Nat.pow_lt_pow_right (by decide) hi)
theorem nxt_gt {s : Stt} {i : Nat} (h : s.1.testBit i = false) : s.1 < (nxt evs s i).1 := by
  have h1 : s.1 ≤ s.1 ||| 2 ^ i := Nat.left_le_or
  have h2 : s.1 ≠ s.1 ||| 2 ^ i := fun e => by
    have : (s.1 ||| 2 ^ i).testBit i = true := by rw [Nat.testBit_or, Nat.testBit_two_pow]; simp
    rw [← e, h] at this; cases this
  show s.1 < s.1 ||| 2 ^ i
  omega
theorem Reach.small {s : Stt} (h : Reach evs start s) : s.1 < 2 ^ evs.length ∧ -1 ≤ s.2 ∧ s.2 < evs.length := by
  induction h with
  | start => exact ⟨Nat.two_pow_pos _, by simp, by simp; omega⟩
  | step h hm ih =>
    rename_i s i
    obtain ⟨x, hx, _⟩ := hm
    have hi := (List.getElem?_eq_some_iff.1 hx).1
    refine ⟨nxt_lt ih.1 hi, ?_⟩
    unfold nxt
    simp only
    split
    · omega
    · exact ih.2
/-- a set of states that is closed under steps holds all that is reached -/
theorem reach_all {ks : List Stt} (h0 : (0, -1) ∈ ks) (hc : ∀ t ∈ ks, ∀ i, May evs start t i → nxt evs t i ∈ ks) {s : Stt} (h : Reach evs start s) : s ∈ ks := by
  induction h with
  | start => exact h0
  | step h hm ih => exact hc _ ih _ hm
theorem nodup_len {α : Type} [DecidableEq α] : ∀ {l L : List α}, l.Nodup → (∀ x ∈ l, x ∈ L) → l.length ≤ L.length
  | [], _, _, _ => Nat.zero_le _
  | a :: l, L, hn, hs => by
    obtain ⟨h1, h2⟩ := List.nodup_cons.1 hn
    have ha : a ∈ L := hs a (by simp)
    have := nodup_len (l := l) (L := L.erase a) h2 fun x hx => (List.mem_erase_of_ne fun e => h1 (by rw [← e]; exact hx)).2 (hs x (by simp [hx]))
    rw [List.length_erase_of_mem ha] at this
    have : 0 < L.length := List.length_pos_of_mem ha
    simp only [List.length_cons]
    omega
theorem reach_count {ks : List Stt} (hn : ks.Nodup) (hr : ∀ t ∈ ks, Reach evs start t) (hl : evs.length ≤ 10) : ks.length ≤ 12000 := by
  have := nodup_len (L := (List.range 1024).flatMap fun d => (List.range 11).map fun l : Nat => ((d, (l : Int) - 1) : Stt)) hn fun t ht => by
    obtain ⟨h1, h2, h3⟩ := (hr t ht).small
    rw [List.mem_flatMap]
    refine ⟨t.1, List.mem_range.2 (Nat.lt_of_lt_of_le h1 (Nat.le_trans (Nat.pow_le_pow_right (by decide) hl) (by decide))), List.mem_map.2 ⟨(t.2 + 1).toNat, List.mem_range.2 (by omega), ?_⟩⟩
    refine Prod.ext rfl ?_
    show (((t.2 + 1).toNat : Nat) : Int) - 1 = t.2
    omega
  have e : ((List.range 1024).flatMap fun d => (List.range 11).map fun l : Nat => ((d, (l : Int) - 1) : Stt)).length = 11264 := by
    rw [List.length_flatMap]
    simp only [List.length_map, List.length_range, List.map_const', List.sum_replicate_nat]
  omega
end facts

/-! ### bits -/
theorem ofInt_nat (a : Nat) : BitVec.ofInt 64 (a : Int) = BitVec.ofNat 64 a := by simp
theorem ibits_and {a b : Nat} (ha : a < 4611686018427387904) : ibits .and .i64 (a : Int) (b : Int) = ((a &&& (b % 18446744073709551616) : Nat) : Int) := by
  show IntKind.wrap .i64 ((BitVec.ofInt 64 _ &&& BitVec.ofInt 64 _).toNat : Int) = _
  rw [ofInt_nat, ofInt_nat, BitVec.toNat_and, BitVec.toNat_ofNat, BitVec.toNat_ofNat, Nat.mod_eq_of_lt (show a < 2 ^ 64 by omega)]
  have : a &&& (b % 2 ^ 64) ≤ a := Nat.and_le_left
  rw [wrapI (by omega) (by omega)]
theorem ibits_or {a b : Nat} (ha : a < 2 ^ 62) (hb : b < 2 ^ 62) : ibits .or .i64 (a : Int) (b : Int) = ((a ||| b : Nat) : Int) := by
  show IntKind.wrap .i64 ((BitVec.ofInt 64 _ ||| BitVec.ofInt 64 _).toNat : Int) = _
  rw [ofInt_nat, ofInt_nat, BitVec.toNat_or, BitVec.toNat_ofNat, BitVec.toNat_ofNat, Nat.mod_eq_of_lt (show a < 2 ^ 64 by omega), Nat.mod_eq_of_lt (show b < 2 ^ 64 by omega)]
  have : a ||| b < 2 ^ 62 := Nat.or_lt_two_pow ha hb
  rw [wrapI (by omega) (by omega)]
theorem ishl_one {i : Nat} (hi : i ≤ 60) : ishl .i64 1 (i : Int) = ((2 ^ i : Nat) : Int) := by
  unfold ishl
  simp only [IntKind.bits, Int.toNat_natCast]
  rw [Nat.min_eq_left (by omega), Int.one_mul]
  have h1 : 2 ^ i ≤ 2 ^ 60 := Nat.pow_le_pow_right (by decide) hi
  have e : (2 : Int) ^ i = ((2 ^ i : Nat) : Int) := by simp
  rw [e]
  generalize 2 ^ i = p at *
  rw [wrapI (by omega) (by omega)]
theorem ishr_nat {d i : Nat} (hi : i ≤ 60) : ishr .i64 (d : Int) (i : Int) = ((d / 2 ^ i : Nat) : Int) := by
  unfold ishr
  simp only [IntKind.bits, Int.toNat_natCast]
  rw [Nat.min_eq_left (by omega)]
  have e : (2 : Int) ^ i = ((2 ^ i : Nat) : Int) := by simp
  rw [e]
  generalize 2 ^ i = p
  rw [Int.fdiv_eq_ediv_of_nonneg _ (by omega)]
  exact (Int.natCast_ediv d p).symm
theorem bit_at {d i : Nat} (hd : d < 2 ^ 60) (hi : i ≤ 60) : ibits .and .i64 (ishr .i64 (d : Int) (i : Int)) 1 = if d.testBit i then 1 else 0 := by
  rw [ishr_nat hi]
  have hle : d / 2 ^ i ≤ d := Nat.div_le_self _ _
  have := ibits_and (a := d / 2 ^ i) (b := 1) (by omega)
  rw [show ((1 : Nat) : Int) = 1 from rfl] at this
  rw [this, show (1 : Nat) % 18446744073709551616 = 1 from rfl, Nat.and_one_is_mod, Nat.testBit_eq_decide_div_mod_eq]
  have : d / 2 ^ i % 2 < 2 := Nat.mod_lt _ (by decide)
  by_cases h : d / 2 ^ i % 2 = 1
  · simp [h]
  · have h0 : d / 2 ^ i % 2 = 0 := by omega
    simp [h0]
theorem bit_one {d i : Nat} (hd : d < 2 ^ 60) (hi : i ≤ 60) : (ibits .and .i64 (ishr .i64 (d : Int) (i : Int)) 1 == 1) = d.testBit i := by
  rw [bit_at hd hi]; cases d.testBit i <;> rfl
theorem bit_zero {d i : Nat} (hd : d < 2 ^ 60) (hi : i ≤ 60) : (ibits .and .i64 (ishr .i64 (d : Int) (i : Int)) 1 == 0) = !d.testBit i := by
  rw [bit_at hd hi]; cases d.testBit i <;> rfl
theorem bit_set {d i : Nat} (hd : d < 2 ^ 60) (hi : i ≤ 60) : ibits .or .i64 (d : Int) (ishl .i64 1 (i : Int)) = ((d ||| 2 ^ i : Nat) : Int) := by
  rw [ishl_one hi, ibits_or (by omega) (Nat.lt_of_le_of_lt (Nat.pow_le_pow_right (by decide) hi) (by decide))]
/-- all of a's bits are d's -/
theorem bits_sub {a d : Nat} (ha : a < 2 ^ 60) : (ibits .andNot .i64 (a : Int) (d : Int) == 0) = true ↔ ∀ i, i < 60 → a.testBit i = true → (d % 2 ^ 64).testBit i = true := by
  show (IntKind.wrap .i64 ((BitVec.ofInt 64 _ &&& ~~~ BitVec.ofInt 64 _).toNat : Int) == 0) = true ↔ _
  rw [ofInt_nat, ofInt_nat]
  have hv : ∀ i, (BitVec.ofNat 64 a &&& ~~~ BitVec.ofNat 64 d).toNat.testBit i = (decide (i < 64) && (a.testBit i && !(d % 2 ^ 64).testBit i)) := by
    intro i
    rw [← BitVec.getLsbD]
    rw [BitVec.getLsbD_and, BitVec.getLsbD_not, BitVec.getLsbD_ofNat, BitVec.getLsbD_ofNat, Nat.testBit_mod_two_pow]
    cases decide (i < 64) <;> simp
  generalize hV : (BitVec.ofNat 64 a &&& ~~~ BitVec.ofNat 64 d).toNat = v at *
  have hva : v ≤ a := by
    rw [← hV, BitVec.toNat_and, BitVec.toNat_ofNat, Nat.mod_eq_of_lt (show a < 2 ^ 64 by omega)]
    exact Nat.and_le_left
  rw [wrapI (by omega) (by omega)]
  have hz : ((v : Int) == 0) = true ↔ v = 0 := by simp
  rw [hz]
  constructor
  · rintro rfl i hi hai
    have := hv i
    rw [Nat.zero_testBit, hai] at this
    simp [show i < 64 by omega] at this
    exact this
  · intro h
    apply Nat.eq_of_testBit_eq
    intro i
    rw [Nat.zero_testBit, hv i]
    by_cases hi : i < 60
    · cases hb : a.testBit i
      · simp
      · rw [h i hi hb]; simp
    · have : a.testBit i = false := Nat.testBit_lt_two_pow (Nat.lt_of_lt_of_le ha (Nat.pow_le_pow_right (by decide) (by omega)))
      rw [this]; simp
end Go.Proofs
