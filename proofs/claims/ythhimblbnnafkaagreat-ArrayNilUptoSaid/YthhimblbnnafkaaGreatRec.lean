/-
  RECORDS AS VALUES, AND THEIR ORDER: kind, version, sector number, data; compared by version, then by sector.
-/
import Derived.Test.YthhimblbnnafkaaGreatData
import Derived.Test.YthhimblbnnafkaaGreatRun
import Derived.Test.YthhimblbnnafkaaGreatFCmp
import Derived.Sort.Grow
import Derived.Deep.Draws
namespace Go.Proofs
open Go Go.Ev
set_option linter.unusedSimpArgs false
set_option linter.unusedVariables false
set_option maxRecDepth 100000

structure Rec where
  kind : Int
  ver : Int
  lba : Int
  data : Sec
instance : Inhabited Rec := ⟨⟨0, 0, 0, fun _ => 0⟩⟩
def recL (r : Rec) : List Value :=
  [.int .i64 r.kind, .int .u64 r.ver, .int .i64 r.lba, .int .u8 (r.data 0), .int .u8 (r.data 1), .int .u8 (r.data 2), .int .u8 (r.data 3), .int .u8 (r.data 4), .int .u8 (r.data 5), .int .u8 (r.data 6), .int .u8 (r.data 7),
    .int .u8 (r.data 8), .int .u8 (r.data 9), .int .u8 (r.data 10), .int .u8 (r.data 11), .int .u8 (r.data 12), .int .u8 (r.data 13), .int .u8 (r.data 14), .int .u8 (r.data 15)]
def recV (r : Rec) : Array Value := (recL r).toArray
@[simp] theorem size_recV (r : Rec) : (recV r).size = 19 := rfl
@[simp] theorem length_recL (r : Rec) : (recL r).length = 19 := rfl
theorem one_recL (r : Rec) : ∀ v ∈ recL r, oneV v = true := by
  intro v hv
  simp only [recL, List.mem_cons, List.not_mem_nil, or_false] at hv
  rcases hv with rfl | rfl | rfl | rfl | rfl | rfl | rfl | rfl | rfl | rfl | rfl | rfl | rfl | rfl | rfl | rfl | rfl | rfl | rfl <;> rfl
theorem one_recL' (r : Rec) : ∀ v ∈ recL r, v.oneCell' = true := by
  intro v hv
  simp only [recL, List.mem_cons, List.not_mem_nil, or_false] at hv
  rcases hv with rfl | rfl | rfl | rfl | rfl | rfl | rfl | rfl | rfl | rfl | rfl | rfl | rfl | rfl | rfl | rfl | rfl | rfl | rfl <;> rfl
theorem recL_inj {r s : Rec} (h : recL r = recL s) : r = s := by
  simp only [recL, List.cons.injEq, Value.int.injEq, true_and, and_true] at h
  obtain ⟨h1, h2, h3, hd⟩ := h
  have : r.data = s.data := secV_inj (by simp only [secV, hd])
  cases r; cases s; simp_all
def RecOk (r : Rec) : Prop := (-9223372036854775808 ≤ r.kind ∧ r.kind ≤ 9223372036854775807) ∧ (0 ≤ r.ver ∧ r.ver ≤ 18446744073709551615) ∧ (-9223372036854775808 ≤ r.lba ∧ r.lba ≤ 9223372036854775807) ∧ SecOk r.data
def recKs : List CK := .int .i64 :: .int .u64 :: .int .i64 :: List.replicate 16 (.int .u8)
theorem fits_recL {r : Rec} (h : RecOk r) : Fits recKs (recL r) := ⟨⟨_, rfl, h.1.1, h.1.2⟩, ⟨_, rfl, h.2.1.1, h.2.1.2⟩, ⟨_, rfl, h.2.2.1.1, h.2.2.1.2⟩, fits_secV h.2.2.2⟩

def cmpI (x y : Int) : Int := if x < y then -1 else if x > y then 1 else 0
/-- by version, then by sector -/
def cmpR (r s : Rec) : Int := if cmpI r.ver s.ver ≠ 0 then cmpI r.ver s.ver else cmpI r.lba s.lba

theorem nan_int (x : Int) (w : World) {R : Value → World → Prop} (h : R (.bool false) w) : CallV Tryz.prog 267 #[.int .i64 x] w R := by
  apply C_cmp_isNaN_int
  simpa [F_cmp_isNaN_int] using h
theorem nan_u64 (x : Int) (w : World) {R : Value → World → Prop} (h : R (.bool false) w) : CallV Tryz.prog 266 #[.int .u64 x] w R := by
  apply C_cmp_isNaN_uint64
  simpa [F_cmp_isNaN_uint64] using h
theorem compare_int (x y : Int) (w : World) {R : Value → World → Prop} (h : R (.int .i64 (cmpI x y)) w) : CallV Tryz.prog 235 #[.int .i64 x, .int .i64 y] w R := by
  apply C_cmp_Compare_int
  unfold F_cmp_Compare_int
  refine nan_int x w ?_
  simp only [OpB_bool]
  refine nan_int y w ?_
  simp only [OpB_bool, Cb_false, Ret_nil]
  unfold cmpI at h
  refine Cb_of (fun h1 => ?_) (fun h1 => Cb_of (fun h2 => ?_) (fun h2 => ?_))
  · rw [if_pos (by simpa using h1)] at h; exact h
  · rw [if_neg (by simpa using h1), if_pos (by simpa using h2)] at h; exact h
  · rw [if_neg (by simpa using h1), if_neg (by simpa using h2)] at h; exact h
theorem compare_u64 (x y : Int) (w : World) {R : Value → World → Prop} (h : R (.int .i64 (cmpI x y)) w) : CallV Tryz.prog 234 #[.int .u64 x, .int .u64 y] w R := by
  apply C_cmp_Compare_uint64
  unfold F_cmp_Compare_uint64
  refine nan_u64 x w ?_
  simp only [OpB_bool]
  refine nan_u64 y w ?_
  simp only [OpB_bool, Cb_false, Ret_nil]
  unfold cmpI at h
  refine Cb_of (fun h1 => ?_) (fun h1 => Cb_of (fun h2 => ?_) (fun h2 => ?_))
  · rw [if_pos (by simpa using h1)] at h; exact h
  · rw [if_neg (by simpa using h1), if_pos (by simpa using h2)] at h; exact h
  · rw [if_neg (by simpa using h1), if_neg (by simpa using h2)] at h; exact h
/-- cmp.Or of two -/
theorem or_int (a b : Int) (x c : Nat) (w : World) {R : Value → World → Prop} (hb : Has w x (.cells #[.int .i64 a, .int .i64 b] 3 (0, 0))) (h : R (.int .i64 (if a ≠ 0 then a else b)) w) :
    CallV Tryz.prog 233 #[.slice (some ⟨x, 0, none⟩) 2 c] w R := by
  apply C_cmp_Or_int
  unfold F_cmp_Or_int
  refine LoopC_of (σ := Int × Unit) (fun s w' => w' = w ∧ (s.1 = 0 ∨ s.1 = 1 ∧ a = 0 ∨ s.1 = 2 ∧ a = 0 ∧ b = 0)) (fun s _ => (2 - s.1).toNat) ⟨rfl, Or.inl rfl⟩ ?_
  intro j s w' hI
  obtain ⟨i, u⟩ := s
  obtain ⟨rfl, hI⟩ := hI
  simp only at hI ⊢
  rcases hI with rfl | ⟨rfl, ha⟩ | ⟨rfl, ha, hb0⟩
  · simp only [show (decide ((0 : Int) < ((2 : Nat) : Int))) = true from rfl, Cb_true]
    refine ⟨x, 0, rfl, by decide, by decide, LdV_has (v := .int .i64 a) hb rfl ?_⟩
    simp only [OpI_int]
    refine Cb_of (fun h1 => ?_) (fun h1 => ?_)
    · rw [if_pos (by simpa using h1)] at h; simpa using h
    · exact ⟨_, by decide, ⟨trivial, Or.inr (Or.inl ⟨rfl, by simpa using h1⟩)⟩, rfl⟩
  · simp only [show (decide ((1 : Int) < ((2 : Nat) : Int))) = true from rfl, Cb_true]
    refine ⟨x, 0, rfl, by decide, by decide, LdV_has (v := .int .i64 b) hb rfl ?_⟩
    simp only [OpI_int]
    refine Cb_of (fun h1 => ?_) (fun h1 => ?_)
    · rw [if_neg (by simp [ha])] at h; simpa using h
    · exact ⟨_, by decide, ⟨trivial, Or.inr (Or.inr ⟨rfl, ha, by simpa using h1⟩)⟩, rfl⟩
  · simp only [show (decide ((2 : Int) < ((2 : Nat) : Int))) = false from rfl, Cb_false, Ret_nil]
    rw [if_neg (by simp [ha]), hb0] at h; exact h
end Go.Proofs
