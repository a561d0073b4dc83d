import Derived.Test.YtjikegaipldnhaaCrc
import Derived.Test.YtjikegaipldnhaaFStrp
import Derived.Test.YtjikegaipldnhaaRows1

/-
  THE LAYOUT: Check, Size.
-/
namespace Go.Proofs
open Go Go.Ev
set_option linter.unusedSimpArgs false
set_option linter.unusedVariables false
set_option maxRecDepth 100000

structure Geo where
  d : Int
  c : Int
  s : Int
def geoV (g : Geo) : Array Value := #[.int .i64 g.d, .int .i64 g.c, .int .i64 g.s]
structure GeoOk (g : Geo) : Prop where
  d : 4 ≤ g.d ∧ g.d ≤ 32
  c : 1 ≤ g.c ∧ g.c ≤ 8
  s : 1 ≤ g.s ∧ g.s ≤ 64
theorem GeoOk.size {g : Geo} (h : GeoOk g) : 1 ≤ g.c * g.s ∧ g.c * g.s ≤ 512 := by
  obtain ⟨_, ⟨h1, h2⟩, ⟨h3, h4⟩⟩ := h
  constructor
  · have := Int.mul_le_mul h1 h3 (by omega) (by omega); omega
  · have := Int.mul_le_mul h2 h4 (by omega) (by omega); omega
structure Plc where
  dk : Int
  at_ : Int
def plcL (x : Plc) : List Value := [.int .i64 x.dk, .int .i64 x.at_]
def plcV (x : Plc) : Array Value := #[.int .i64 x.dk, .int .i64 x.at_]
def plLay : Lay Plc := ⟨2, plcL, fun _ => rfl, fun y v hv => by
  simp only [plcL, List.mem_cons, List.not_mem_nil, or_false] at hv
  rcases hv with rfl | rfl <;> rfl, by decide⟩
section calls
variable {w : World} {g : Geo} {R : Value → World → Prop}
theorem one_geoV (g : Geo) : ∀ v ∈ (geoV g).toList, oneV v = true := by
  intro v hv
  have hv : v ∈ [Value.int .i64 g.d, .int .i64 g.c, .int .i64 g.s] := hv
  simp only [List.mem_cons, List.not_mem_nil, or_false] at hv
  rcases hv with rfl | rfl | rfl <;> rfl
theorem l_Check (h : GeoOk g) (hK : ∀ w', Keep (fun _ => False) w w' → R (.int .i64 0) w') : CallV Try.prog 93 #[.agg (geoV g)] w R := by
  apply C_layout_Check
  unfold F_layout_Check
  refine alc_fresh fun w1 hb k1 z1 => ?_
  obtain ⟨⟨d1, d2⟩, ⟨c1, c2⟩, ⟨s1, s2⟩⟩ := h
  refine LdV_has (v := .int .i64 g.d) hb rfl (OpI_int.2 ?_)
  rw [decide_eq_false (show ¬ g.d < 4 by omega)]
  refine (Cb_false (p := _)).2 ?_
  refine LdV_has (v := .int .i64 g.d) hb rfl (OpI_int.2 ?_)
  rw [decide_eq_false (show ¬ g.d > 32 by omega)]
  refine (Cb_false (p := _)).2 ?_
  refine LdV_has (v := .int .i64 g.c) hb rfl (OpI_int.2 ?_)
  rw [decide_eq_false (show ¬ g.c < 1 by omega)]
  refine (Cb_false (p := _)).2 ?_
  refine LdV_has (v := .int .i64 g.c) hb rfl (OpI_int.2 ?_)
  rw [decide_eq_false (show ¬ g.c > 8 by omega)]
  refine (Cb_false (p := _)).2 ?_
  refine LdV_has (v := .int .i64 g.s) hb rfl (OpI_int.2 ?_)
  rw [decide_eq_false (show ¬ g.s < 1 by omega)]
  refine (Cb_false (p := _)).2 ?_
  refine LdV_has (v := .int .i64 g.s) hb rfl (OpI_int.2 ?_)
  rw [decide_eq_false (show ¬ g.s > 64 by omega)]
  exact (Cb_false (p := _)).2 (Ret_nil.2 (hK w1 k1))
theorem l_Size (h : GeoOk g) (hK : ∀ w', Keep (fun _ => False) w w' → R (.tuple #[.int .i64 (g.c * g.s), .int .i64 0]) w') : CallV Try.prog 59 #[.agg (geoV g)] w R := by
  apply C_layout_Size
  unfold F_layout_Size
  have hs := h.size
  refine alc_fresh fun w1 hb k1 z1 => ?_
  refine LdA_all hb rfl ?_
  refine l_Check h fun w2 k2 => ?_
  refine OpI_int.2 ((Cb_false (p := _)).2 ?_)
  have hb2 := k2.has hb (by simp)
  refine LdV_has (v := .int .i64 g.c) hb2 rfl (OpI_int.2 ?_)
  refine LdV_has (v := .int .i64 g.s) hb2 rfl (OpI_int.2 ?_)
  rw [wrapI (by omega) (by omega)]
  exact Ret_nil.2 (hK w2 (k1.trans k2))
end calls
end Go.Proofs

/-
  THE LAYOUT, on: Capacity, first, Map, Row.
-/
namespace Go.Proofs
open Go Go.Ev
set_option linter.unusedSimpArgs false
set_option linter.unusedVariables false
set_option maxRecDepth 100000

def firstP (g : Geo) (st : Int) : Int := (2 * g.d + 1 - st % g.d) % g.d
/-- the place of column k of a row -/
def plcP (g : Geo) (st off k : Int) : Plc := ⟨(firstP g st + k) % g.d, st * g.c + off⟩
theorem GeoOk.cap {g : Geo} (h : GeoOk g) : 2 ≤ (g.d - 2) * g.c * g.s ∧ (g.d - 2) * g.c * g.s ≤ 15360 := by
  obtain ⟨⟨d1, d2⟩, ⟨c1, c2⟩, ⟨s1, s2⟩⟩ := h
  have h1 := Int.mul_le_mul (show (2 : Int) ≤ g.d - 2 by omega) c1 (by omega) (by omega)
  have h2 := Int.mul_le_mul (show g.d - 2 ≤ (30 : Int) by omega) c2 (by omega) (by omega)
  have h3 := Int.mul_le_mul h1 s1 (by omega) (by omega)
  have h4 := Int.mul_le_mul h2 s2 (by omega) (by omega)
  omega
theorem GeoOk.row {g : Geo} (h : GeoOk g) {st off : Int} (hs : 0 ≤ st ∧ st < g.s) (ho : 0 ≤ off ∧ off < g.c) : 0 ≤ st * g.c ∧ 0 ≤ st * g.c + off ∧ st * g.c + off < g.c * g.s := by
  have h1 := Int.mul_nonneg hs.1 (show (0 : Int) ≤ g.c by have := h.c; omega)
  have h2 := Int.mul_le_mul_of_nonneg_right (show st ≤ g.s - 1 by omega) (show (0 : Int) ≤ g.c by have := h.c; omega)
  have h3 : (g.s - 1) * g.c = g.c * g.s - g.c := by rw [Int.sub_mul, Int.mul_comm g.s]; omega
  omega
section calls
variable {w : World} {g : Geo} {R : Value → World → Prop}
theorem firstP_lt (h : GeoOk g) (st : Int) : 0 ≤ firstP g st ∧ firstP g st < g.d := by
  obtain ⟨⟨d1, d2⟩, _, _⟩ := h
  exact ⟨Int.emod_nonneg _ (by omega), Int.emod_lt_of_pos _ (by omega)⟩
/-- the spot of a sector: stripe, column, place in the chunk -/
def spotP (g : Geo) (lba : Int) : Int × Int × Int := (lba / ((g.d - 2) * g.c), lba / g.c % (g.d - 2), lba % g.c)
def spotV (x : Int × Int × Int) : Array Value := #[.int .i64 x.1, .int .i64 x.2.1, .int .i64 x.2.2]
theorem one_spotV (x : Int × Int × Int) : ∀ v ∈ (spotV x).toList, oneV v = true := by
  intro v hv
  have hv : v ∈ [Value.int .i64 x.1, .int .i64 x.2.1, .int .i64 x.2.2] := hv
  simp only [List.mem_cons, List.not_mem_nil, or_false] at hv
  rcases hv with rfl | rfl | rfl <;> rfl
theorem one_plcV (x : Plc) : ∀ v ∈ (plcV x).toList, oneV v = true := by
  intro v hv
  have hv : v ∈ [Value.int .i64 x.dk, .int .i64 x.at_] := hv
  simp only [List.mem_cons, List.not_mem_nil, or_false] at hv
  rcases hv with rfl | rfl <;> rfl
theorem spotP_ok (h : GeoOk g) {lba : Int} (h0 : 0 ≤ lba) (h1 : lba < (g.d - 2) * g.c * g.s) : (0 ≤ (spotP g lba).1 ∧ (spotP g lba).1 < g.s) ∧ (0 ≤ (spotP g lba).2.1 ∧ (spotP g lba).2.1 < g.d - 2) ∧ (0 ≤ (spotP g lba).2.2 ∧ (spotP g lba).2.2 < g.c) := by
  obtain ⟨⟨d1, d2⟩, ⟨c1, c2⟩, ⟨s1, s2⟩⟩ := h
  have hp : 0 < (g.d - 2) * g.c := Int.mul_pos (by omega) (by omega)
  refine ⟨⟨Int.ediv_nonneg h0 (by omega), ?_⟩, ⟨Int.emod_nonneg _ (by omega), Int.emod_lt_of_pos _ (by omega)⟩, ⟨Int.emod_nonneg _ (by omega), Int.emod_lt_of_pos _ (by omega)⟩⟩
  exact Int.ediv_lt_of_lt_mul hp (by rw [Int.mul_comm g.s]; exact h1)
/-- the places of a row -/
def rowP (g : Geo) (st off : Int) (n : Nat) : List Plc := (List.range n).map fun (k : Nat) => plcP g st off (k : Int)
theorem rowP_succ (g : Geo) (st off : Int) (n : Nat) : rowP g st off (n + 1) = rowP g st off n ++ [plcP g st off (n : Int)] := by unfold rowP; rw [List.range_succ, List.map_append]; rfl
theorem len_rowP (g : Geo) (st off : Int) (n : Nat) : (rowP g st off n).length = n := by simp [rowP]
end calls
end Go.Proofs
