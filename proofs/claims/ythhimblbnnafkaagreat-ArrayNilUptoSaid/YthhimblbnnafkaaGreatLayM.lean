import Derived.Test.YthhimblbnnafkaaGreatCrc
import Derived.Test.YthhimblbnnafkaaGreatFStrp
import Derived.Test.YthhimblbnnafkaaGreatRows1

/-
  THE LAYOUT: Check, Size.
-/
namespace Go.Proofs
open Go Go.Ev
set_option linter.unusedSimpArgs false
set_option linter.unusedVariables false
set_option maxRecDepth 100000

structure Geo where
  d : Int
  c : Int
  s : Int
def geoV (g : Geo) : Array Value := #[.int .i64 g.d, .int .i64 g.c, .int .i64 g.s]
structure GeoOk (g : Geo) : Prop where
  d : 4 ≤ g.d ∧ g.d ≤ 32
  c : 1 ≤ g.c ∧ g.c ≤ 8
  s : 1 ≤ g.s ∧ g.s ≤ 64
theorem GeoOk.size {g : Geo} (h : GeoOk g) : 1 ≤ g.c * g.s ∧ g.c * g.s ≤ 512 := by
  obtain ⟨_, ⟨h1, h2⟩, ⟨h3, h4⟩⟩ := h
  constructor
  · have := Int.mul_le_mul h1 h3 (by omega) (by omega); omega
  · have := Int.mul_le_mul h2 h4 (by omega) (by omega); omega
structure Plc where
  dk : Int
  at_ : Int
def plcL (x : Plc) : List Value := [.int .i64 x.dk, .int .i64 x.at_]
def plcV (x : Plc) : Array Value := #[.int .i64 x.dk, .int .i64 x.at_]
def plLay : Lay Plc := ⟨2, plcL, fun _ => rfl, fun y v hv => by
  simp only [plcL, List.mem_cons, List.not_mem_nil, or_false] at hv
  rcases hv with rfl | rfl <;> rfl, by decide⟩
section calls
variable {w : World} {g : Geo} {R : Value → World → Prop}
theorem one_geoV (g : Geo) : ∀ v ∈ (geoV g).toList, oneV v = true := by
  intro v hv
  have hv : v ∈ [Value.int .i64 g.d, .int .i64 g.c, .int .i64 g.s] := hv
  simp only [List.mem_cons, List.not_mem_nil, or_false] at hv
  rcases hv with rfl | rfl | rfl <;> rfl
theorem l_Check (h : GeoOk g) (hK : ∀ w', Keep (fun _ => False) w w' → R (.int .i64 0) w') : CallV Tryz.prog 71 #[.agg (geoV g)] w R := by
  apply C_layout_Check
  unfold F_layout_Check
  refine alc_fresh fun w1 hb k1 z1 => ?_
  obtain ⟨⟨d1, d2⟩, ⟨c1, c2⟩, ⟨s1, s2⟩⟩ := h
  refine LdV_has (v := .int .i64 g.d) hb rfl (OpI_int.2 ?_)
  rw [decide_eq_false (show ¬ g.d < 4 by omega)]
  refine (Cb_false (p := _)).2 ?_
  refine LdV_has (v := .int .i64 g.d) hb rfl (OpI_int.2 ?_)
  rw [decide_eq_false (show ¬ g.d > 32 by omega)]
  refine (Cb_false (p := _)).2 ?_
  refine LdV_has (v := .int .i64 g.c) hb rfl (OpI_int.2 ?_)
  rw [decide_eq_false (show ¬ g.c < 1 by omega)]
  refine (Cb_false (p := _)).2 ?_
  refine LdV_has (v := .int .i64 g.c) hb rfl (OpI_int.2 ?_)
  rw [decide_eq_false (show ¬ g.c > 8 by omega)]
  refine (Cb_false (p := _)).2 ?_
  refine LdV_has (v := .int .i64 g.s) hb rfl (OpI_int.2 ?_)
  rw [decide_eq_false (show ¬ g.s < 1 by omega)]
  refine (Cb_false (p := _)).2 ?_
  refine LdV_has (v := .int .i64 g.s) hb rfl (OpI_int.2 ?_)
  rw [decide_eq_false (show ¬ g.s > 64 by omega)]
  exact (Cb_false (p := _)).2 (Ret_nil.2 (hK w1 k1))
theorem l_Size (h : GeoOk g) (hK : ∀ w', Keep (fun _ => False) w w' → R (.tuple #[.int .i64 (g.c * g.s), .int .i64 0]) w') : CallV Tryz.prog 128 #[.agg (geoV g)] w R := by
  apply C_layout_Size
  unfold F_layout_Size
  have hs := h.size
  refine alc_fresh fun w1 hb k1 z1 => ?_
  refine LdA_all hb rfl ?_
  refine l_Check h fun w2 k2 => ?_
  refine OpI_int.2 ((Cb_false (p := _)).2 ?_)
  have hb2 := k2.has hb (by simp)
  refine LdV_has (v := .int .i64 g.c) hb2 rfl (OpI_int.2 ?_)
  refine LdV_has (v := .int .i64 g.s) hb2 rfl (OpI_int.2 ?_)
  rw [wrapI (by omega) (by omega)]
  exact Ret_nil.2 (hK w2 (k1.trans k2))
end calls
end Go.Proofs

/-
  THE LAYOUT, on: Capacity, first, Map, Row.
-/
namespace Go.Proofs
open Go Go.Ev
set_option linter.unusedSimpArgs false
set_option linter.unusedVariables false
set_option maxRecDepth 100000

def firstP (g : Geo) (st : Int) : Int := (2 * g.d + 1 - st % g.d) % g.d
/-- the place of column k of a row -/
def plcP (g : Geo) (st off k : Int) : Plc := ⟨(firstP g st + k) % g.d, st * g.c + off⟩
theorem GeoOk.cap {g : Geo} (h : GeoOk g) : 2 ≤ (g.d - 2) * g.c * g.s ∧ (g.d - 2) * g.c * g.s ≤ 15360 := by
  obtain ⟨⟨d1, d2⟩, ⟨c1, c2⟩, ⟨s1, s2⟩⟩ := h
  have h1 := Int.mul_le_mul (show (2 : Int) ≤ g.d - 2 by omega) c1 (by omega) (by omega)
  have h2 := Int.mul_le_mul (show g.d - 2 ≤ (30 : Int) by omega) c2 (by omega) (by omega)
  have h3 := Int.mul_le_mul h1 s1 (by omega) (by omega)
  have h4 := Int.mul_le_mul h2 s2 (by omega) (by omega)
  omega
theorem GeoOk.row {g : Geo} (h : GeoOk g) {st off : Int} (hs : 0 ≤ st ∧ st < g.s) (ho : 0 ≤ off ∧ off < g.c) : 0 ≤ st * g.c ∧ 0 ≤ st * g.c + off ∧ st * g.c + off < g.c * g.s := by
  have h1 := Int.mul_nonneg hs.1 (show (0 : Int) ≤ g.c by have := h.c; omega)
  have h2 := Int.mul_le_mul_of_nonneg_right (show st ≤ g.s - 1 by omega) (show (0 : Int) ≤ g.c by have := h.c; omega)
  have h3 : (g.s - 1) * g.c = g.c * g.s - g.c := by rw [Int.sub_mul, Int.mul_comm g.s]; omega
  omega
section calls
variable {w : World} {g : Geo} {R : Value → World → Prop}
theorem l_Cap (h : GeoOk g) (hK : ∀ w', Keep (fun _ => False) w w' → R (.tuple #[.int .i64 ((g.d - 2) * g.c * g.s), .int .i64 0]) w') : CallV Tryz.prog 140 #[.agg (geoV g)] w R := by
  apply C_layout_Capacity
  unfold F_layout_Capacity
  have hcap := h.cap
  obtain ⟨⟨d1, d2⟩, ⟨c1, c2⟩, ⟨s1, s2⟩⟩ := h
  have h1 := Int.mul_le_mul (show g.d - 2 ≤ (30 : Int) by omega) c2 (by omega) (by omega)
  have h0 := Int.mul_nonneg (show (0 : Int) ≤ g.d - 2 by omega) (show (0 : Int) ≤ g.c by omega)
  refine alc_fresh fun w1 hb k1 z1 => ?_
  refine LdA_all hb rfl ?_
  refine l_Check ⟨⟨d1, d2⟩, ⟨c1, c2⟩, ⟨s1, s2⟩⟩ fun w2 k2 => ?_
  refine OpI_int.2 ((Cb_false (p := _)).2 ?_)
  have hb2 := k2.has hb (by simp)
  refine LdV_has (v := .int .i64 g.d) hb2 rfl (OpI_int.2 ?_)
  refine LdV_has (v := .int .i64 g.c) hb2 rfl (OpI_int.2 ?_)
  refine LdV_has (v := .int .i64 g.s) hb2 rfl (OpI_int.2 ?_)
  rw [wrapI (x := g.d - 2) (by omega) (by omega), wrapI (x := (g.d - 2) * g.c) (by omega) (by omega), wrapI (by omega) (by omega)]
  exact Ret_nil.2 (hK w2 (k1.trans k2))
theorem l_first (h : GeoOk g) {st : Int} (hst : 0 ≤ st) (hK : ∀ w', Keep (fun _ => False) w w' → R (.int .i64 (firstP g st)) w') : CallV Tryz.prog 174 #[.agg (geoV g), .int .i64 st] w R := by
  apply C_layout_first
  unfold F_layout_first
  obtain ⟨⟨d1, d2⟩, _, _⟩ := h
  refine alc_fresh fun w1 hb k1 z1 => ?_
  refine LdV_has (v := .int .i64 g.d) hb rfl (OpI_int.2 ?_)
  refine LdV_has (v := .int .i64 g.d) hb rfl (OpI_int.2 ⟨by omega, ?_⟩)
  refine LdV_has (v := .int .i64 g.d) hb rfl (OpI_int.2 ⟨by omega, fun d => ?_⟩)
  refine Ret_nil.2 ?_
  have hm1 := Int.emod_nonneg st (show g.d ≠ 0 by omega)
  have hm2 := Int.emod_lt_of_pos st (show 0 < g.d by omega)
  rw [Int.tmod_eq_emod_of_nonneg hst, wrapI (x := 2 * g.d) (by omega) (by omega), wrapI (x := 2 * g.d + 1) (by omega) (by omega), wrapI (x := 2 * g.d + 1 - st % g.d) (by omega) (by omega), Int.tmod_eq_emod_of_nonneg (by omega)]
  exact hK _ (k1.dr d)
theorem firstP_lt (h : GeoOk g) (st : Int) : 0 ≤ firstP g st ∧ firstP g st < g.d := by
  obtain ⟨⟨d1, d2⟩, _, _⟩ := h
  exact ⟨Int.emod_nonneg _ (by omega), Int.emod_lt_of_pos _ (by omega)⟩
/-- the spot of a sector: stripe, column, place in the chunk -/
def spotP (g : Geo) (lba : Int) : Int × Int × Int := (lba / ((g.d - 2) * g.c), lba / g.c % (g.d - 2), lba % g.c)
def spotV (x : Int × Int × Int) : Array Value := #[.int .i64 x.1, .int .i64 x.2.1, .int .i64 x.2.2]
theorem one_spotV (x : Int × Int × Int) : ∀ v ∈ (spotV x).toList, oneV v = true := by
  intro v hv
  have hv : v ∈ [Value.int .i64 x.1, .int .i64 x.2.1, .int .i64 x.2.2] := hv
  simp only [List.mem_cons, List.not_mem_nil, or_false] at hv
  rcases hv with rfl | rfl | rfl <;> rfl
theorem one_plcV (x : Plc) : ∀ v ∈ (plcV x).toList, oneV v = true := by
  intro v hv
  have hv : v ∈ [Value.int .i64 x.dk, .int .i64 x.at_] := hv
  simp only [List.mem_cons, List.not_mem_nil, or_false] at hv
  rcases hv with rfl | rfl <;> rfl
theorem spotP_ok (h : GeoOk g) {lba : Int} (h0 : 0 ≤ lba) (h1 : lba < (g.d - 2) * g.c * g.s) : (0 ≤ (spotP g lba).1 ∧ (spotP g lba).1 < g.s) ∧ (0 ≤ (spotP g lba).2.1 ∧ (spotP g lba).2.1 < g.d - 2) ∧ (0 ≤ (spotP g lba).2.2 ∧ (spotP g lba).2.2 < g.c) := by
  obtain ⟨⟨d1, d2⟩, ⟨c1, c2⟩, ⟨s1, s2⟩⟩ := h
  have hp : 0 < (g.d - 2) * g.c := Int.mul_pos (by omega) (by omega)
  refine ⟨⟨Int.ediv_nonneg h0 (by omega), ?_⟩, ⟨Int.emod_nonneg _ (by omega), Int.emod_lt_of_pos _ (by omega)⟩, ⟨Int.emod_nonneg _ (by omega), Int.emod_lt_of_pos _ (by omega)⟩⟩
  exact Int.ediv_lt_of_lt_mul hp (by rw [Int.mul_comm g.s]; exact h1)
theorem l_Map (h : GeoOk g) {lba : Int} (h0 : 0 ≤ lba) (h1 : lba < (g.d - 2) * g.c * g.s) (hK : ∀ w', Keep (fun _ => False) w w' → R (.tuple #[.agg (spotV (spotP g lba)), .agg (plcV (plcP g (spotP g lba).1 (spotP g lba).2.2 (spotP g lba).2.1)), .int .i64 0]) w') :
    CallV Tryz.prog 105 #[.agg (geoV g), .int .i64 lba] w R := by
  apply C_layout_Map
  unfold F_layout_Map
  have hcap := h.cap
  obtain ⟨⟨p1, p2⟩, ⟨p3, p4⟩, ⟨p5, p6⟩⟩ := spotP_ok h h0 h1
  have hrow := h.row ⟨p1, p2⟩ ⟨p5, p6⟩
  have hsz := h.size
  have hh := h
  obtain ⟨⟨d1, d2⟩, ⟨c1, c2⟩, ⟨s1, s2⟩⟩ := h
  have hm1 := Int.mul_le_mul (show g.d - 2 ≤ (30 : Int) by omega) c2 (by omega) (by omega)
  have hm0 : 0 < (g.d - 2) * g.c := Int.mul_pos (by omega) (by omega)
  refine alc_fresh fun w1 hb1 k1 z1 => ?_
  refine alc_fresh fun w2 hb2 k2 z2 => ?_
  refine alc_fresh fun w3 hb3 k3 z3 => ?_
  have k23 := k2.trans k3
  have hg3 := k23.has hb1 (by simp)
  refine LdA_all hg3 rfl ?_
  refine l_Cap hh fun w4 k4 => ?_
  refine T2_mk.2 (OpI_int.2 (OpI_int.2 ((Cb_false (p := _)).2 ⟨rfl, rfl, rfl, ?_⟩)))
  rw [decide_eq_false (show ¬ lba < 0 by omega), decide_eq_false (show ¬ lba ≥ (g.d - 2) * g.c * g.s by omega)]
  refine (Cb_false (p := _)).2 ?_
  have hg4 := k4.has hg3 (by simp)
  have hs4 := k4.has (k3.has hb2 (by simp)) (by simp)
  have hp4 := k4.has hb3 (by simp)
  have k04 := ((k1.trans k23).trans k4)
  have hl1 : w1.heap.size = w.heap.size + 1 := z1
  have hl2 : w2.heap.size = w1.heap.size + 1 := z2
  generalize hb0 : w.heap.size = b at *
  generalize w1.heap.size = bs at *
  generalize w2.heap.size = bp at *
  refine LdV_has (v := .int .i64 g.d) hg4 rfl (OpI_int.2 ?_)
  have e2 : IntKind.wrap .i64 (g.d - 2) = g.d - 2 := wrapI (by omega) (by omega)
  have e3 : IntKind.wrap .i64 ((g.d - 2) * g.c) = (g.d - 2) * g.c := wrapI (by omega) (by omega)
  intro dd
  refine ⟨fun w' => Has w' b (.cells (geoV g) 24 (0, 0)), hg4.dr dd, ?_⟩
  refine LdV_of (v := .int .i64 g.c) (fun w' hw => ⟨_, _, _, hw, rfl⟩) (OpI_int.2 ?_)
  rw [e2, e3]
  refine ⟨by omega, ?_⟩
  refine LdV_of (v := .int .i64 g.c) (fun w' hw => ⟨_, _, _, hw, rfl⟩) (OpI_int.2 ⟨by omega, by omega, ?_⟩)
  refine LdV_of (v := .int .i64 g.c) (fun w' hw => ⟨_, _, _, hw, rfl⟩) (OpI_int.2 ⟨by omega, ?_⟩)
  have q1 : IntKind.wrap .i64 (Int.tdiv lba ((g.d - 2) * g.c)) = (spotP g lba).1 := by
    rw [Int.tdiv_eq_ediv_of_nonneg h0]
    exact wrapI (by have := p1; show _ ≤ lba / ((g.d - 2) * g.c); change 0 ≤ lba / ((g.d - 2) * g.c) at p1; omega) (by change lba / ((g.d - 2) * g.c) < g.s at p2; omega)
  have q2 : Int.tmod (IntKind.wrap .i64 (Int.tdiv lba g.c)) (g.d - 2) = (spotP g lba).2.1 := by
    have a1 := Int.ediv_nonneg h0 (show 0 ≤ g.c by omega)
    have a2 := Int.ediv_le_self g.c h0
    rw [Int.tdiv_eq_ediv_of_nonneg h0, wrapI (by omega) (by omega), Int.tmod_eq_emod_of_nonneg a1]
    rfl
  have q3 : Int.tmod lba g.c = (spotP g lba).2.2 := by rw [Int.tmod_eq_emod_of_nonneg h0]; rfl
  rw [q1, q2, q3]
  generalize hsp : spotP g lba = x at *
  refine ⟨.agg (spotV x), fun w' _ => run_build _ _ _ _ (by kernel_rfl), OpA_agg.2 ⟨rfl, ?_⟩⟩
  refine alc_fresh fun w5 hb5 k5 z5 => ?_
  have kd := Keep.drew (fun _ => False) w4 dd
  have hg5 := (kd.trans k5).has hg4 (by simp)
  have hs5 := (kd.trans k5).has hs4 (by simp)
  have hp5 := (kd.trans k5).has hp4 (by simp)
  have k05 := (k04.trans kd).trans k5
  refine ⟨hg5, ?_⟩
  have hlt := hp4.lt
  show StA 3 (w4.dr dd).heap.size 0 (spotV x) w5 _
  have hlt4 : bp < (w4.dr dd).heap.size := hlt
  generalize (w4.dr dd).heap.size = bx at *
  refine StA_all hb5 rfl (by kernel_rfl) (one_spotV x) ?_
  have hx6 := hb5.upd_same (.cells (spotV x) 177 (0, 0))
  have hg6 := Has.upd (y := .cells (spotV x) 177 (0, 0)) hg5 (show b ≠ bx by omega)
  have hs6 := Has.upd (y := .cells (spotV x) 177 (0, 0)) hs5 (show bs ≠ bx by omega)
  have hp6 := Has.upd (y := .cells (spotV x) 177 (0, 0)) hp5 (show bp ≠ bx by omega)
  have hwb : w.heap.size ≤ w4.heap.size := k04.size
  refine ⟨hg6, ?_⟩
  have k06 : Keep (fun k => k = b ∨ k = bs ∨ k = bp ∨ k = bx) w (w5.upd bx (.cells (spotV x) 177 (0, 0))) := (k05.mono fun _ h => h.elim).upd (fun _ => Or.inr (Or.inr (Or.inr rfl))) _
  generalize w5.upd bx (.cells (spotV x) 177 (0, 0)) = w6 at *
  intro d2
  refine ⟨fun w' => Has w' b (.cells (geoV g) 24 (0, 0)) ∧ Has w' bx (.cells (spotV x) 177 (0, 0)), ⟨hg6.dr d2, hx6.dr d2⟩, ?_⟩
  refine LdA_of (cs := spotV x) rfl (fun w' hw => ⟨_, _, _, hw.2, Nat.le_refl 3, rfl⟩) ?_
  refine LdA_of (cs := geoV g) rfl (fun w' hw => ⟨_, _, _, hw.1, Nat.le_refl 3, rfl⟩) ?_
  refine LdV_of (v := .int .i64 x.1) (fun w' hw => ⟨_, _, _, hw.2, rfl⟩) (OpI_int.2 ?_)
  refine LdV_of (v := .int .i64 x.2.1) (fun w' hw => ⟨_, _, _, hw.2, rfl⟩) (OpI_int.2 ?_)
  refine LdV_of (v := .int .i64 g.d) (fun w' hw => ⟨_, _, _, hw.1, rfl⟩) (OpI_int.2 ?_)
  refine LdV_of (v := .int .i64 x.1) (fun w' hw => ⟨_, _, _, hw.2, rfl⟩) (OpI_int.2 ?_)
  refine LdV_of (v := .int .i64 g.c) (fun w' hw => ⟨_, _, _, hw.1, rfl⟩) (OpI_int.2 ?_)
  refine LdV_of (v := .int .i64 x.2.2) (fun w' hw => ⟨_, _, _, hw.2, rfl⟩) (OpI_int.2 ?_)
  refine l_first hh p1 fun w7 k7 => ?_
  have hx7 := k7.has (hx6.dr d2) (by simp)
  have hg7 := k7.has (hg6.dr d2) (by simp)
  have hs7 := k7.has (hs6.dr d2) (by simp)
  have hp7 := k7.has (hp6.dr d2) (by simp)
  refine OpI_int.2 ⟨⟨hg7, hx7⟩, by omega, ?_⟩
  have hf := firstP_lt hh x.1
  have r1 : Int.tmod (IntKind.wrap .i64 (firstP g x.1 + x.2.1)) g.d = (firstP g x.1 + x.2.1) % g.d := by rw [wrapI (by omega) (by omega), Int.tmod_eq_emod_of_nonneg (by omega)]
  have r2 : IntKind.wrap .i64 ((IntKind.wrap .i64 (x.1 * g.c)) + x.2.2) = x.1 * g.c + x.2.2 := by rw [wrapI (x := x.1 * g.c) (by omega) (by omega), wrapI (by omega) (by omega)]
  rw [r1, r2]
  refine ⟨.agg (plcV (plcP g x.1 x.2.2 x.2.1)), fun w' _ => run_build _ _ _ _ (by kernel_rfl), OpA_agg.2 ⟨rfl, ?_⟩⟩
  refine StA_all hs7 rfl (by kernel_rfl) (one_spotV x) ?_
  have hg8 := Has.upd (y := .cells (spotV x) 177 (0, 0)) hg7 (show b ≠ bs by omega)
  have hx8 := Has.upd (y := .cells (spotV x) 177 (0, 0)) hx7 (show bx ≠ bs by omega)
  have hp8 := Has.upd (y := .cells (spotV x) 177 (0, 0)) hp7 (show bp ≠ bs by omega)
  have hs8 := hs7.upd_same (.cells (spotV x) 177 (0, 0))
  refine ⟨⟨hg8, hx8⟩, ?_⟩
  have k08 : Keep (fun k => k = b ∨ k = bs ∨ k = bp ∨ k = bx) w (w7.upd bs (.cells (spotV x) 177 (0, 0))) := ((k06.dr d2).trans (k7.mono fun _ h => h.elim)).upd (fun _ => Or.inr (Or.inl rfl)) _
  generalize w7.upd bs (.cells (spotV x) 177 (0, 0)) = w8 at *
  refine StA_all hp8 rfl (by kernel_rfl) (one_plcV _) ?_
  have hg9 := Has.upd (y := .cells (plcV (plcP g x.1 x.2.2 x.2.1)) 84 (0, 0)) hg8 (show b ≠ bp by omega)
  have hx9 := Has.upd (y := .cells (plcV (plcP g x.1 x.2.2 x.2.1)) 84 (0, 0)) hx8 (show bx ≠ bp by omega)
  have hs9 := Has.upd (y := .cells (plcV (plcP g x.1 x.2.2 x.2.1)) 84 (0, 0)) hs8 (show bs ≠ bp by omega)
  refine ⟨⟨hg9, hx9⟩, ?_⟩
  refine LdA_all hs9 rfl ?_
  refine LdA_all (hp8.upd_same _) rfl ?_
  refine Ret_nil.2 (hK _ ?_)
  have k09 := k08.upd (k := bp) (fun _ => Or.inr (Or.inr (Or.inl rfl))) (.cells (plcV (plcP g x.1 x.2.2 x.2.1)) 84 (0, 0))
  exact (Keep.refl (fun _ => False) w).trans' k09 fun i hi hh => by rw [hb0] at hi; omega
theorem plLayT : LayT Tryz.prog plLay 184 84 16 := ⟨by kernel_rfl, ⟨(Tryz.prog.info? 84).get (by kernel_rfl), ((Tryz.prog.info? 84).get (by kernel_rfl)).zero.get (by kernel_rfl), by kernel_rfl, by kernel_rfl, by kernel_rfl, by kernel_rfl, by kernel_rfl⟩⟩
theorem bsl_pl1 (x : Plc) (w : World) : (Instr.buildSlice 184 1 #[(0, .agg (plcV x))]).run Tryz.prog w = .ok (.slice (some ⟨w.heap.size, 0, none⟩) 1 1) (w.alloc (.cells (plcV x) 84)) :=
  run_buildSlice w 184 84 1 _ (plcV x) ((Tryz.prog.info? 84).get (by kernel_rfl)) (((Tryz.prog.info? 84).get (by kernel_rfl)).zero.get (by kernel_rfl)) (by kernel_rfl) (by kernel_rfl) (by kernel_rfl) (by decide +kernel) (by decide +kernel) (by kernel_rfl)
/-- the places of a row -/
def rowP (g : Geo) (st off : Int) (n : Nat) : List Plc := (List.range n).map fun (k : Nat) => plcP g st off (k : Int)
theorem rowP_succ (g : Geo) (st off : Int) (n : Nat) : rowP g st off (n + 1) = rowP g st off n ++ [plcP g st off (n : Int)] := by unfold rowP; rw [List.range_succ, List.map_append]; rfl
theorem len_rowP (g : Geo) (st off : Int) (n : Nat) : (rowP g st off n).length = n := by simp [rowP]
theorem l_Row (h : GeoOk g) {st off : Int} (hst : 0 ≤ st ∧ st < g.s) (hof : 0 ≤ off ∧ off < g.c) (hK : ∀ p c w', OwnL plLay w' w.heap.size 84 p g.d.toNat c (rowP g st off g.d.toNat) → Keep (fun _ => False) w w' → R (.tuple #[.slice p g.d.toNat c, .int .i64 0]) w') :
    CallV Tryz.prog 109 #[.agg (geoV g), .int .i64 st, .int .i64 off] w R := by
  apply C_layout_Row
  unfold F_layout_Row
  have hrow := h.row hst hof
  have hsz := h.size
  have hh := h
  obtain ⟨⟨d1, d2⟩, ⟨c1, c2⟩, ⟨s1, s2⟩⟩ := h
  refine alc_fresh fun w1 hb1 k1 z1 => ?_
  refine LdA_all hb1 rfl ?_
  refine l_Check hh fun w2 k2 => ?_
  refine OpI_int.2 ((Cb_false (p := _)).2 ?_)
  rw [decide_eq_false (show ¬ st < 0 by omega)]
  refine (Cb_false (p := _)).2 ?_
  have hb2 := k2.has hb1 (by simp)
  refine LdV_has (v := .int .i64 g.s) hb2 rfl (OpI_int.2 ⟨rfl, rfl, ?_⟩)
  rw [decide_eq_false (show ¬ st ≥ g.s by omega), decide_eq_false (show ¬ off < 0 by omega)]
  refine (Cb_false (p := _)).2 ?_
  refine LdV_has (v := .int .i64 g.c) hb2 rfl (OpI_int.2 ?_)
  rw [decide_eq_false (show ¬ off ≥ g.c by omega)]
  refine (Cb_false (p := _)).2 ?_
  refine LdV_has (v := .int .i64 g.d) hb2 rfl (OpI_int.2 ?_)
  have k02 := k1.trans k2
  generalize hq : w.heap.size = b at *
  refine LoopC_of (σ := (Option Addr × Nat × Nat) × Int × Unit) (fun s w' => ∃ k : Nat, s.2.1 = (k : Int) ∧ (k : Int) ≤ g.d ∧ s.1.2.1 = k ∧ OwnL plLay w' (b + 1) 84 s.1.1 k s.1.2.2 (rowP g st off k) ∧ Has w' b (.cells (geoV g) 24 (0, 0)) ∧ Keep (fun _ => False) w w' ∧ b + 1 ≤ w'.heap.size) (fun s _ => (g.d - s.2.1).toNat)
    ⟨0, rfl, by omega, rfl, OwnL.nil, hb2, k02, hb2.lt⟩ ?_
  rintro _ ⟨⟨p, l, c⟩, i, u⟩ w3 ⟨k, hi, hk, hl, o3, hb3, k3, z3⟩
  simp only at hi hl o3 ⊢
  subst hi hl
  refine Cb_of (fun hc => ?_) (fun hc => ?_)
  · have hc : (l : Int) < g.d := by simpa using hc
    intro dd
    refine ⟨fun w' => Has w' b (.cells (geoV g) 24 (0, 0)), hb3.dr dd, ?_⟩
    refine LdA_of (cs := geoV g) rfl (fun w' hw => ⟨_, _, _, hw, Nat.le_refl 3, rfl⟩) ?_
    refine LdV_of (v := .int .i64 g.d) (fun w' hw => ⟨_, _, _, hw, rfl⟩) (OpI_int.2 ?_)
    refine LdV_of (v := .int .i64 g.c) (fun w' hw => ⟨_, _, _, hw, rfl⟩) (OpI_int.2 ?_)
    refine l_first hh hst.1 fun w4 k4 => ?_
    have hb4 := k4.has (hb3.dr dd) (by simp)
    refine OpI_int.2 ⟨hb4, by omega, ?_⟩
    have hf := firstP_lt hh st
    have r1 : Int.tmod (IntKind.wrap .i64 (firstP g st + (l : Int))) g.d = (firstP g st + (l : Int)) % g.d := by rw [wrapI (by omega) (by omega), Int.tmod_eq_emod_of_nonneg (by omega)]
    have r2 : IntKind.wrap .i64 ((IntKind.wrap .i64 (st * g.c)) + off) = st * g.c + off := by rw [wrapI (x := st * g.c) (by omega) (by omega), wrapI (by omega) (by omega)]
    rw [r1, r2]
    refine ⟨.agg (plcV (plcP g st off (l : Int))), fun w' _ => run_build _ _ _ _ (by kernel_rfl), OpA_agg.2 ⟨rfl, ?_⟩⟩
    refine ⟨_, _, bsl_pl1 _ w4, OpS_slice.2 ?_⟩
    have k5 := Keep.new (fun _ => False) w4 (.cells (plcV (plcP g st off (l : Int))) 84)
    have h5 := Has.new w4 (.cells (plcV (plcP g st off (l : Int))) 84)
    generalize hw5 : w4.alloc (.cells (plcV (plcP g st off (l : Int))) 84) = w5 at *
    have k35 := ((Keep.drew (fun _ => False) w3 dd).trans k4).trans k5
    have hb5 := k5.has hb4 (by simp)
    refine ⟨hb5, ?_⟩
    have z5 := k35.size
    obtain ⟨p6, c6, w6, hr6, o6, k6, _⟩ := run_appendF1 plLayT (o3.keep k35 (by simp)) (y := plcP g st off (l : Int)) h5 rfl (ty := 184) (by omega) (by simp only [maxLen]; omega) (by omega) (c2 := 1)
    have hb6 := k6.has hb5 (fun e => by have := (o3.lt e).1; omega)
    refine ⟨_, _, hr6, OpS_slice.2 ⟨hb6, ?_⟩⟩
    have ek : IntKind.wrap .i64 ((l : Int) + 1) = ((l + 1 : Nat) : Int) := by rw [wrapI (by omega) (by omega)]; omega
    refine ⟨_, by show (g.d - IntKind.wrap .i64 ((l : Int) + 1)).toNat < (g.d - (l : Int)).toNat; rw [ek]; omega, ⟨l + 1, ek, by omega, rfl, by rw [rowP_succ]; exact o6, hb6, (k3.trans k35).trans' k6 fun i hi e => by have := (o3.lt e).1; rw [hq] at hi; omega, by have := k6.size; omega⟩, rfl⟩
  · have hc : (l : Int) = g.d := by
      have : ¬ (l : Int) < g.d := by simpa using hc
      omega
    have e : g.d.toNat = l := by omega
    rw [e] at hK
    exact Ret_nil.2 (hK p c w3 (o3.rebase (by omega)) k3)
end calls
end Go.Proofs
