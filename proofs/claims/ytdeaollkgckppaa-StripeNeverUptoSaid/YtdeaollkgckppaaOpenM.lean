import Derived.Test.YtdeaollkgckppaaRefM
import Derived.Test.YtdeaollkgckppaaFLaw09

/-
  THE LAWS' SETS: small, made, awake.
-/
namespace Go.Proofs
open Go Go.Ev
set_option linter.unusedSimpArgs false
set_option linter.unusedVariables false
set_option maxRecDepth 100000

def smallG (a b c : Int) : Geo := ⟨a % 4 + 4, b % 2 + 1, c % 4 + 1⟩
theorem smallG_ok {a b c : Int} : GeoOk (smallG a b c) := by
  have h1 := Int.emod_nonneg a (show (4 : Int) ≠ 0 by decide)
  have h2 := Int.emod_lt_of_pos a (show (0 : Int) < 4 by decide)
  have h3 := Int.emod_nonneg b (show (2 : Int) ≠ 0 by decide)
  have h4 := Int.emod_lt_of_pos b (show (0 : Int) < 2 by decide)
  have h5 := Int.emod_nonneg c (show (4 : Int) ≠ 0 by decide)
  have h6 := Int.emod_lt_of_pos c (show (0 : Int) < 4 by decide)
  exact ⟨⟨by show 4 ≤ a % 4 + 4; omega, by show a % 4 + 4 ≤ 32; omega⟩, ⟨by show 1 ≤ b % 2 + 1; omega, by show b % 2 + 1 ≤ 8; omega⟩, ⟨by show 1 ≤ c % 4 + 1; omega, by show c % 4 + 1 ≤ 64; omega⟩⟩
theorem EqB_geo_ne {x y : Operand} {g : Geo} (hg : GeoOk g) {C : World → Prop} {K : Bool → Prop} (hK : K false) :
    EqB Try.prog .neq 25 x y (.agg (geoV g)) (.agg (geoV g)) C K := by
  obtain ⟨⟨d1, d2⟩, ⟨c1, c2⟩, ⟨s1, s2⟩⟩ := hg
  have ok : ∀ n : Int, 0 ≤ n ∧ n ≤ 1000 → CK.ok (.int .i64) (.int .i64 n) := fun n hn => ⟨_, rfl, by show (-9223372036854775808 : Int) ≤ n; omega, by show n ≤ (9223372036854775807 : Int); omega⟩
  have hf : Fits [.int .i64, .int .i64, .int .i64] (geoV g).toList := ⟨ok _ (by omega), ok _ (by omega), ok _ (by omega), trivial⟩
  refine EqB_flat_ne (ks := [.int .i64, .int .i64, .int .i64]) (by kernel_rfl) (by kernel_rfl) (by kernel_rfl) (by kernel_rfl) (by kernel_rfl) hf hf fun r hr => ?_
  cases r with
  | false => exact hK
  | true => exact absurd rfl (hr.1 rfl)
/-- a set beside the references' one -/
def lwV (g : Geo) (p : Option Addr) (c : Nat) (pr : Option Addr) (cr m : Nat) : Array Value :=
  #[.int .i64 g.d, .int .i64 g.c, .int .i64 g.s, .slice p g.d.toNat c, .int .i64 g.d, .int .i64 g.c, .int .i64 g.s, .slice pr g.d.toNat cr, .bool false, .int .i64 (-1), .int .i64 0, .pointer (some ⟨m, 0, none⟩)]
theorem one_lwV (g : Geo) (p : Option Addr) (c : Nat) (pr : Option Addr) (cr m : Nat) : ∀ v ∈ (lwV g p c pr cr m).toList, oneV v = true := by
  intro v hv
  have hv : v ∈ [Value.int .i64 g.d, .int .i64 g.c, .int .i64 g.s, .slice p g.d.toNat c, .int .i64 g.d, .int .i64 g.c, .int .i64 g.s, .slice pr g.d.toNat cr, .bool false, .int .i64 (-1), .int .i64 0, .pointer (some ⟨m, 0, none⟩)] := hv
  simp only [List.mem_cons, List.not_mem_nil, or_false] at hv
  rcases hv with rfl | rfl | rfl | rfl | rfl | rfl | rfl | rfl | rfl | rfl | rfl | rfl <;> rfl
def pw0 : Pow := ⟨true, 0, 0⟩
theorem lit0 : Lit0 pw0 := ⟨rfl, rfl⟩
section calls
variable {w : World} {R : Value → World → Prop}
theorem w_small {a b c : Int} (ha : 0 ≤ a ∧ a ≤ 255) (hb : 0 ≤ b ∧ b ≤ 255) (hc : 0 ≤ c ∧ c ≤ 255) (hK : ∀ w', Keep (fun _ => False) w w' → R (.agg (geoV (smallG a b c))) w') : CallV Try.prog 13 #[.int .u8 a, .int .u8 b, .int .u8 c] w R := by
  apply C_ravelinlaw09_small
  unfold F_ravelinlaw09_small
  refine alc_fresh fun w1 hb1 k1 z1 => ?_
  refine ⟨by decide, by decide, by decide, ?_⟩
  have h1 := Int.emod_nonneg a (show (4 : Int) ≠ 0 by decide)
  have h2 := Int.emod_lt_of_pos a (show (0 : Int) < 4 by decide)
  have h3 := Int.emod_nonneg b (show (2 : Int) ≠ 0 by decide)
  have h4 := Int.emod_lt_of_pos b (show (0 : Int) < 2 by decide)
  have h5 := Int.emod_nonneg c (show (4 : Int) ≠ 0 by decide)
  have h6 := Int.emod_lt_of_pos c (show (0 : Int) < 4 by decide)
  rw [Int.tmod_eq_emod_of_nonneg ha.1, Int.tmod_eq_emod_of_nonneg hb.1, Int.tmod_eq_emod_of_nonneg hc.1, wrapI (x := a % 4) (by omega) (by omega), wrapI (x := b % 2) (by omega) (by omega), wrapI (x := c % 4) (by omega) (by omega), wrapI (x := a % 4 + 4) (by omega) (by omega), wrapI (x := b % 2 + 1) (by omega) (by omega), wrapI (x := c % 4 + 1) (by omega) (by omega)]
  refine DoQ_of (v := .agg (geoV (smallG a b c))) (fun _ => run_build _ _ _ _ (by kernel_rfl)) (OpA_agg.2 ⟨rfl, ?_⟩)
  refine StA_all hb1 rfl (by kernel_rfl) (one_geoV _) ?_
  refine LdA_all (hb1.upd_same _) rfl (Ret_nil.2 (hK _ ?_))
  exact k1.trans' ((Keep.refl (fun k => k = w.heap.size) _).upd (fun _ => rfl) _) fun i hi e => by omega
theorem w_made {g : Geo} (hg : GeoOk g) (hK : ∀ m bks p c pr cr xs w', SetAt w' ⟨m, g, bks⟩ (newS g pw0) → OwnL dLay w' w.heap.size 59 p g.d.toNat c (bks.map Prod.fst) → RSet w' w.heap.size pr g.d.toNat cr (g.c * g.s).toNat xs → w.heap.size ≤ m → (SB.mk m g bks).from_ w.heap.size → Keep (fun _ => False) w w' → R (.tuple #[.agg (lwV g p c pr cr m), .bool true]) w') :
    CallV Try.prog 14 #[.agg (geoV g)] w R := by
  apply C_ravelinlaw09_made
  unfold F_ravelinlaw09_made
  have hgd := hg.d
  refine alc_fresh fun w1 hb1 k1 z1 => ?_
  refine alc_fresh fun w2 hb2 k2 z2 => ?_
  have hg2 := k2.has hb1 (by simp)
  refine ma_New fun m w3 hm hma k3 z3 => OpN_some.2 ?_
  have hg3 := k3.has hg2 (by simp)
  refine LdA_all hg3 rfl ?_
  refine st_New hg hma fun p c bks w4 hS o4 hfr k4 => ?_
  refine T2_mk.2 (OpA_agg.2 ⟨rfl, OpI_int.2 ?_⟩)
  refine copy_of (by kernel_rfl) rfl (one_setV _ _ _ _) fun w5 hb5 k5 z5 => ?_
  refine ⟨rfl, rfl, (Cb_false (p := _)).2 ?_⟩
  refine LdV_has (v := .slice p g.d.toNat c) hb5 rfl (OpS_slice.2 ?_)
  have k35 := k4.trans k5
  have hg5 := k35.has hg3 (by simp)
  refine LdV_has (v := .int .i64 g.d) hg5 rfl (OpI_int.2 ?_)
  have e1 : ((((g.d.toNat : Nat) : Int)) != g.d) = false := by
    rw [show ((g.d.toNat : Nat) : Int) = g.d by omega]; simp
  rw [e1]
  refine (Cb_false (p := _)).2 ?_
  refine LdA_has (cs := geoV g) hb5 (by show 0 + 3 ≤ 4; decide) rfl ?_
  refine LdA_all hg5 rfl ?_
  refine EqB_geo_ne hg ((Cb_false (p := _)).2 ?_)
  refine LdA_all hb5 rfl ?_
  have hS5 := hS.keep0 k5
  have o5 := o4.keep k5 (by simp)
  refine st_Check hS5 o5.sl o5.cap.1 fun w6 k6 => ?_
  refine OpI_int.2 ((Cb_false (p := _)).2 ?_)
  intro d
  have kd := Keep.drew (fun _ => False) w6 d
  have k57 := k6.trans kd
  generalize w6.dr d = w7 at *
  have hb7 := k57.has hb5 (by simp)
  have hg7 := k57.has hg5 (by simp)
  have hz7 := (k35.trans k57).has (k3.has hb2 (by simp)) (by simp)
  refine ⟨fun w' => Has w' w4.heap.size (.cells (setV g p g.d.toNat c) 29 (0, 0)) ∧ Has w' w.heap.size (.cells (geoV g) 25 (0, 0)), ⟨hb7, hg7⟩, ?_⟩
  refine LdA_of (cs := setV g p g.d.toNat c) rfl (fun w' hw => ⟨_, _, _, hw.1, Nat.le_refl 4, rfl⟩) ?_
  refine LdA_of (cs := geoV g) rfl (fun w' hw => ⟨_, _, _, hw.2, Nat.le_refl 3, rfl⟩) ?_
  refine r6_On fun w8 k8 => OpA_agg.2 ⟨rfl, ⟨⟨k8.has hb7 (by simp), k8.has hg7 (by simp)⟩, ?_⟩⟩
  refine r9_New hg fun pr cr xs w9 hR k9 => OpA_agg.2 ⟨rfl, ⟨⟨(k8.trans k9).has hb7 (by simp), (k8.trans k9).has hg7 (by simp)⟩, ?_⟩⟩
  refine DoQ_of (v := .agg (lwV g p c pr cr m)) (fun _ => run_build _ _ _ _ (by kernel_rfl)) (OpA_agg.2 ⟨rfl, ?_⟩)
  have k79 := k8.trans k9
  have hz9 := k79.has hz7 (by simp)
  refine StA_all hz9 rfl (by kernel_rfl) (one_lwV _ _ _ _ _ _) ?_
  have hbx : w4.heap.size ≠ w1.heap.size := by have := (k3.trans k4).size; omega
  have hgx : w.heap.size ≠ w1.heap.size := by omega
  have ku : Keep (fun k => k = w1.heap.size) w9 (w9.upd w1.heap.size (.cells (lwV g p c pr cr m) 37 (0, 0))) := (Keep.refl (fun k => k = w1.heap.size) w9).upd (fun _ => rfl) _
  refine ⟨⟨ku.has (k79.has hb7 (by simp)) hbx, ku.has (k79.has hg7 (by simp)) hgx⟩, ?_⟩
  refine LdA_all (hz9.upd_same _) rfl (Ret_nil.2 ?_)
  have k59 := k57.trans k79
  have k39 := k35.trans k59
  have k09 := ((k1.trans k2).trans k3).trans k39
  have z3w : w.heap.size ≤ w3.heap.size := ((k1.trans k2).trans k3).size
  have zw9 : w.heap.size ≤ w8.heap.size := (((k1.trans k2).trans k3).trans ((k35.trans k57).trans k8)).size
  refine hK m bks p c pr cr xs _ ((hS5.keep0 k59).keep ku fun i hi e => ?_) ((((o5.keep k59 (by simp)).rebase z3w)).keep ku fun k hk e => ?_) (RSet.keep ⟨hR.row.rebase zw9, fun x hx => ⟨(hR.cells x hx).1, (hR.cells x hx).2.rebase zw9⟩, fun x hx => (hR.goods x hx).rebase zw9⟩ ku fun b cs t hb ht _ e => ?_) (by omega) (fun br hbr => ?_) (k09.trans' ku fun i hi e => by omega)
  · subst e
    exact (hS5.keep0 k59).typ hz9 (by decide) (by decide) (by decide) hi
  · exact OwnL.neH (o5.keep k59 (by simp)) hz9 (by decide) (by rw [hk, e])
  · subst e
    refine hb.ne hz9 ?_ rfl
    rcases ht with rfl | rfl | rfl
    · simp only [ne_eq, Obj.cells.injEq]; intro e; exact absurd e.2.1 (by decide)
    · simp only [ne_eq, Obj.cells.injEq]; intro e; exact absurd e.2.1 (by decide)
    · simp only [ne_eq, Obj.cells.injEq]; intro e; exact absurd e.2.1 (by decide)
  · have := hfr br hbr
    omega
end calls
end Go.Proofs

/-
  THE LAWS' SETS: awake.
-/
namespace Go.Proofs
open Go Go.Ev
set_option linter.unusedSimpArgs false
set_option linter.unusedVariables false
set_option maxRecDepth 100000

def putK (g : Geo) (st off : Int) (row : List Sec) (k : Int) : PutS := ⟨plcP g st off k, ⟨row.getD k.toNat (sec []), sumS (plcP g st off k).at_ (row.getD k.toNat (sec []))⟩⟩
theorem planL_alive {g : Geo} {s : SS} {st off : Int} {row : List Sec} (h : ∀ i, deadS s i = false) : ∀ ks, planL g s st off row ks = ks.map (putK g st off row)
  | [] => rfl
  | k :: ks => by
    have ih := planL_alive (g := g) (st := st) (off := off) (row := row) h ks
    unfold planL at ih ⊢
    have hk := h (plcP g st off k).dk
    unfold deadS at hk
    have : planK g s st off row k = some (putK g st off row k) := by unfold planK; rw [if_neg (by rw [hk]; decide)]; rfl
    rw [List.filterMap_cons, this, List.map_cons, ih]
theorem lost_none {g : Geo} (hg : GeoOk g) {s : SS} {st off : Int} (hst : 0 ≤ st ∧ st < g.s) (hof : 0 ≤ off ∧ off < g.c) (h : ∀ i a, 0 ≤ i ∧ i < g.d → 0 ≤ a ∧ a < g.c * g.s → viewS s i a ≠ none) : lostN (colsS g s st off) = 0 := by
  have hl := goneL_len (colsS g s st off)
  cases hG : goneL (colsS g s st off) with
  | nil => rw [hG] at hl; exact hl.symm
  | cons x l =>
    exfalso
    obtain ⟨n, h1, h2, h3⟩ := goneI_lt (colsS g s st off) _ x (by show x ∈ goneL _; rw [hG]; simp)
    rw [len_colsS] at h2
    rw [colsS_view h2] at h3
    obtain ⟨pk1, pk2⟩ := plcP_ok hg hst hof (n : Int)
    exact h _ _ pk1 pk2 (Option.some.inj h3)
theorem EqB_plc {x y : Operand} {p q : Plc} (hp : (0 ≤ p.dk ∧ p.dk ≤ 1000000) ∧ (0 ≤ p.at_ ∧ p.at_ ≤ 1000000)) (hq : (0 ≤ q.dk ∧ q.dk ≤ 1000000) ∧ (0 ≤ q.at_ ∧ q.at_ ≤ 1000000)) {C : World → Prop} {K : Bool → Prop} (hK : ∀ r : Bool, (r = true ↔ p = q) → K r) :
    EqB Try.prog .eql 53 x y (.agg (plcV p)) (.agg (plcV q)) C K := by
  have ok : ∀ n : Int, 0 ≤ n ∧ n ≤ 1000000 → CK.ok (.int .i64) (.int .i64 n) := fun n hn => ⟨_, rfl, by show (-9223372036854775808 : Int) ≤ n; omega, by show n ≤ (9223372036854775807 : Int); omega⟩
  have hf : ∀ r : Plc, (0 ≤ r.dk ∧ r.dk ≤ 1000000) ∧ (0 ≤ r.at_ ∧ r.at_ ≤ 1000000) → Fits [.int .i64, .int .i64] (plcV r).toList := fun r hr => ⟨ok _ hr.1, ok _ hr.2, trivial⟩
  refine EqB_flat (ks := [.int .i64, .int .i64]) (by kernel_rfl) (by kernel_rfl) (by kernel_rfl) (by kernel_rfl) (by kernel_rfl) (hf p hp) (hf q hq) fun r hr => hK r (hr.trans ⟨fun e => ?_, fun e => by rw [e]⟩)
  have e : (plcV p).toList = (plcV q).toList := by rw [e]
  have e : [Value.int .i64 p.dk, .int .i64 p.at_] = [Value.int .i64 q.dk, .int .i64 q.at_] := e
  simp only [List.cons.injEq, Value.int.injEq, true_and, and_true] at e
  cases p; cases q; simp_all
theorem newS_lost {g : Geo} (hg : GeoOk g) (pw : Pow) {st off : Int} (hst : 0 ≤ st ∧ st < g.s) (hof : 0 ≤ off ∧ off < g.c) : lostN (colsS g (newS g pw) st off) = 0 :=
  lost_none hg hst hof fun i a hi ha => by rw [newS_view hg hi ha]; simp
def g4 : Geo := ⟨4, 1, 2⟩
theorem g4_ok : GeoOk g4 := ⟨by decide, by decide, by decide⟩
theorem put_take2 (x : PutS) : ∃ cs : Array Value, cs = plcV x.plc ∧ (putSV x).extract 0 (0 + 2) = cs := by
  refine ⟨_, rfl, ?_⟩
  apply Array.ext'
  unfold putSV plcV putSL plcL
  simp only [Array.toList_extract, List.extract_eq_take_drop, List.cons_append, List.nil_append, List.drop_zero]
  rfl
/-- the place of a put in a row -/
theorem ldPlc {w : World} {p : Option Addr} {l : Nat} {xs : List PutS} (h : SlL puLay w p l xs) {i : Int} {x : PutS} (h0 : 0 ≤ i) (hi : xs[i.toNat]? = some x) {K : Array Value → Prop} (hK : K (plcV x.plc)) : IdxS p l i 19 fun b o => LdA 2 b o (At w) K := by
  obtain ⟨b, o, hp, hc⟩ := h.2 _ x hi
  have hlt := (List.getElem?_eq_some_iff.1 hi).1
  have hl := h.1
  refine ⟨b, o, hp, h0, by omega, plcV x.plc, rfl, ?_, hK⟩
  rintro w' ⟨d, rfl⟩ j hj
  have := hc j (by show j < 19; omega)
  rw [show (w.dr d).cell? ⟨b, o + i.toNat * 19 + j, none⟩ = w.cell? ⟨b, o + i.toNat * puLay.size + j, none⟩ from rfl, this]
  rcases (show j = 0 ∨ j = 1 by omega) with rfl | rfl <;> rfl
section calls
variable {w : World} {R : Value → World → Prop}
theorem w_awake (hK : ∀ w', Keep (fun _ => False) w w' → R (.bool true) w') : CallV Try.prog 16 #[] w R := by
  apply C_ravelinlaw09_awake
  unfold F_ravelinlaw09_awake
  refine DoQ_of (v := .agg (geoV g4)) (fun _ => run_build _ _ _ _ (by kernel_rfl)) (OpA_agg.2 ⟨rfl, ?_⟩)
  refine ma_New fun m w1 hm hma k1 z1 => OpN_some.2 ?_
  refine st_New g4_ok hma fun p c bks w2 hS o2 hfr k2 => ?_
  refine T2_mk.2 (OpA_agg.2 ⟨rfl, OpI_int.2 ?_⟩)
  refine copy_of (by kernel_rfl) rfl (one_setV _ _ _ _) fun w3 hb3 k3 z3 => ?_
  refine (Cb_false (p := _)).2 ?_
  refine LdA_all hb3 rfl ?_
  refine DoQ_of (fun _ => bld_sec1 7 _) (OpA_agg.2 ⟨rfl, ?_⟩)
  have hS : SetAt w2 ⟨m, g4, bks⟩ (newS g4 pw0) := hS
  have o3 := o2.keep k3 (by simp)
  have k13 := (k1.trans k2).trans k3
  refine st_Plan (hS.keep0 k3) o3.sl o3.cap.1 (newS_ok g4_ok pw0).ok (lba := 0) (by decide) (by show (0 : Int) < (4 - 2) * 1 * 2; decide) (data := sec [7]) (sec_ok (by simp)) fun p4 c4 w4 o4 k4 => ?_
  have hspot : spotP g4 0 = (0, 0, 0) := by decide
  have hplan : ∃ row, planS g4 (newS g4 pw0) 0 (sec [7]) = ([(0 : Int), 2, 3].map (putK g4 0 0 row), 0) := by
    refine ⟨rowW (rowR (colsS g4 (newS g4 pw0) 0 0)) 0 (sec [7]), ?_⟩
    unfold planS
    rw [hspot]
    simp only
    rw [if_neg (by decide), if_pos (by rw [newS_lost g4_ok pw0 (by decide) (by decide)]; omega), planL_alive (newS_dead g4 pw0)]
    rfl
  obtain ⟨row, hrow⟩ := hplan
  have hrow' : planS (SB.mk m g4 bks).g (newS g4 pw0) 0 (sec [7]) = ([(0 : Int), 2, 3].map (putK g4 0 0 row), 0) := hrow
  rw [hrow'] at o4 ⊢
  refine T2_mk.2 (OpS_slice.2 (OpI_int.2 ((Cb_true (q := _)).2 ((Cb_true (q := _)).2 ?_))))
  refine ldPlc o4.sl (i := 0) (x := putK g4 0 0 row 0) (by omega) rfl ?_
  refine DoQ_of (v := .agg (plcV ⟨1, 0⟩)) (fun _ => run_build _ _ _ _ (by kernel_rfl)) (OpA_agg.2 ⟨rfl, ?_⟩)
  have hpl : (putK g4 0 0 row 0).plc = ⟨1, 0⟩ := by show plcP g4 0 0 0 = ⟨1, 0⟩; rfl
  rw [hpl]
  refine EqB_plc ⟨by decide, by decide⟩ ⟨by decide, by decide⟩ fun r hr => Ret_nil.2 ?_
  rw [hr.2 rfl]
  exact hK w4 (k13.trans k4)
end calls
end Go.Proofs

/-
  THE LAWS OF STRIPE: how they begin.
-/
namespace Go.Proofs
open Go Go.Ev
set_option linter.unusedSimpArgs false
set_option linter.unusedVariables false
set_option maxRecDepth 100000

def Open9 (a b c : Int) (w : World) (R : Value → World → Prop) (K : Nat → Nat → Int → World → Prop) : Prop :=
  CallV Try.prog 13 #[.int .u8 a, .int .u8 b, .int .u8 c] w fun v w => OpA 3 v fun cs => Alc 25 (zc Try.prog 25) w fun b2 w => StA 3 b2 0 cs w fun
  w => LdA 3 b2 0 (At w) fun cs1 => CallV Try.prog 14 #[.agg cs1] w fun v1 w => T2 v1 fun v2 v3 => OpA 12 v2 fun cs2 => OpB v3 fun g => Alc 37 (zc Try.prog 37) w fun b3 w =>
  StA 12 b3 0 cs2 w fun w => LdA 3 b2 0 (At w) fun cs3 => CallV Try.prog 15 #[.agg cs3] w fun v4 w => T2 v4 fun v5 v6 => OpI .i64 v5 fun n => OpI .i64 v6 fun n1 => CallV
  Try.prog 16 #[] w fun v7 w => OpB v7 fun g1 => Req ((!g1) = (!g1)) (Req ((!g1) = (!g1)) (Cb (cond (!g1) true (!g)) (Ret [] (R (.bool false) w)) (K b2 b3 n w)))
def capG (g : Geo) : Int := (g.d - 2) * g.c * g.s
/-- what stands when a law has begun -/
structure Opened (w0 w : World) (g : Geo) (b2 b3 m : Nat) (bks : List (Nat × Nat)) (p : Option Addr) (c : Nat) (pr : Option Addr) (cr : Nat) (xs : List (Nat × Nat × Nat)) : Prop where
  geo : Has w b2 (.cells (geoV g) 25 (0, 0))
  lw : Has w b3 (.cells (lwV g p c pr cr m) 37 (0, 0))
  row : OwnL dLay w w0.heap.size 59 p g.d.toNat c (bks.map Prod.fst)
  rset : RSet w w0.heap.size pr g.d.toNat cr (g.c * g.s).toNat xs
  from_ : (SB.mk m g bks).from_ w0.heap.size
  m : w0.heap.size ≤ m
  b2 : w0.heap.size ≤ b2
  b3 : w0.heap.size ≤ b3
section calls
variable {w0 w w' : World} {g : Geo} {b2 b3 m : Nat} {bks : List (Nat × Nat)} {p : Option Addr} {c : Nat} {pr : Option Addr} {cr : Nat} {xs : List (Nat × Nat × Nat)}
theorem Opened.foot (h : Opened w0 w g b2 b3 m bks p c pr cr xs) {i : Nat} (hi : SFoot ⟨m, g, bks⟩ i) : w0.heap.size ≤ i := by
  rcases hi with rfl | hi | hi
  · exact h.m
  · obtain ⟨br, hb, rfl⟩ := List.mem_map.1 hi
    exact (h.from_ br hb).1
  · obtain ⟨br, hb, rfl⟩ := List.mem_map.1 hi
    exact (h.from_ br hb).2
/-- calls that change the disks alone -/
theorem Opened.keep (h : Opened w0 w g b2 b3 m bks p c pr cr xs) {s : SS} (hS : SetAt w ⟨m, g, bks⟩ s) (k : Keep (SFoot ⟨m, g, bks⟩) w w') : Opened w0 w' g b2 b3 m bks p c pr cr xs :=
  ⟨k.has h.geo (hS.typ h.geo (by decide) (by decide) (by decide)), k.has h.lw (hS.typ h.lw (by decide) (by decide) (by decide)), h.row.keep k (fun b hb hi => by
      rcases Own.cases h.row with ⟨h0, _⟩ | ⟨b', cur, h0, _, hg, _⟩
      · rw [h0] at hb; cases hb
      · rw [h0] at hb; cases hb
        exact hS.typ hg (by decide) (by decide) (by decide) hi),
    h.rset.keep k (fun b cs t hb ht _ => by
      rcases ht with rfl | rfl | rfl
      · exact hS.typ hb (by decide) (by decide) (by decide)
      · exact hS.typ hb (by decide) (by decide) (by decide)
      · exact hS.typ hb (by decide) (by decide) (by decide)), h.from_, h.m, h.b2, h.b3⟩
theorem Opened.keep0 (h : Opened w0 w g b2 b3 m bks p c pr cr xs) (k : Keep (fun _ => False) w w') : Opened w0 w' g b2 b3 m bks p c pr cr xs :=
  ⟨k.has h.geo (by simp), k.has h.lw (by simp), h.row.keep k (by simp), h.rset.keep0 k, h.from_, h.m, h.b2, h.b3⟩
theorem Opened.off (h : Opened w0 w g b2 b3 m bks p c pr cr xs) {s : SS} (hS : SetAt w ⟨m, g, bks⟩ s) : ∀ b o, p = some ⟨b, o, none⟩ → ¬ SFoot ⟨m, g, bks⟩ b := fun b o hb hi => by
  rcases Own.cases h.row with ⟨h0, _⟩ | ⟨b', cur, h0, _, hg, _⟩
  · rw [h0] at hb; cases hb
  · rw [h0] at hb; cases hb
    exact hS.typ hg (by decide) (by decide) (by decide) hi
theorem lw_set (g : Geo) (p : Option Addr) (c : Nat) (pr : Option Addr) (cr m : Nat) : (lwV g p c pr cr m).extract 0 (0 + 4) = setV g p g.d.toNat c := by
  apply Array.ext'
  unfold lwV setV
  simp only [Array.toList_extract, List.extract_eq_take_drop, List.drop_zero]
  rfl
/-- the set beside the references' -/
theorem Opened.ld (h : Opened w0 w g b2 b3 m bks p c pr cr xs) {K : Array Value → Prop} (hK : K (setV g p g.d.toNat c)) : LdA 4 b3 0 (At w) K :=
  LdA_has (cs := setV g p g.d.toNat c) h.lw (by show 0 + 4 ≤ 12; decide) (lw_set _ _ _ _ _ _) hK
theorem open9 {a b c : Int} {R : Value → World → Prop} (ha : 0 ≤ a ∧ a ≤ 255) (hb : 0 ≤ b ∧ b ≤ 255) (hc : 0 ≤ c ∧ c ≤ 255) {K : Nat → Nat → Int → World → Prop}
    (hK : ∀ b2 b3 m bks p cc pr cr xs w', SetAt w' ⟨m, smallG a b c, bks⟩ (newS (smallG a b c) pw0) → Opened w w' (smallG a b c) b2 b3 m bks p cc pr cr xs → Keep (fun _ => False) w w' → K b2 b3 (capG (smallG a b c)) w') : Open9 a b c w R K := by
  unfold Open9
  have hg := smallG_ok (a := a) (b := b) (c := c)
  refine w_small ha hb hc fun w1 k1 => OpA_agg.2 ⟨rfl, ?_⟩
  generalize smallG a b c = g at *
  refine copy_of (by kernel_rfl) rfl (one_geoV _) fun w2 hb2 k2 z2 => ?_
  refine LdA_all hb2 rfl ?_
  refine w_made hg fun m bks p cc pr cr xs w3 hS o3 hR hm hfr k3 => ?_
  refine T2_mk.2 (OpA_agg.2 ⟨rfl, OpB_bool.2 ?_⟩)
  refine copy_of (by kernel_rfl) rfl (one_lwV _ _ _ _ _ _) fun w4 hb4 k4 z4 => ?_
  have hb24 := (k3.trans k4).has hb2 (by simp)
  refine LdA_all hb24 rfl ?_
  refine r3_Cap hg fun w5 k5 => ?_
  refine T2_mk.2 (OpI_int.2 (OpI_int.2 ?_))
  refine w_awake fun w6 k6 => OpB_bool.2 ⟨rfl, rfl, (Cb_false (p := _)).2 ?_⟩
  have k46 := k5.trans k6
  have k36 := k4.trans k46
  have k02 := k1.trans k2
  have z1 := k1.size
  have z02 := k02.size
  have z03 := (k02.trans k3).size
  exact hK _ _ m bks p cc pr cr xs w6 (hS.keep0 k36) ⟨k46.has hb24 (by simp), k46.has hb4 (by simp), (o3.rebase z02).keep k36 (by simp), RSet.keep0 ⟨hR.row.rebase z02, fun x hx => ⟨(hR.cells x hx).1, (hR.cells x hx).2.rebase z02⟩, fun x hx => (hR.goods x hx).rebase z02⟩ k36, fun br hbr => by have := hfr br hbr; omega, by omega, z1, z03⟩ ((k02.trans k3).trans k36)
end calls
end Go.Proofs
