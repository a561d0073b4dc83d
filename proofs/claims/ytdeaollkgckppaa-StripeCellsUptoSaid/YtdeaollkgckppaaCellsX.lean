/-
  StripeCells, the walk.
-/
import Derived.Test.YtdeaollkgckppaaApplyM
import Derived.Test.YtdeaollkgckppaaRowsX
import Derived.Test.YtdeaollkgckppaaFCells9
namespace Go.Proofs
open Go Go.Ev Go.RowKit
set_option linter.unusedSimpArgs false
set_option linter.unusedVariables false
set_option maxRecDepth 100000

/-! ### as it is printed -/
def Own9 (b1 b6 b9 b10 : Nat) (w : World) (R : Value → World → Prop) (K : World → Prop) : Prop :=
  LdA 2 b10 0 (At w) fun cs18 => LdA 2 b6 0 (At w) fun
  cs19 => EqB Try.prog .eql 53 (.tmp 165) (.tmp 166) (.agg cs18 : Value) (.agg cs19 : Value) (At w) fun g4 => Cb g4 (LdA 16 b9 0 (At w) fun cs20 => LdA 16 b1 0 (At w) fun
  cs21 => EqB Try.prog .neq 23 (.tmp 170) (.tmp 171) (.agg cs20 : Value) (.agg cs21 : Value) (At w) fun g5 => Drw w fun w => Cb g5 (Ret [] (R (.bool false) w)) (K w)) (Drw w fun w => K w)
def Mine9 (mine : Bool) (n9 : Int) (b1 b3 b6 b9 b10 : Nat) (d at_ : Int) (w : World) (R : Value → World → Prop) (K : World → Prop) : Prop :=
  Cb (n9 != 0) (Drw w fun w => Ret [] (R (.bool false) w)) (Cb (!mine) (LdA 17 b9 0 (At w) fun cs16 => LdV b3 7 (At w) fun v31 => OpS v31 fun p2 l2 c3 => IdxS p2 l2
  d 4 fun b11 o3 => LdV b11 o3 (At w) fun v32 => OpS v32 fun p3 l3 c4 => IdxS p3 l3 at_ 17 fun b12 o4 => LdA 17 b12 o4 (At w) fun cs17 => EqB Try.prog .neq 57 (.tmp 150)
  (.tmp 160) (.agg cs16 : Value) (.agg cs17 : Value) (At w) fun g3 => Cb g3 (Drw w fun w => Ret [] (R (.bool false) w)) (Own9 b1 b6 b9 b10 w R K)) (Own9 b1 b6 b9 b10 w R K))
section calls
variable {w0 w : World} {g : Geo} {b1 b2 b3 b6 b9 b10 m : Nat} {bks : List (Nat × Nat)} {p : Option Addr} {c : Nat} {pr : Option Addr} {cr : Nat} {xs : List (Nat × Nat × Nat)} {s : SS} {now : Int → Sec} {R : Value → World → Prop}
theorem plc_small {g : Geo} (hg : GeoOk g) {q : Plc} (h : (0 ≤ q.dk ∧ q.dk < g.d) ∧ (0 ≤ q.at_ ∧ q.at_ < g.c * g.s)) : (0 ≤ q.dk ∧ q.dk ≤ 1000000) ∧ (0 ≤ q.at_ ∧ q.at_ ≤ 1000000) := by
  have := hg.d
  have := hg.size
  omega
theorem celV_data (x : Cel) : (celV x).extract 0 (0 + 16) = secV x.data := by
  apply Array.ext'
  rw [Array.toList_extract, List.extract_eq_take_drop, List.drop_zero]
  show (celL x).take 16 = _
  exact List.take_left' (by simp)
theorem own9 (hg : GeoOk g) {q own : Plc} {x : Cel} {data : Sec} (hq : (0 ≤ q.dk ∧ q.dk < g.d) ∧ (0 ≤ q.at_ ∧ q.at_ < g.c * g.s)) (ho : (0 ≤ own.dk ∧ own.dk < g.d) ∧ (0 ≤ own.at_ ∧ own.at_ < g.c * g.s)) (hx : SecOk x.data) (hd : SecOk data)
    (h1 : Has w b1 (.cells (secV data) 23 (0, 0))) (h6 : Has w b6 (.cells (plcV own) 53 (0, 0))) (h9 : Has w b9 (.cells (celV x) 57 (0, 0))) (h10 : Has w b10 (.cells (plcV q) 53 (0, 0)))
    (hown : q = own → x.data = data) {K : World → Prop} (hK : ∀ d, K (w.dr d)) : Own9 b1 b6 b9 b10 w R K := by
  unfold Own9
  refine LdA_all h10 rfl ?_
  refine LdA_all h6 rfl ?_
  refine EqB_plc (plc_small hg hq) (plc_small hg ho) fun r hr => ?_
  refine Cb_of (fun e => ?_) (fun _ => hK)
  refine LdA_has (cs := secV x.data) h9 (by show 0 + 16 ≤ 17; decide) (celV_data x) ?_
  refine LdA_all h1 rfl ?_
  refine EqB_sec_ne hx hd fun r' hr' => ?_
  have hr0 : r' = false := by
    cases r' with
    | false => rfl
    | true => exact absurd (hown (hr.1 e)) (hr'.1 rfl)
  rw [hr0]
  exact fun d => (Cb_false (p := _)).2 (hK d)
theorem celN_ok (k : Nat) : CelOk (celN k) := ⟨sec0_ok, (sumS_ok _ _).1, (sumS_ok _ _).2⟩
theorem mine9 (hop : Opened w0 w g b2 b3 m bks p c pr cr xs) (hg : GeoOk g) {q own : Plc} {x : Cel} {data : Sec} (hq : (0 ≤ q.dk ∧ q.dk < g.d) ∧ (0 ≤ q.at_ ∧ q.at_ < g.c * g.s)) (ho : (0 ≤ own.dk ∧ own.dk < g.d) ∧ (0 ≤ own.at_ ∧ own.at_ < g.c * g.s)) (hx : CelOk x) (hd : SecOk data)
    (h1 : Has w b1 (.cells (secV data) 23 (0, 0))) (h6 : Has w b6 (.cells (plcV own) 53 (0, 0))) (h9 : Has w b9 (.cells (celV x) 57 (0, 0))) (h10 : Has w b10 (.cells (plcV q) 53 (0, 0)))
    (hown : q = own → x.data = data) {mine : Bool} (hm : mine = false → x = celN q.at_.toNat) {K : World → Prop} (hK : ∀ d, K (w.dr d)) : Mine9 mine 0 b1 b3 b6 b9 b10 q.dk q.at_ w R K := by
  unfold Mine9
  refine (Cb_false (p := _)).2 (Cb_of (fun e => ?_) (fun _ => own9 hg hq ho hx.1 hd h1 h6 h9 h10 hown hK))
  have e : mine = false := by simpa using e
  have hx0 := hm e
  have hdd := hg.d
  have hsz := hg.size
  refine LdA_all h9 rfl ?_
  refine LdV_has (v := .slice pr g.d.toNat cr) hop.lw rfl (OpS_slice.2 ?_)
  have hln := hop.rset.row.length
  obtain ⟨y, hy⟩ : ∃ y, xs[q.dk.toNat]? = some y := ⟨_, List.getElem?_eq_getElem (by omega)⟩
  obtain ⟨hy1, hy2⟩ := hop.rset.cells y (List.mem_of_getElem? hy)
  refine hop.rset.row.ld0 (i := q.dk) (n := 4) (x := y) (v := .slice (some ⟨y.1, 0, none⟩) y.2.2 y.2.2) rfl hq.1.1 hy rfl (OpS_slice.2 ?_)
  rw [hy1]
  refine hy2.ldA (i := q.at_) (n := 17) (x := celN q.at_.toNat) rfl hq.2.1 (by rw [fillN_at (by omega), if_pos (by omega)]) ?_
  rw [hx0]
  refine EqB_cel_ne (celN_ok _) (celN_ok _) fun r hr => ?_
  have hr0 : r = false := by
    cases r with
    | false => rfl
    | true => exact absurd rfl (hr.1 rfl)
  rw [hr0]
  refine (Cb_false (p := _)).2 ?_
  rw [hx0] at h9 hown
  exact own9 hg hq ho sec0_ok hd h1 h6 h9 h10 hown hK
end calls
end Go.Proofs

/-
  StripeCells, the whole.
-/
namespace Go.Proofs
open Go Go.Ev Go.RowKit
set_option linter.unusedSimpArgs false
set_option linter.unusedVariables false
set_option maxRecDepth 100000
section calls
variable {w : World} {base : Nat} {g : Geo} {m : Nat} {bks : List (Nat × Nat)} {p : Option Addr} {c : Nat} {s : SS} {now : Int → Sec} {R : Value → World → Prop}
/-- a cell of a disk that can be read -/
theorem StI.cellC (h : StI w base g m bks p c s now) {i a : Int} (hi : 0 ≤ i ∧ i < g.d) (ha : 0 ≤ a ∧ a < g.c * g.s) {f : Sec} (hv : viewS s i a = some f) (hK : ∀ w', Keep (fun _ => False) w w' → R (.tuple #[.agg (celV ⟨f, sumS a f⟩), .int .i64 0]) w') :
    ∃ b, (bks.map Prod.fst)[i.toNat]? = some b ∧ CallV Try.prog 21 #[.pointer (some ⟨b, 0, none⟩), .int .i64 a] w R := by
  have hnum : (s.ds.length : Int) = g.d := h.set.num
  obtain ⟨b, r, D, hbk, hD, hda, hdl⟩ := h.set.get (i := i.toNat) (by omega)
  have hDg : s.ds.getD i.toNat dsk0 = D := by rw [List.getD_eq_getElem?_getD, hD]; rfl
  have hbk : bks[i.toNat]? = some (b, r) := hbk
  refine ⟨b, by rw [List.getElem?_map, hbk]; rfl, ?_⟩
  have hdl : (D.secs.length : Int) = g.c * g.s := hdl
  have hrd := read_view (s := s) (i := i) h.lit.1 (a := a) (by rw [hDg, hdl]; exact ha) hv
  rw [hDg] at hrd
  refine d_Read hda h.set.main fun w' k => ?_
  rw [hrd]
  exact hK w' k
theorem StI.cellT (h : StI w base g m bks p c s now) {i a : Int} (hi : 0 ≤ i ∧ i < g.d) (ha : 0 ≤ a ∧ a < g.c * g.s) {f : Sec} (hv : viewS s i a = some f) (hK : ∀ w', Keep (fun _ => False) w w' → R (.tuple #[.agg (celV ⟨f, sumS a f⟩), .int .i64 0]) w') :
    IdxS p g.d.toNat i 1 fun b o => LdV b o (At w) fun v => OpN v fun b2 o2 => CallV Try.prog 21 #[.pointer (some ⟨b2, o2, none⟩), .int .i64 a] w R := by
  obtain ⟨bd, hbd, hcall⟩ := h.cellC hi ha hv hK
  exact h.disks.sl.ld0 (i := i) (n := 1) (x := bd) (v := .pointer (some ⟨bd, 0, none⟩)) rfl hi.1 hbd rfl (OpN_some.2 hcall)
end calls
theorem view_ok {g : Geo} {s : SS} (h : SsOk g s) {i a : Int} (hi : 0 ≤ i ∧ i < g.d) {f : Sec} (hv : viewS s i a = some f) : SecOk f := by
  have hok := h.ok _ (h.get hi.1 hi.2)
  unfold viewS cellD at hv
  generalize s.ds.getD i.toNat dsk0 = D at *
  split at hv
  · cases hv
  · split at hv
    · cases hv
    · split at hv
      · have := hok.get a.toNat
        rw [← Option.some.inj hv]
        exact this.1
      · cases hv
theorem cells_walkR {a b c lba : Int} {data : Sec} {w : World} {R : Value → World → Prop} (ha : 0 ≤ a ∧ a ≤ 255) (hb : 0 ≤ b ∧ b ≤ 255) (hc : 0 ≤ c ∧ c ≤ 255) (hl : 0 ≤ lba ∧ lba ≤ 255) (hdat : SecOk data) (hK : ∀ w', Keep (fun _ => False) w w' → R (.bool true) w') :
    CallV Try.prog 3 #[.int .u8 a, .int .u8 b, .int .u8 c, .int .u8 lba, .agg (secV data)] w R := by
  apply C_Cells9
  unfold F_Cells9
  refine alc_fresh fun w1 hb1 k1 z1 => ?_
  refine open9 (R := R) ha hb hc fun b2 b3 m bks p cc pr cr xs w2 hS hO k2 => ?_
  have hg := smallG_ok (a := a) (b := b) (c := c)
  generalize smallG a b c = g at *
  have hcap := hg.cap
  have hcapE : capG g = (g.d - 2) * g.c * g.s := rfl
  rw [← hcapE] at hcap
  have hd := hg.d
  have hcc := hg.c
  have hss := hg.s
  have hsz := hg.size
  have hm0 := Int.emod_nonneg lba (show capG g ≠ 0 by omega)
  have hm1 := Int.emod_lt_of_pos lba (show 0 < capG g by omega)
  refine ⟨by omega, ?_⟩
  rw [wrapI (x := lba) (by omega) (by omega), Int.tmod_eq_emod_of_nonneg hl.1]
  generalize lba % capG g = lb at *
  have hl1 : lb < (g.d - 2) * g.c * g.s := hm1
  have hT2 : StI w2 w1.heap.size g m bks p cc (newS g pw0) now0 := ⟨hS, hO.row, newS_ok hg pw0, lit0, fun i => by rw [newS_key]; omega, newS_inv hg pw0, now0_ok⟩
  have hW0 := newS_whole hg pw0
  obtain ⟨pst, pco, pof⟩ := spotP_ok hg hm0 hl1
  have hlost : lostN (colsS g (newS g pw0) (spotP g lb).1 (spotP g lb).2.2) ≤ 2 := by rw [hW0.lost hg pst pof]; omega
  have hb12 := k2.has hb1 (by simp)
  refine hO.ld ?_
  refine LdA_all hb12 rfl ?_
  refine hT2.plan hm0 hl1 hdat hlost fun pp pn pc w3 hpn hp3 op k3 => ?_
  refine T2_mk.2 (OpS_slice.2 (OpI_int.2 ((Cb_false (p := _)).2 ?_)))
  have hT3 := hT2.keep0 k3
  have hO3 := hO.keep0 k3
  have hb13 := k3.has hb12 (by simp)
  have hp3E : pn = 3 := by
    obtain ⟨-, s', hap, _⟩ := hT2.inv.write (ep := 0) hT2.ss hT2.nok hT2.lit hm0 hl1 hdat hT2.key hlost
    rw [hpn]
    exact (write_alive hT2.ss hT2.inv hT2.nok hT2.lit hm0 hl1 hdat hT2.key hlost (newS_dead g pw0) (by show (0 : Int) ≤ 0; omega) (by show (0 : Int) < 1000000000000; omega) hap).1
  rw [show (((pn : Nat) : Int) != 3) = false by rw [hp3E]; rfl]
  refine (Cb_false (p := _)).2 ?_
  refine hO3.ld ?_
  refine hT3.apply hm0 hl1 hdat hlost hp3 op fun w4 s4 hap hw hT4 k4 => ?_
  obtain ⟨_, hst, hal4, hv1, hv2⟩ := write_alive hT2.ss hT2.inv hT2.nok hT2.lit hm0 hl1 hdat hT2.key hlost (newS_dead g pw0) (by show (0 : Int) ≤ 0; omega) (by show (0 : Int) < 1000000000000; omega) hap
  have hW4 := hW0.write hw
  have hO4 := hO3.keep hT3.set k4
  have hb14 := k4.has hb13 (hT3.set.typ hb13 (by decide) (by decide) (by decide))
  have hst3 : s4.pw.steps = 3 := by rw [hst]; rfl
  refine OpI_int.2 ((Cb_false (p := _)).2 ?_)
  refine LdV_has (v := .pointer (some ⟨m, 0, none⟩)) hO4.lw rfl (OpN_some.2 ?_)
  refine ma_Steps hT4.set.main (OpI_int.2 ?_)
  rw [hst3]
  refine (Cb_false (p := _)).2 ?_
  refine LdA_all hO4.geo rfl ?_
  refine r3_Map hg hm0 hl1 fun w5 k5 => ?_
  refine T3_mk.2 (OpA_agg.2 ⟨rfl, OpA_agg.2 ⟨rfl, OpI_int.2 ?_⟩⟩)
  refine alc_fresh fun w6 hb6 k6 z6 => ?_
  refine alc_fresh fun w7 hb7 k7 z7 => ?_
  have hb67 := k7.has hb6 (by simp)
  refine StA_all hb67 rfl (by kernel_rfl) (one_spotV _) ?_
  have hb8 := hb67.upd_same (.cells (spotV (spotP g lb)) 51 (0, 0))
  have ku8 : Keep (fun k => k = w5.heap.size) w7 (w7.upd w5.heap.size (.cells (spotV (spotP g lb)) 51 (0, 0))) := (Keep.refl (fun k => k = w5.heap.size) w7).upd (fun _ => rfl) _
  have hb78 := ku8.has hb7 (by omega)
  generalize w7.upd w5.heap.size (.cells (spotV (spotP g lb)) 51 (0, 0)) = w8 at *
  refine StA_all hb78 rfl (by kernel_rfl) (one_plcV _) ?_
  have hb9 := hb78.upd_same (.cells (plcV (plcP g (spotP g lb).1 (spotP g lb).2.2 (spotP g lb).2.1)) 53 (0, 0))
  have ku9 : Keep (fun k => k = w6.heap.size) w8 (w8.upd w6.heap.size (.cells (plcV (plcP g (spotP g lb).1 (spotP g lb).2.2 (spotP g lb).2.1)) 53 (0, 0))) := (Keep.refl (fun k => k = w6.heap.size) w8).upd (fun _ => rfl) _
  have hb89 := ku9.has hb8 (by omega)
  generalize w8.upd w6.heap.size (.cells (plcV (plcP g (spotP g lb).1 (spotP g lb).2.2 (spotP g lb).2.1)) 53 (0, 0)) = w9 at *
  have z4 := k5.size
  have k49 : Keep (fun _ => False) w4 w9 := (((k5.trans k6).trans k7).trans' ku8 (fun i hi e => by omega)).trans' ku9 (fun i hi e => by omega)
  have k04 : Keep (fun _ => False) w w4 := (((k1.trans k2).trans k3)).trans' k4 fun i hi hh => by have := hO.foot hh; omega
  have hT9 := hT4.keep0 k49
  have hO9 := hO4.keep0 k49
  have hb19 := k49.has hb14 (by simp)
  have k09 := k04.trans k49
  generalize hx : spotP g lb = x at *
  obtain ⟨own1, own2⟩ := plcP_ok hg pst pof x.2.1
  refine LoopC_of (σ := Int × Unit) (fun st w' => ∃ i : Nat, st.1 = (i : Int) ∧ (i : Int) ≤ g.d ∧ Keep (fun _ => False) w9 w') (fun st _ => (g.d - st.1).toNat) ⟨0, rfl, by omega, Keep.refl _ _⟩ ?_
  rintro _ ⟨i, u⟩ w10 ⟨d, hi, hil, k10⟩
  simp only at hi ⊢
  subst hi
  refine LdV_has (v := .int .i64 g.d) (hO9.keep0 k10).geo rfl (OpI_int.2 ?_)
  refine Cb_of (fun hcd => ?_) (fun hcd => ?_)
  · have hcd : (d : Int) < g.d := by simpa using hcd
    have ekd : IntKind.wrap .i64 ((d : Int) + 1) = ((d + 1 : Nat) : Int) := by rw [wrapI (by omega) (by omega)]; omega
    refine LoopC_of (σ := Int × Unit) (fun st w' => ∃ i : Nat, st.1 = (i : Int) ∧ (i : Int) ≤ g.c * g.s ∧ Keep (fun _ => False) w9 w') (fun st _ => (g.c * g.s - st.1).toNat) ⟨0, rfl, by omega, k10⟩ ?_
    rintro _ ⟨i, u⟩ w11 ⟨at_, hi, hil, k11⟩
    simp only at hi ⊢
    subst hi
    have hO11 := hO9.keep0 k11
    have hT11 := hT9.keep0 k11
    refine LdV_has (v := .int .i64 g.c) hO11.geo rfl (OpI_int.2 ?_)
    refine LdV_has (v := .int .i64 g.s) hO11.geo rfl (OpI_int.2 ?_)
    rw [wrapI (x := g.c * g.s) (by omega) (by omega)]
    refine Cb_of (fun hca => ?_) (fun hca => ?_)
    · have hca : (at_ : Int) < g.c * g.s := by simpa using hca
      have eka : IntKind.wrap .i64 ((at_ : Int) + 1) = ((at_ + 1 : Nat) : Int) := by rw [wrapI (by omega) (by omega)]; omega
      obtain ⟨f, hf⟩ : ∃ f, viewS s4 (d : Int) (at_ : Int) = some f := by
        cases hv : viewS s4 (d : Int) (at_ : Int) with
        | none => exact absurd hv (hW4 _ _ (by omega) (by omega))
        | some f => exact ⟨f, rfl⟩
      refine LdV_has (v := .slice p g.d.toNat cc) hO11.lw rfl (OpS_slice.2 ?_)
      refine hT11.cellT (i := (d : Int)) (a := (at_ : Int)) (by omega) (by omega) hf fun w12 k12 => ?_
      refine T2_mk.2 (OpA_agg.2 ⟨rfl, OpI_int.2 ?_⟩)
      have hCok : CelOk ⟨f, sumS (at_ : Int) f⟩ := ⟨view_ok hT4.ss (by omega) hf, (sumS_ok _ _).1, (sumS_ok _ _).2⟩
      refine copy_of (by rw [zc_cel]; rfl) rfl (one_celV _) fun w13 hb13 k13 z13 => ?_
      refine DoQ_of (v := .agg (plcV ⟨(d : Int), (at_ : Int)⟩)) (fun _ => run_build _ _ _ _ (by kernel_rfl)) (OpA_agg.2 ⟨rfl, ?_⟩)
      refine copy_of (by kernel_rfl) rfl (one_plcV _) fun w14 hb14' k14 z14 => ?_
      have k1114 := (k12.trans k13).trans k14
      have k914 := k11.trans k1114
      have hO14 := hO9.keep0 k914
      refine LdA_all hO14.geo rfl ?_
      refine LdA_all hb14' rfl ?_
      have q0 := Int.emod_nonneg (at_ : Int) (show g.c ≠ 0 by omega)
      have q1 := Int.emod_lt_of_pos (at_ : Int) (show 0 < g.c by omega)
      have hst' : 0 ≤ (at_ : Int) / g.c ∧ (at_ : Int) / g.c < g.s := ⟨Int.ediv_nonneg (by omega) (by omega), Int.ediv_lt_of_lt_mul (by omega) (by rw [Int.mul_comm]; exact hca)⟩
      have hat : (at_ : Int) / g.c * g.c + (at_ : Int) % g.c = (at_ : Int) := by rw [Int.mul_comm]; exact Int.mul_ediv_add_emod _ _
      obtain ⟨k, hk, hkd⟩ := col_of hg ((at_ : Int) / g.c) ((at_ : Int) % g.c) (i := (d : Int)) (by omega)
      have hq : (⟨(d : Int), (at_ : Int)⟩ : Plc) = plcP g ((at_ : Int) / g.c) ((at_ : Int) % g.c) (k : Int) := by
        have e2 : (plcP g ((at_ : Int) / g.c) ((at_ : Int) % g.c) (k : Int)).at_ = (at_ : Int) := hat
        generalize plcP g ((at_ : Int) / g.c) ((at_ : Int) % g.c) (k : Int) = y at *
        cases y
        simp only at hkd e2
        rw [hkd, e2]
      rw [hq]
      refine r3_Back hg hst' ⟨q0, q1⟩ (k := k) (by omega) fun w15 k15 => ?_
      refine T3_mk.2 (OpI_int.2 (OpI_int.2 (OpI_int.2 ?_)))
      rw [hq] at hb14'
      have k1115 := k1114.trans k15
      have hO15 := hO14.keep0 k15
      have hq15 := k15.has hb14' (by simp)
      have hc15 := (k14.trans k15).has hb13 (by simp)
      have ho15 := (k11.trans k1115).has hb9 (by simp)
      have hd15 := (k11.trans k1115).has hb19 (by simp)
      obtain ⟨pq1, pq2⟩ := plcP_ok hg hst' ⟨q0, q1⟩ (k : Int)
      refine LdA_all hq15 rfl ?_
      refine LdA_all ho15 rfl ?_
      -- what is told of the cell
      have hfq : viewS s4 (plcP g ((at_ : Int) / g.c) ((at_ : Int) % g.c) (k : Int)).dk (plcP g ((at_ : Int) / g.c) ((at_ : Int) % g.c) (k : Int)).at_ = some f := by rw [← hq]; exact hf
      have hown : plcP g ((at_ : Int) / g.c) ((at_ : Int) % g.c) (k : Int) = plcP g x.1 x.2.2 x.2.1 → f = data := fun e => by
        rw [e, hv1] at hfq
        exact (Option.some.inj hfq).symm
      have hat' : (plcP g ((at_ : Int) / g.c) ((at_ : Int) % g.c) (k : Int)).at_ = (at_ : Int) := by rw [← hq]
      have hnew : plcP g ((at_ : Int) / g.c) ((at_ : Int) % g.c) (k : Int) ≠ plcP g x.1 x.2.2 x.2.1 → ¬ ((at_ : Int) = (plcP g x.1 x.2.2 x.2.1).at_ ∧ (k : Int) ≥ g.d - 2) → f = sec [] := fun h1 h2 => by
        have hk' : ∀ kk ∈ [x.2.1, g.d - 2, g.d - 1], ¬ ((plcP g ((at_ : Int) / g.c) ((at_ : Int) % g.c) (k : Int)).dk = (plcP g x.1 x.2.2 kk).dk ∧ (plcP g ((at_ : Int) / g.c) ((at_ : Int) % g.c) (k : Int)).at_ = (plcP g x.1 x.2.2 kk).at_) := by
          intro kk hkk he
          have hkr : 0 ≤ kk ∧ kk < g.d := by
            simp only [List.mem_cons, List.not_mem_nil, or_false] at hkk
            omega
          have hinj := plcP_inj hg hst' ⟨q0, q1⟩ pst pof (k := (k : Int)) (k2 := kk) (by omega) hkr he.1 he.2
          simp only [List.mem_cons, List.not_mem_nil, or_false] at hkk
          rcases hkk with e | e
          · exact h1 (by rw [hinj.1, hinj.2.1, hinj.2.2, e])
          · refine h2 ⟨?_, by omega⟩
            have e3 : (plcP g x.1 x.2.2 x.2.1).at_ = (plcP g x.1 x.2.2 kk).at_ := rfl
            rw [e3, ← he.2, hat']
        rw [hv2 _ _ pq1.1 pq2.1 hk', newS_view hg pq1 pq2] at hfq
        exact (Option.some.inj hfq).symm
      have e17 : ∀ K : World → Prop, (∀ d, K (w15.dr d)) → ∀ mine : Bool, (mine = false → f = sec []) → Mine9 mine 0 w.heap.size b3 w6.heap.size w12.heap.size w13.heap.size (d : Int) (at_ : Int) w15 R K := by
        intro K hKd mine hm
        have hqd : (plcP g ((at_ : Int) / g.c) ((at_ : Int) % g.c) (k : Int)).dk = (d : Int) := by rw [← hq]
        have := mine9 (R := R) (K := K) (x := ⟨f, sumS (at_ : Int) f⟩) hO15 hg ⟨pq1, pq2⟩ ⟨own1, own2⟩ hCok hdat hd15 ho15 hc15 hq15 hown (mine := mine) (fun e => by
          rw [hm e, hat']
          show _ = (nul _).cel
          unfold nul
          rw [show (((at_ : Int).toNat : Nat) : Int) = (at_ : Int) by omega]) hKd
        rw [hqd, hat'] at this
        exact this
      have next : ∀ d', ∃ mm : Nat, mm < (g.c * g.s - (at_ : Int)).toNat ∧ ((∃ (i : Nat), IntKind.wrap .i64 ((at_ : Int) + 1) = (i : Int) ∧ (i : Int) ≤ g.c * g.s ∧ Keep (fun _ => False) w9 (w15.dr d')) ∧ (g.c * g.s - IntKind.wrap .i64 ((at_ : Int) + 1)).toNat = mm) := fun d' => ⟨_, by rw [eka]; omega, ⟨at_ + 1, eka, by omega, (k11.trans k1115).dr d'⟩, rfl⟩
      refine EqB_plc (plc_small hg ⟨pq1, pq2⟩) (plc_small hg ⟨own1, own2⟩) fun r hr => Cb_of (fun e => ?_) (fun e => ?_)
      · exact e17 _ next true (fun h => by cases h)
      · have hne : plcP g ((at_ : Int) / g.c) ((at_ : Int) % g.c) (k : Int) ≠ plcP g x.1 x.2.2 x.2.1 := fun e' => by
          rw [hr.2 e'] at e; cases e
        refine LdV_has (v := .int .i64 (plcP g x.1 x.2.2 x.2.1).at_) ho15 rfl (OpI_int.2 ?_)
        refine Cb_of (fun e2 => ?_) (fun e2 => ?_)
        · have e2 : (at_ : Int) = (plcP g x.1 x.2.2 x.2.1).at_ := by simpa using e2
          refine LdV_has (v := .int .i64 g.d) hO15.geo rfl (OpI_int.2 ?_)
          refine e17 _ next (decide ((k : Int) ≥ IntKind.wrap .i64 (g.d - 2))) (fun h => hnew hne fun h' => ?_)
          rw [wrapI (by omega) (by omega)] at h
          have h : ¬ (k : Int) ≥ g.d - 2 := by simpa using h
          exact h h'.2
        · have e2 : ¬ (at_ : Int) = (plcP g x.1 x.2.2 x.2.1).at_ := by simpa using e2
          exact e17 _ next false (fun h => hnew hne fun h' => e2 h'.1)
    · exact ⟨_, by show (g.d - IntKind.wrap .i64 ((d : Int) + 1)).toNat < (g.d - (d : Int)).toNat; rw [ekd]; omega, ⟨d + 1, ekd, by omega, k11⟩, rfl⟩
  · have hO10 := hO9.keep0 k10
    have hT10 := hT9.keep0 k10
    refine hO10.ld ?_
    have hb810 := k10.has hb89 (by simp)
    refine LdV_has (v := .int .i64 x.1) hb810 rfl (OpI_int.2 ?_)
    refine LdV_has (v := .int .i64 x.2.2) hb810 rfl (OpI_int.2 ?_)
    have hl0 := hW4.lost hg pst pof
    refine hT10.rowOk pst pof (by omega) fun p11 c11 lp11 lc11 w11 oc11 ol11 k11 => ?_
    have hO11 := hO10.keep0 k11
    rw [hl0]
    refine T3_mk.2 (OpS_slice.2 (OpS_slice.2 (OpI_int.2 ((Cb_true (q := _)).2 ((Cb_true (q := _)).2 ?_)))))
    refine LdV_has (v := .int .i64 g.d) hO11.geo rfl (OpI_int.2 ?_)
    rw [show ((((g.d.toNat : Nat) : Int)) == g.d) = true by rw [show ((g.d.toNat : Nat) : Int) = g.d by omega]; simp]
    refine (Cb_true (q := _)).2 ?_
    refine LdV_has (v := .int .i64 x.2.1) (k11.has hb810 (by simp)) rfl (OpI_int.2 ?_)
    have hls := lbaP_spot hg lb
    rw [hx] at hls
    refine oc11.ldA (i := x.2.1) (n := 16) (x := data) rfl pco.1 (by
      unfold fullT
      rw [List.getElem?_append_left (by rw [len_rowT]; omega), rowT_at (by omega), show ((x.2.1.toNat : Nat) : Int) = x.2.1 by omega, hls]
      unfold upd
      rw [if_pos rfl]) ?_
    refine LdA_all ((k10.trans k11).has hb19 (by simp)) rfl ?_
    have e16 : (secLay.row data).toArray = secV data := by show ((secV _).toList).toArray = _; simp
    rw [e16]
    refine EqB_sec hdat hdat fun r hr => ?_
    rw [hr.2 rfl]
    exact fun d => Ret_nil.2 (hK _ (((k09.trans k10).trans k11).dr d))
theorem cells_walk {a b c lba : Int} {data : Sec} {w : World} (ha : 0 ≤ a ∧ a ≤ 255) (hb : 0 ≤ b ∧ b ≤ 255) (hc : 0 ≤ c ∧ c ≤ 255) (hl : 0 ≤ lba ∧ lba ≤ 255) (hdat : SecOk data) :
    CallV Try.prog 3 #[.int .u8 a, .int .u8 b, .int .u8 c, .int .u8 lba, .agg (secV data)] w fun v w' => v = .bool true ∧ Below w.heap.size w w' :=
  cells_walkR ha hb hc hl hdat fun w' k => ⟨rfl, k.below⟩
end Go.Proofs
