/-
  THE REFERENCES' DISKS IN USE: Copy, Hurt, With.
-/
import Derived.Test.YtdeaollkgckppaaOpenM
import Derived.Test.YtdeaollkgckppaaFRefH
namespace Go.Proofs
open Go Go.Ev Go.RowKit
set_option linter.unusedSimpArgs false
set_option linter.unusedVariables false
set_option maxRecDepth 100000

/-- a reference's disk -/
structure RD where
  n : Nat
  pc : Option Addr
  cc : Nat
  pg : Option Addr
  cg : Nat
  key : Int
  dead : Bool
  cs : List Cel
  gs : List Bool
def rgL (x : RD) : List Value := [.slice x.pc x.n x.cc, .slice x.pg x.n x.cg, .int .u32 x.key, .bool x.dead]
def rgV (x : RD) : Array Value := #[.slice x.pc x.n x.cc, .slice x.pg x.n x.cg, .int .u32 x.key, .bool x.dead]
theorem one_rgV (x : RD) : ∀ v ∈ (rgV x).toList, oneV v = true := by
  intro v hv
  have hv : v ∈ rgL x := hv
  simp only [rgL, List.mem_cons, List.not_mem_nil, or_false] at hv
  rcases hv with rfl | rfl | rfl | rfl <;> rfl
def rgLay : Lay RD := ⟨4, rgL, fun _ => rfl, fun x => one_rgV x, by decide⟩
theorem rgLayT : LayT Try.prog rgLay 30 66 56 := ⟨by kernel_rfl, ⟨(Try.prog.info? 66).get (by kernel_rfl), ((Try.prog.info? 66).get (by kernel_rfl)).zero.get (by kernel_rfl), by kernel_rfl, by kernel_rfl, by kernel_rfl, by kernel_rfl, by kernel_rfl⟩⟩
theorem cLayT : LayT Try.prog cLay 63 57 20 := ⟨by kernel_rfl, ⟨(Try.prog.info? 57).get (by kernel_rfl), ((Try.prog.info? 57).get (by kernel_rfl)).zero.get (by kernel_rfl), by kernel_rfl, by kernel_rfl, by kernel_rfl, by kernel_rfl, by kernel_rfl⟩⟩
theorem boLayT : LayT Try.prog boLay 64 4 1 := ⟨by kernel_rfl, ⟨(Try.prog.info? 4).get (by kernel_rfl), ((Try.prog.info? 4).get (by kernel_rfl)).zero.get (by kernel_rfl), by kernel_rfl, by kernel_rfl, by kernel_rfl, by kernel_rfl, by kernel_rfl⟩⟩
theorem bsl_c0 (w : World) : (Instr.buildSlice 63 0 #[]).run Try.prog w = .ok (.slice (some ⟨w.heap.size, 0, none⟩) 0 0) (w.alloc (.cells #[] 57)) := by kernel_rfl
theorem bsl_b0 (w : World) : (Instr.buildSlice 64 0 #[]).run Try.prog w = .ok (.slice (some ⟨w.heap.size, 0, none⟩) 0 0) (w.alloc (.cells #[] 4)) := by kernel_rfl
theorem bsl_rg0 (w : World) : (Instr.buildSlice 30 0 #[]).run Try.prog w = .ok (.slice (some ⟨w.heap.size, 0, none⟩) 0 0) (w.alloc (.cells #[] 66)) := by kernel_rfl
theorem bld_rg (x : RD) (w : World) : (Instr.build 66 #[(0, .slice x.pc x.n x.cc), (1, .slice x.pg x.n x.cg), (2, .int .u32 x.key), (3, .bool x.dead)]).run Try.prog w = .ok (.agg (rgV x)) w := run_build _ _ _ _ (by kernel_rfl)
theorem zc_rg : (zc Try.prog 66).size = 4 := by kernel_rfl
/-- a row is copied behind an empty one -/
theorem run_cpL {α : Type} {L : Lay α} {t e ty : TypeId} {bytes : Nat} (T : LayT Try.prog L t e bytes) {w' : World} {B b0 : Nat} {p : Option Addr} {n c : Nat} {xs : List α} (o : OwnL L w' b0 e p n c xs) (hby : (n + n / 4 + 192) * bytes ≤ 281474976710656) (hn : n ≤ 1000) {b : Nat} (hb : Has w' b (.cells #[] e (0, 0))) (hlow : B ≤ b) (hz : B ≤ w'.heap.size) :
    ∃ p' c' w2, (Builtin.append_ #[t, t] ty #[.slice (some ⟨b, 0, none⟩) 0 0, .slice p n c]).run Try.prog w' = .ok (.slice p' n c') w2 ∧ OwnL L w2 B e p' n c' xs ∧ Keep (fun k => k = b) w' w2 := by
  have o1 : OwnL L w' B e (some ⟨b, 0, none⟩) 0 0 [] := OwnL.mk (xs := []) hlow hb (by simp [maxLen]) rfl
  obtain ⟨p', c2, w2, hr, o2, k2⟩ := run_appendL T o1 o.sl (ty := ty) (c2 := c) (by rw [Nat.zero_add]; exact hby) (by simp only [maxLen]; omega) hz
  rw [Nat.zero_add] at hr o2
  exact ⟨p', c2, w2, hr, o2, k2.mono fun k hk => by injection hk with hk; injection hk with hk; exact hk.symm⟩
theorem own_lowR {α : Type} {L : Lay α} {w : World} {base : Nat} {e : TypeId} {p : Option Addr} {l c : Nat} {xs : List α} (h : OwnL L w base e p l c xs) : ∀ k, p = some ⟨k, 0, none⟩ → base ≤ k := fun k hk => by
  rcases Own.cases h with ⟨h0, _⟩ | ⟨b', cur, h0, hb, _, _⟩
  · rw [h0] at hk; cases hk
  · rw [h0] at hk; cases hk; exact hb
structure RdAt (w : World) (x : RD) : Prop where
  c : OwnL cLay w 0 57 x.pc x.n x.cc x.cs
  g : OwnL boLay w 0 4 x.pg x.n x.cg x.gs
theorem RdAt.keep0 {w w' : World} {x : RD} (h : RdAt w x) (k : Keep (fun _ => False) w w') : RdAt w' x := ⟨h.c.keep k (by simp), h.g.keep k (by simp)⟩
section calls
variable {w : World} {R : Value → World → Prop}
theorem r6_Copy {x : RD} (h : RdAt w x) (hn : x.n ≤ 1000)
    (hK : ∀ pc cc pg cg w', RdAt w' ⟨x.n, pc, cc, pg, cg, x.key, x.dead, x.cs, x.gs⟩ → OwnL boLay w' w.heap.size 4 pg x.n cg x.gs → Keep (fun _ => False) w w' → R (.agg (rgV ⟨x.n, pc, cc, pg, cg, x.key, x.dead, x.cs, x.gs⟩)) w') :
    CallV Try.prog 92 #[.agg (rgV x)] w R := by
  apply C_ravelinref06_Copy
  unfold F_ravelinref06_Copy
  refine alc_fresh fun w1 hb1 k1 z1 => ?_
  refine alc_fresh fun w2 hb2 k2 z2 => ?_
  have hb12 := k2.has hb1 (by simp)
  intro d
  have kd := Keep.drew (fun _ => False) w2 d
  have h3 := ((h.keep0 k1).keep0 k2).keep0 kd
  have hb3 := kd.has hb12 (by simp)
  have hr3 := kd.has hb2 (by simp)
  have k03 := (k1.trans k2).trans kd
  have z3 : w2.heap.size ≤ (w2.dr d).heap.size := kd.size
  generalize w2.dr d = w3 at *
  refine ⟨fun w' => Has w' w.heap.size (.cells (rgV x) 66 (0, 0)), hb3, ?_⟩
  refine LdV_of (v := .slice x.pc x.n x.cc) (fun w' hw => ⟨_, _, _, hw, rfl⟩) (OpS_slice.2 ?_)
  refine LdV_of (v := .slice x.pg x.n x.cg) (fun w' hw => ⟨_, _, _, hw, rfl⟩) (OpS_slice.2 ?_)
  refine LdV_of (v := .int .u32 x.key) (fun w' hw => ⟨_, _, _, hw, rfl⟩) (OpI_int.2 ?_)
  refine LdV_of (v := .bool x.dead) (fun w' hw => ⟨_, _, _, hw, rfl⟩) (OpB_bool.2 ?_)
  have fin : ∀ (we : World) (pc : Option Addr) (cc : Nat) (pg : Option Addr) (cg : Nat), Keep (fun _ => False) w3 we → OwnL cLay we w3.heap.size 57 pc x.n cc x.cs → OwnL boLay we w3.heap.size 4 pg x.n cg x.gs →
      DoQ Try.prog (Instr.build 66 #[(0, .slice pc x.n cc), (1, .slice pg x.n cg), (2, .int .u32 x.key), (3, .bool x.dead)]) (At we) fun v8 => OpA 4 v8 fun cs => StA 4 w1.heap.size 0 cs we fun w_1 => Hld (Has w_1 w.heap.size (.cells (rgV x) 66 (0, 0))) (LdA 4 w1.heap.size 0 (At w_1) fun cs1 => Ret [] (R (.agg cs1) w_1)) := by
    intro we pc cc pg cg k oc og
    refine DoQ_of (fun _ => bld_rg ⟨x.n, pc, cc, pg, cg, x.key, x.dead, x.cs, x.gs⟩ _) (OpA_agg.2 ⟨rfl, ?_⟩)
    have hre := k.has hr3 (by simp)
    refine StA_all hre rfl zc_rg (one_rgV _) ?_
    have ku := Keep.one we w1.heap.size (.cells (rgV ⟨x.n, pc, cc, pg, cg, x.key, x.dead, x.cs, x.gs⟩) 66 (0, 0))
    refine ⟨ku.has (k.has hb3 (by simp)) (by omega), ?_⟩
    refine LdA_all (hre.upd_same _) rfl (Ret_nil.2 ?_)
    have oc' := oc.keep ku fun k hk e => OwnL.neH oc hre (by decide) (by rw [hk, e])
    have og' := og.keep ku fun k hk e => OwnL.neH og hre (by decide) (by rw [hk, e])
    exact hK pc cc pg cg _ ⟨oc'.rebase (Nat.zero_le _), og'.rebase (Nat.zero_le _)⟩ (og'.rebase k03.size) ((k03.trans k).trans' ku fun i hi e => by omega)
  have hx1 : (x.n + x.n / 4 + 192) * 20 ≤ 281474976710656 := by omega
  have hx2 : (x.n + x.n / 4 + 192) * 1 ≤ 281474976710656 := by omega
  have hS_ : ∀ w', Keep (fun _ => False) w3 w' → Has w' w.heap.size (.cells (rgV x) 66 (0, 0)) := fun w' k => k.has hb3 (by simp)
  refine ⟨?_, ?_⟩
  · refine ⟨_, _, bsl_c0 _, OpS_slice.2 ?_⟩
    have ka := Keep.new (fun _ => False) w3 (.cells #[] 57)
    have ha := Has.new w3 (.cells #[] 57)
    generalize w3.alloc (.cells #[] 57) = wa at *
    refine ⟨hS_ _ ka, ?_⟩
    refine ⟨?_, ?_⟩
    · obtain ⟨pc, cc, wb, hr, oc, kb⟩ := run_cpL (ty := 63) cLayT (B := w3.heap.size) (h3.keep0 ka).c hx1 hn ha (Nat.le_refl _) ka.size
      refine ⟨_, _, hr, OpS_slice.2 ?_⟩
      have kab : Keep (fun _ => False) w3 wb := ka.trans' kb fun i hi e => by omega
      refine ⟨hS_ _ kab, ?_⟩
      refine ⟨_, _, bsl_b0 _, OpS_slice.2 ?_⟩
      have kc := Keep.new (fun _ => False) wb (.cells #[] 4)
      have hc := Has.new wb (.cells #[] 4)
      generalize wb.alloc (.cells #[] 4) = wc at *
      refine ⟨hS_ _ (kab.trans kc), ?_⟩
      obtain ⟨pg, cg, we, hr, og, ke⟩ := run_cpL (ty := 64) boLayT (B := w3.heap.size) ((h3.keep0 kab).keep0 kc).g hx2 hn hc kab.size (kab.trans kc).size
      refine ⟨_, _, hr, OpS_slice.2 ?_⟩
      have kae : Keep (fun _ => False) w3 we := (kab.trans kc).trans' ke fun i hi e => by have := kab.size; omega
      refine ⟨hS_ _ kae, ?_⟩
      have oc2 := oc.keep kc (by simp)
      exact fin we pc cc pg cg kae (oc2.keep ke fun k hk e => OwnL.neH oc2 hc (by decide) (by rw [hk, e])) og
    · refine ⟨_, _, bsl_b0 _, OpS_slice.2 ?_⟩
      have kb := Keep.new (fun _ => False) wa (.cells #[] 4)
      have hb := Has.new wa (.cells #[] 4)
      generalize wa.alloc (.cells #[] 4) = wb at *
      have kab := ka.trans kb
      refine ⟨hS_ _ kab, ?_⟩
      have ha2 := kb.has ha (by simp)
      obtain ⟨pc, cc, wc, hr, oc, kc⟩ := run_cpL (ty := 63) cLayT (B := w3.heap.size) (h3.keep0 kab).c hx1 hn ha2 (Nat.le_refl _) kab.size
      refine ⟨_, _, hr, OpS_slice.2 ?_⟩
      have kac : Keep (fun _ => False) w3 wc := kab.trans' kc fun i hi e => by omega
      refine ⟨hS_ _ kac, ?_⟩
      have hb2' := kc.has hb (hb.ne ha2 (by simp only [ne_eq, Obj.cells.injEq]; intro e; exact absurd e.2.1 (by decide)))
      obtain ⟨pg, cg, we, hr, og, ke⟩ := run_cpL (ty := 64) boLayT (B := w3.heap.size) (h3.keep0 kac).g hx2 hn hb2' ka.size kac.size
      refine ⟨_, _, hr, OpS_slice.2 ?_⟩
      have kae : Keep (fun _ => False) w3 we := kac.trans' ke fun i hi e => by have := ka.size; omega
      refine ⟨hS_ _ kae, ?_⟩
      exact fin we pc cc pg cg kae (oc.keep ke fun k hk e => OwnL.neH oc hb2' (by decide) (by rw [hk, e])) og
  · refine ⟨_, _, bsl_b0 _, OpS_slice.2 ?_⟩
    have ka := Keep.new (fun _ => False) w3 (.cells #[] 4)
    have ha := Has.new w3 (.cells #[] 4)
    generalize w3.alloc (.cells #[] 4) = wa at *
    refine ⟨hS_ _ ka, ?_⟩
    refine ⟨_, _, bsl_c0 _, OpS_slice.2 ?_⟩
    have kb := Keep.new (fun _ => False) wa (.cells #[] 57)
    have hb := Has.new wa (.cells #[] 57)
    generalize wa.alloc (.cells #[] 57) = wb at *
    have kab := ka.trans kb
    refine ⟨hS_ _ kab, ?_⟩
    have ha2 := kb.has ha (by simp)
    obtain ⟨pc, cc, wc, hr, oc, kc⟩ := run_cpL (ty := 63) cLayT (B := w3.heap.size) (h3.keep0 kab).c hx1 hn hb ka.size kab.size
    refine ⟨_, _, hr, OpS_slice.2 ?_⟩
    have kac : Keep (fun _ => False) w3 wc := kab.trans' kc fun i hi e => by have := ka.size; omega
    refine ⟨hS_ _ kac, ?_⟩
    have ha3 := kc.has ha2 (ha2.ne hb (by simp only [ne_eq, Obj.cells.injEq]; intro e; exact absurd e.2.1 (by decide)))
    obtain ⟨pg, cg, we, hr, og, ke⟩ := run_cpL (ty := 64) boLayT (B := w3.heap.size) (h3.keep0 kac).g hx2 hn ha3 (Nat.le_refl _) kac.size
    refine ⟨_, _, hr, OpS_slice.2 ?_⟩
    have kae : Keep (fun _ => False) w3 we := kac.trans' ke fun i hi e => by omega
    refine ⟨hS_ _ kae, ?_⟩
    exact fin we pc cc pg cg kae (oc.keep ke fun k hk e => OwnL.neH oc ha3 (by decide) (by rw [hk, e])) og
/-- a disk is hurt: what the references' disk is then -/
def rdHurt (x : RD) (a : Int) : List Bool := if 0 ≤ a ∧ a < (x.n : Int) ∧ x.dead = false then x.gs.set a.toNat false else x.gs
theorem r6_Hurt {x : RD} (h : RdAt w x) (hn : x.n ≤ 1000) {a : Int}
    (hK : ∀ (e : Int) pc cc pg cg w', RdAt w' ⟨x.n, pc, cc, pg, cg, x.key, x.dead, x.cs, rdHurt x a⟩ → Keep (fun _ => False) w w' → R (.tuple #[.int .i64 e, .agg (rgV ⟨x.n, pc, cc, pg, cg, x.key, x.dead, x.cs, rdHurt x a⟩)]) w') :
    CallV Try.prog 67 #[.agg (rgV x), .int .i64 a] w R := by
  apply C_ravelinref06_Hurt
  unfold F_ravelinref06_Hurt
  refine alc_fresh fun w1 hb1 k1 z1 => ?_
  refine alc_fresh fun w2 hb2 k2 z2 => ?_
  have hb12 := k2.has hb1 (by simp)
  have still : ∀ (e : Int), ¬ (0 ≤ a ∧ a < (x.n : Int) ∧ x.dead = false) → Dr1 w2 fun w_1 => LdA 4 w.heap.size 0 (At w_1) fun cs => StA 4 w1.heap.size 0 cs w_1 fun w_1 => LdA 4 w1.heap.size 0 (At w_1) fun cs1 => Ret [] (R (.tuple #[.int .i64 e, .agg cs1]) w_1) := by
    intro e hx d _
    have kd := Keep.drew (fun _ => False) w2 d
    have hb3 := kd.has hb12 (by simp)
    have hr3 := kd.has hb2 (by simp)
    have h3 := ((h.keep0 k1).keep0 k2).keep0 kd
    have k03 := (k1.trans k2).trans kd
    generalize w2.dr d = w3 at *
    refine LdA_all hb3 rfl ?_
    refine StA_all hr3 rfl zc_rg (one_rgV _) ?_
    refine LdA_all (hr3.upd_same _) rfl (Ret_nil.2 ?_)
    have hK' := hK e x.pc x.cc x.pg x.cg
    rw [show rdHurt x a = x.gs by unfold rdHurt; rw [if_neg hx]] at hK'
    have ku := Keep.one w3 w1.heap.size (.cells (rgV x) 66 (0, 0))
    exact hK' _ ⟨h3.c.keep ku fun k hk e => OwnL.neH h3.c hr3 (by decide) (by rw [hk, e]), h3.g.keep ku fun k hk e => OwnL.neH h3.g hr3 (by decide) (by rw [hk, e])⟩ (k03.trans' ku fun i hi e => by omega)
  refine Cb_of (fun e => ?_) (fun e1 => ?_)
  · have e : a < 0 := by simpa using e
    exact still 2 fun h => by omega
  · have e1 : ¬ a < 0 := by simpa using e1
    refine LdV_has (v := .slice x.pc x.n x.cc) hb12 rfl (OpS_slice.2 ?_)
    refine Cb_of (fun e => ?_) (fun e2 => ?_)
    · have e : a ≥ (x.n : Int) := by simpa using e
      exact still 2 fun h => by omega
    · have e2 : ¬ a ≥ (x.n : Int) := by simpa using e2
      refine LdV_has (v := .bool x.dead) hb12 rfl (OpB_bool.2 ?_)
      refine Cb_of (fun e => ?_) (fun e3 => ?_)
      · exact still 5 fun h => by rw [e] at h; exact absurd h.2.2 (by decide)
      · refine LdA_all hb12 rfl ?_
        refine r6_Copy ((h.keep0 k1).keep0 k2) hn fun pc cc pg cg w3 hx og k3 => OpA_agg.2 ⟨rfl, ?_⟩
        refine copy_of zc_rg rfl (one_rgV _) fun w4 hb4 k4 z4 => ?_
        refine LdV_has (v := .slice pg x.n cg) hb4 rfl (OpS_slice.2 ?_)
        have hgl : x.gs.length = x.n := (OwnL.length h.g).symm
        have og4 := og.keep k4 (by simp)
        have z02 : w2.heap.size = w1.heap.size + 1 := z2
        refine og4.stF (i := a) (n := 1) (t := 0) (x := x.gs.getD a.toNat false) (y := false) (v := .bool false) rfl (by omega) (by rw [List.getD_eq_getElem?_getD, List.getElem?_eq_getElem (by omega)]; rfl) (by decide) rfl rfl fun w5 o5 k5 z5 => ?_
        intro d _
        have kd := Keep.drew (fun _ => False) w5 d
        have hb5 := k5.has hb4 (OwnL.neH og4 hb4 (by decide))
        have hr4 := (k3.trans k4).has hb2 (by simp)
        have hr5 := k5.has hr4 (OwnL.neH og4 hr4 (by decide))
        have low := own_lowR og4
        have hx4 := hx.keep0 k4
        have oc5 := hx4.c.keep k5 fun k hk he => OwnL.ne hx4.c og4 (by decide) hk he
        have k05 : Keep (fun _ => False) w w5 := (((k1.trans k2).trans k3).trans k4).trans' k5 fun i hi e => by have := low i e; have := (k1.trans k2).size; omega
        have hb6 := kd.has hb5 (by simp)
        have hr6 := kd.has hr5 (by simp)
        have oc6 := oc5.keep kd (by simp)
        have o6 := o5.keep kd (by simp)
        have k06 := k05.trans kd
        generalize w5.dr d = w6 at *
        refine LdA_all hb6 rfl ?_
        refine StA_all hr6 rfl zc_rg (one_rgV _) ?_
        refine LdA_all (hr6.upd_same _) rfl (Ret_nil.2 ?_)
        have hK' := hK 0 pc cc pg cg
        rw [show rdHurt x a = x.gs.set a.toNat false by unfold rdHurt; rw [if_pos ⟨by omega, by omega, e3⟩]] at hK'
        have ku := Keep.one w6 w1.heap.size (.cells (rgV ⟨x.n, pc, cc, pg, cg, x.key, x.dead, x.cs, x.gs⟩) 66 (0, 0))
        exact hK' _ ⟨oc6.keep ku fun k hk e => OwnL.neH oc6 hr6 (by decide) (by rw [hk, e]), (o6.keep ku fun k hk e => OwnL.neH o6 hr6 (by decide) (by rw [hk, e])).rebase (Nat.zero_le _)⟩ (k06.trans' ku fun i hi e => by omega)
theorem r9_With {g : Geo} {p : Option Addr} {d c : Nat} {xs : List RD} (h : OwnL rgLay w 0 66 p d c xs) (hd : d ≤ 1000) {i : Int} (hi : 0 ≤ i ∧ i < (d : Int)) {x : RD}
    (hK : ∀ p' c' w', OwnL rgLay w' 0 66 p' d c' (xs.set i.toNat x) → Keep (fun _ => False) w w' → R (.agg (rsetV g p' d c')) w') :
    CallV Try.prog 69 #[.agg (rsetV g p d c), .int .i64 i, .agg (rgV x)] w R := by
  apply C_ravelinref09_With
  unfold F_ravelinref09_With
  refine alc_fresh fun w1 hb1 k1 z1 => ?_
  refine alc_fresh fun w2 hb2 k2 z2 => ?_
  refine alc_fresh fun w3 hb3 k3 z3 => ?_
  refine ⟨_, _, bsl_rg0 _, OpS_slice.2 ?_⟩
  have k4 := Keep.new (fun _ => False) w3 (.cells #[] 66)
  have hb4 := Has.new w3 (.cells #[] 66)
  have z4 : (w3.alloc (.cells #[] 66)).heap.size = w3.heap.size + 1 := by simp
  generalize w3.alloc (.cells #[] 66) = w4 at *
  have hs4 := ((k2.trans k3).trans k4).has hb1 (by simp)
  have hx4 := (k3.trans k4).has hb2 (by simp)
  have hz4 := k4.has hb3 (by simp)
  have k04 := (((k1.trans k2).trans k3).trans k4)
  refine LdV_has (v := .slice p d c) hs4 rfl (OpS_slice.2 ?_)
  obtain ⟨p', c', w5, hr, o5, k5⟩ := run_cpL (ty := 30) rgLayT (B := w3.heap.size) (h.keep k04 (by simp)) (by omega) hd hb4 (Nat.le_refl _) k4.size
  refine ⟨_, _, hr, OpS_slice.2 ?_⟩
  have hs5 := k5.has hs4 (by omega)
  have hx5 := k5.has hx4 (by omega)
  have hz5 := k5.has hz4 (by omega)
  have k05 : Keep (fun _ => False) w w5 := k04.trans' k5 fun i hi e => by omega
  refine LdA_all hx5 rfl ?_
  refine o5.stA (i := i) (n := 4) rfl hi.1 hi.2 x rfl fun w6 o6 k6 z6 => ?_
  have low := own_lowR o5
  have hs6 := k6.has hs5 (OwnL.neH o5 hs5 (by decide))
  have hz6 := k6.has hz5 (OwnL.neH o5 hz5 (by decide))
  have k06 : Keep (fun _ => False) w w6 := k05.trans' k6 fun i hi e => by have := low i e; omega
  refine StV_of hs6 (by show 3 < 7; decide) rfl ?_
  have ku := Keep.one w6 w.heap.size (.cells (rsetV g p' d c') 34 (0, 0))
  have hs7 := hs6.upd_same (.cells (rsetV g p' d c') 34 (0, 0))
  have o7 := o6.keep ku fun k hk e => OwnL.neH o6 hs6 (by decide) (by rw [hk, e])
  have hz7 := ku.has hz6 (by omega)
  have k07 : Keep (fun _ => False) w (w6.upd w.heap.size (.cells (rsetV g p' d c') 34 (0, 0))) := k06.trans' ku fun i hi e => by omega
  refine LdA_all hs7 rfl ?_
  refine StA_all hz7 rfl (by rw [zc_rset]; rfl) (one_rsetV _ _ _ _) ?_
  refine LdA_all (hz7.upd_same _) rfl (Ret_nil.2 ?_)
  have kv := Keep.one (w6.upd w.heap.size (.cells (rsetV g p' d c') 34 (0, 0))) w2.heap.size (.cells (rsetV g p' d c') 34 (0, 0))
  exact hK p' c' _ ((o7.keep kv fun k hk e => OwnL.neH o7 hz7 (by decide) (by rw [hk, e])).rebase (Nat.zero_le _)) (k07.trans' kv fun i hi e => by omega)
end calls
/-! ### the references' set in use -/
structure RG (w : World) (p : Option Addr) (d c n : Nat) (xs : List RD) : Prop where
  row : OwnL rgLay w 0 66 p d c xs
  cells : ∀ x ∈ xs, x.n = n ∧ RdAt w x
theorem RG.keep0 {w w' : World} {p : Option Addr} {d c n : Nat} {xs : List RD} (h : RG w p d c n xs) (k : Keep (fun _ => False) w w') : RG w' p d c n xs :=
  ⟨h.row.keep k (by simp), fun x hx => ⟨(h.cells x hx).1, (h.cells x hx).2.keep0 k⟩⟩
theorem RG.keep {w w' : World} {p : Option Addr} {d c n : Nat} {xs : List RD} (h : RG w p d c n xs) {S : Nat → Prop} (k : Keep S w w') (hS : ∀ b cs t, Has w b (.cells cs t (0, 0)) → t = 66 ∨ t = 57 ∨ t = 4 → ¬ S b) : RG w' p d c n xs := by
  have own : ∀ {α : Type} {L : Lay α} {e : TypeId} {q : Option Addr} {l m : Nat} {ys : List α}, OwnL L w 0 e q l m ys → e = 66 ∨ e = 57 ∨ e = 4 → OwnL L w' 0 e q l m ys := by
    intro α L e q l m ys o he
    refine o.keep k fun k hk hs => ?_
    rcases Own.cases o with ⟨h0, _⟩ | ⟨b', cur, h0, hb', hg, _⟩
    · rw [h0] at hk; cases hk
    · rw [h0] at hk
      cases hk
      exact hS _ _ _ hg he hs
  exact ⟨own h.row (Or.inl rfl), fun x hx => ⟨(h.cells x hx).1, ⟨own (h.cells x hx).2.c (Or.inr (Or.inl rfl)), own (h.cells x hx).2.g (Or.inr (Or.inr rfl))⟩⟩⟩
def rdOf (n : Nat) (x : Nat × Nat × Nat) : RD := ⟨n, some ⟨x.1, 0, none⟩, n, some ⟨x.2.1, 0, none⟩, n, 0, false, fillN celN cel0 n n, fillN (fun _ => true) false n n⟩
theorem rows_rdOf {n : Nat} : ∀ (xs : List (Nat × Nat × Nat)), (∀ x ∈ xs, x.2.2 = n) → rgLay.rows (xs.map (rdOf n)) = rdLay.rows xs
  | [], _ => rfl
  | x :: xs, h => by
    have hx := h x (by simp)
    have ih := rows_rdOf xs fun y hy => h y (by simp [hy])
    unfold Lay.rows at ih ⊢
    rw [List.map_cons, List.flatMap_cons, List.flatMap_cons, ih]
    congr 1
    obtain ⟨a, b, c⟩ := x
    have hx : c = n := hx
    subst hx
    rfl
theorem RSet.rg {w : World} {B : Nat} {p : Option Addr} {d c n : Nat} {xs : List (Nat × Nat × Nat)} (h : RSet w B p d c n xs) : RG w p d c n (xs.map (rdOf n)) := by
  refine ⟨?_, fun x hx => ?_⟩
  · have h1 : Own w 0 66 4 p d c (rdLay.rows xs) := h.row.rebase (Nat.zero_le _)
    show Own w 0 66 4 p d c (rgLay.rows (xs.map (rdOf n)))
    rw [rows_rdOf xs fun x hx => (h.cells x hx).1]
    exact h1
  · obtain ⟨y, hy, rfl⟩ := List.mem_map.1 hx
    exact ⟨rfl, (h.cells y hy).2.rebase (Nat.zero_le _), (h.goods y hy).rebase (Nat.zero_le _)⟩
end Go.Proofs
