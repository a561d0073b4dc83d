/-
  HistoryOpens: the plain facts and the walk.
-/
import Derived.Test.YtdjlmpkjdgmkkaaLast21
import Derived.Test.YtdjlmpkjdgmkkaaWiderW
import Derived.Test.YtdjlmpkjdgmkkaaFOpens
namespace Go.Proofs
open Go Go.Ev Go.RowKit
set_option linter.unusedSimpArgs false
set_option linter.unusedVariables false
set_option maxRecDepth 100000

/-! ### plain -/
theorem reach_step {evs : List Evt} {start : Sec} {s : Stt} (h : Reach evs start s) (i : Nat) (x : Evt) (hx : evs[i]? = some x) (hb : s.1.testBit i = false) (hp : x.wr = true ∨ (0 ≤ x.to ∧ x.val = cur evs start s.2))
    (hblk : ∀ y ∈ evs, 0 ≤ y.to → ¬ y.to < x.fr) : Reach evs start (s.1 ||| 2 ^ i, if x.wr = true then (i : Int) else s.2) := by
  have hg : evs.getD i default = x := by
    have := at_lt (List.getElem?_eq_some_iff.1 hx).1
    rw [this] at hx; exact Option.some.inj hx
  have hm : May evs start s i := ⟨x, hx, hb, hp, fun ⟨j, y, hy, _, h1, h2⟩ => hblk y (List.mem_of_getElem? hy) h1 (by rw [← hg]; exact h2)⟩
  have := h.step hm
  unfold nxt at this
  rw [hg] at this
  exact this
theorem reach_step' {evs : List Evt} {start : Sec} {s : Stt} (h : Reach evs start s) (i : Nat) (x : Evt) (hx : evs[i]? = some x) (hb : s.1.testBit i = false) (hp : x.wr = true ∨ (0 ≤ x.to ∧ x.val = cur evs start s.2))
    (hblk : ∀ (j : Nat) y, evs[j]? = some y → s.1.testBit j = false → 0 ≤ y.to → ¬ y.to < x.fr) : Reach evs start (s.1 ||| 2 ^ i, if x.wr = true then (i : Int) else s.2) := by
  have hg : evs.getD i default = x := by
    have := at_lt (List.getElem?_eq_some_iff.1 hx).1
    rw [this] at hx; exact Option.some.inj hx
  have hm : May evs start s i := ⟨x, hx, hb, hp, fun ⟨j, y, hy, h0, h1, h2⟩ => hblk j y hy h0 h1 (by rw [← hg]; exact h2)⟩
  have := h.step hm
  unfold nxt at this
  rw [hg] at this
  exact this
section plain
variable (start v : Sec)
def opW : Evt := ⟨true, v, 0, -1⟩
def opA : Evt := ⟨false, v, 1, 2⟩
def opB : Evt := ⟨false, start, 3, 4⟩
def opC : Evt := ⟨false, start, 1, 2⟩
def opD : Evt := ⟨false, v, 3, 4⟩
theorem holds_W (u : Sec) : Holds21 [opW v] start u ↔ u = start ∨ u = v := by
  constructor
  · rintro ⟨s, hr, _, rfl⟩
    have := hr.small
    by_cases h : s.2 = 0
    · right
      rw [h]; rfl
    · left
      unfold cur
      rw [if_neg (by simp at this; omega)]
  · rintro (rfl | rfl)
    · refine ⟨(0, -1), Reach.start, fun i x hx h0 => ?_, rfl⟩
      match i, hx with
      | 0, hx => cases hx; exact absurd h0 (show ¬ (0 : Int) ≤ -1 by decide)
      | i + 1, hx => simp at hx
    · have h1 := reach_step (evs := [opW u]) (start := start) Reach.start 0 (opW u) rfl (by decide) (Or.inl rfl) (fun y hy h0 => by rw [List.mem_singleton.1 hy] at h0; exact absurd h0 (show ¬ (0 : Int) ≤ -1 by decide))
      refine ⟨_, h1, fun i x hx h0 => ?_, rfl⟩
      match i, hx with
      | 0, hx => cases hx; exact absurd h0 (show ¬ (0 : Int) ≤ -1 by decide)
      | i + 1, hx => simp at hx
theorem three_cases {P : Nat → Evt → Prop} {x y z : Evt} (h0 : P 0 x) (h1 : P 1 y) (h2 : P 2 z) : ∀ (i : Nat) u, [x, y, z][i]? = some u → P i u
  | 0, u, h => by cases h; exact h0
  | 1, u, h => by cases h; exact h1
  | 2, u, h => by cases h; exact h2
  | i + 3, u, h => by simp at h
theorem two_cases {P : Nat → Evt → Prop} {x y : Evt} (h0 : P 0 x) (h1 : P 1 y) : ∀ (i : Nat) u, [x, y][i]? = some u → P i u
  | 0, u, h => by cases h; exact h0
  | 1, u, h => by cases h; exact h1
  | i + 2, u, h => by simp at h
theorem ord_WA : Ord [opW v, opA v] start := by
  have h1 : Reach [opW v, opA v] start (1, 0) := reach_step' (evs := [opW v, opA v]) (start := start) Reach.start 0 (opW v) rfl (by decide) (Or.inl rfl) (two_cases (P := fun j y => (0 : Nat).testBit j = false → 0 ≤ y.to → ¬ y.to < (0 : Int)) (fun _ h _ => by omega) (fun _ h _ => by omega))
  have h2 : Reach [opW v, opA v] start (3, 0) := reach_step' h1 1 (opA v) rfl (by decide) (Or.inr ⟨(show (0 : Int) ≤ 2 by decide), rfl⟩) (two_cases (P := fun j y => (1 : Nat).testBit j = false → 0 ≤ y.to → ¬ y.to < (1 : Int)) (fun h => absurd h (by decide)) (fun _ _ => (show ¬ (2 : Int) < 1 by decide)))
  refine ⟨_, h2, two_cases (fun h => absurd h (show ¬ (0 : Int) ≤ -1 by decide)) (fun _ => (show (3 : Nat).testBit 1 = true by decide))⟩
theorem ord_WCD : Ord [opW v, opC start, opD v] start := by
  have h1 : Reach [opW v, opC start, opD v] start (2, -1) := reach_step' (evs := [opW v, opC start, opD v]) (start := start) Reach.start 1 (opC start) rfl (by decide) (Or.inr ⟨(show (0 : Int) ≤ 2 by decide), rfl⟩)
    (three_cases (P := fun j y => (0 : Nat).testBit j = false → 0 ≤ y.to → ¬ y.to < (1 : Int)) (fun _ h => absurd h (show ¬ (0 : Int) ≤ -1 by decide)) (fun _ _ => (show ¬ (2 : Int) < 1 by decide)) (fun _ _ => (show ¬ (4 : Int) < 1 by decide)))
  have h2 : Reach [opW v, opC start, opD v] start (3, 0) := reach_step' h1 0 (opW v) rfl (by decide) (Or.inl rfl)
    (three_cases (P := fun j y => (2 : Nat).testBit j = false → 0 ≤ y.to → ¬ y.to < (0 : Int)) (fun _ h => absurd h (show ¬ (0 : Int) ≤ -1 by decide)) (fun _ _ => (show ¬ (2 : Int) < 0 by decide)) (fun _ _ => (show ¬ (4 : Int) < 0 by decide)))
  have h3 : Reach [opW v, opC start, opD v] start (7, 0) := reach_step' h2 2 (opD v) rfl (by decide) (Or.inr ⟨(show (0 : Int) ≤ 4 by decide), rfl⟩)
    (three_cases (P := fun j y => (3 : Nat).testBit j = false → 0 ≤ y.to → ¬ y.to < (3 : Int)) (fun h => absurd h (by decide)) (fun h => absurd h (by decide)) (fun _ _ => (show ¬ (4 : Int) < 3 by decide)))
  refine ⟨_, h3, three_cases (fun h => absurd h (show ¬ (0 : Int) ≤ -1 by decide)) (fun _ => (show (7 : Nat).testBit 1 = true by decide)) (fun _ => (show (7 : Nat).testBit 2 = true by decide))⟩
theorem ord_WAB : Ord [opW v, opA v, opB start] start ↔ v = start := by
  constructor
  · rintro ⟨s, hr, hc⟩
    apply Classical.byContradiction
    intro hne
    have hm : s ∈ [(0, -1), (1, 0), ((3, 0) : Stt)] := by
      refine reach_all (by simp) (fun t ht i hmy => ?_) hr
      obtain ⟨x, hx, hb, hp, hblk⟩ := hmy
      have b1 : t.1.testBit 1 = false → ¬ (2 : Nat) = i := fun h1 e => hblk ⟨1, opA v, rfl, h1, (show (0 : Int) ≤ 2 by decide), by subst e; exact (show (2 : Int) < 3 by decide)⟩
      simp only [List.mem_cons, List.not_mem_nil, or_false] at ht
      match i, hx with
      | 0, hx =>
        cases hx
        rcases ht with rfl | rfl | rfl
        · exact (show ((1, 0) : Stt) ∈ [(0, -1), (1, 0), ((3, 0) : Stt)] by decide)
        · exact absurd hb (by decide)
        · exact absurd hb (by decide)
      | 1, hx =>
        cases hx
        rcases ht with rfl | rfl | rfl
        · rcases hp with hp | ⟨_, hp⟩
          · exact absurd hp (show ¬ false = true by decide)
          · exact absurd hp hne
        · exact (show ((3, 0) : Stt) ∈ [(0, -1), (1, 0), ((3, 0) : Stt)] by decide)
        · exact absurd hb (by decide)
      | 2, hx =>
        cases hx
        rcases ht with rfl | rfl | rfl
        · exact absurd rfl (b1 (by decide))
        · exact absurd rfl (b1 (by decide))
        · rcases hp with hp | ⟨_, hp⟩
          · exact absurd hp (show ¬ false = true by decide)
          · exact absurd (Eq.symm hp) hne
      | i + 3, hx => simp at hx
    have h2 := hc 2 (opB start) rfl (show (0 : Int) ≤ 4 by decide)
    simp only [List.mem_cons, List.not_mem_nil, or_false] at hm
    rcases hm with rfl | rfl | rfl <;> exact absurd h2 (by decide)
  · rintro rfl
    have h1 : Reach [opW v, opA v, opB v] v (1, 0) := reach_step' (evs := [opW v, opA v, opB v]) (start := v) Reach.start 0 (opW v) rfl (by decide) (Or.inl rfl)
      (three_cases (P := fun j y => (0 : Nat).testBit j = false → 0 ≤ y.to → ¬ y.to < (0 : Int)) (fun _ h => absurd h (show ¬ (0 : Int) ≤ -1 by decide)) (fun _ _ => (show ¬ (2 : Int) < 0 by decide)) (fun _ _ => (show ¬ (4 : Int) < 0 by decide)))
    have h2 : Reach [opW v, opA v, opB v] v (3, 0) := reach_step' h1 1 (opA v) rfl (by decide) (Or.inr ⟨(show (0 : Int) ≤ 2 by decide), rfl⟩)
      (three_cases (P := fun j y => (1 : Nat).testBit j = false → 0 ≤ y.to → ¬ y.to < (1 : Int)) (fun h => absurd h (by decide)) (fun _ _ => (show ¬ (2 : Int) < 1 by decide)) (fun _ _ => (show ¬ (4 : Int) < 1 by decide)))
    have h3 : Reach [opW v, opA v, opB v] v (7, 0) := reach_step' h2 2 (opB v) rfl (by decide) (Or.inr ⟨(show (0 : Int) ≤ 4 by decide), rfl⟩)
      (three_cases (P := fun j y => (3 : Nat).testBit j = false → 0 ≤ y.to → ¬ y.to < (3 : Int)) (fun h => absurd h (by decide)) (fun h => absurd h (by decide)) (fun _ _ => (show ¬ (4 : Int) < 3 by decide)))
    refine ⟨_, h3, three_cases (fun h => absurd h (show ¬ (0 : Int) ≤ -1 by decide)) (fun _ => (show (7 : Nat).testBit 1 = true by decide)) (fun _ => (show (7 : Nat).testBit 2 = true by decide))⟩
end plain
theorem bld_rd (f : Sec) (a b : Int) (w : World) : (Instr.build 31 #[(1, .agg (secV f)), (2, .int .i64 a), (3, .int .i64 b)]).run Try.prog w = .ok (.agg (evC ⟨false, f, a, b⟩)) w := run_build _ _ _ _ (by kernel_rfl)
theorem bsl_e2 (x y : Evt) (w : World) : (Instr.buildSlice 24 2 #[(0, .agg (evC x)), (1, .agg (evC y))]).run Try.prog w = .ok (.slice (some ⟨w.heap.size, 0, none⟩) 2 2) (w.alloc (.cells (evC x ++ evC y) 31)) :=
  run_buildSlice w 24 31 2 _ (evC x ++ evC y) ((Try.prog.info? 31).get (by kernel_rfl)) (((Try.prog.info? 31).get (by kernel_rfl)).zero.get (by kernel_rfl)) (by kernel_rfl) (by kernel_rfl) (by kernel_rfl) (by decide +kernel) (by decide +kernel) (by kernel_rfl)
theorem bsl_e3 (x y z : Evt) (w : World) : (Instr.buildSlice 24 3 #[(0, .agg (evC x)), (1, .agg (evC y)), (2, .agg (evC z))]).run Try.prog w = .ok (.slice (some ⟨w.heap.size, 0, none⟩) 3 3) (w.alloc (.cells (evC x ++ evC y ++ evC z) 31)) :=
  run_buildSlice w 24 31 3 _ (evC x ++ evC y ++ evC z) ((Try.prog.info? 31).get (by kernel_rfl)) (((Try.prog.info? 31).get (by kernel_rfl)).zero.get (by kernel_rfl)) (by kernel_rfl) (by kernel_rfl) (by kernel_rfl) (by decide +kernel) (by decide +kernel) (by kernel_rfl)
theorem rows2 (x y : Evt) : (evC x ++ evC y).toList = evLay.rows [x, y] := by unfold Lay.rows; simp [evLay]
theorem rows3 (x y z : Evt) : (evC x ++ evC y ++ evC z).toList = evLay.rows [x, y, z] := by unfold Lay.rows; simp [evLay]
theorem ev1 {w : World} {x : Evt} {K : Option Addr → Nat → Nat → World → Prop} (hK : ∀ b w', OwnL evLay w' w.heap.size 31 (some ⟨b, 0, none⟩) 1 1 [x] → Keep (fun _ => False) w w' → K (some ⟨b, 0, none⟩) 1 1 w') :
    DoV Try.prog (Instr.buildSlice 24 1 #[(0, .agg (evC x))]) w fun v w => OpS v fun p l c => K p l c w :=
  ⟨_, _, bsl_e1 x w, OpS_slice.2 (hK _ _ (OwnL.new (xs := [x]) (show 1 ≤ maxLen by decide) rfl) (Keep.new _ _ _))⟩
theorem ev2 {w : World} {x y : Evt} {K : Option Addr → Nat → Nat → World → Prop} (hK : ∀ b w', OwnL evLay w' w.heap.size 31 (some ⟨b, 0, none⟩) 2 2 [x, y] → Keep (fun _ => False) w w' → K (some ⟨b, 0, none⟩) 2 2 w') :
    DoV Try.prog (Instr.buildSlice 24 2 #[(0, .agg (evC x)), (1, .agg (evC y))]) w fun v w => OpS v fun p l c => K p l c w :=
  ⟨_, _, bsl_e2 x y w, OpS_slice.2 (hK _ _ (OwnL.new (xs := [x, y]) (show 2 ≤ maxLen by decide) (rows2 x y)) (Keep.new _ _ _))⟩
theorem ev3 {w : World} {x y z : Evt} {K : Option Addr → Nat → Nat → World → Prop} (hK : ∀ b w', OwnL evLay w' w.heap.size 31 (some ⟨b, 0, none⟩) 3 3 [x, y, z] → Keep (fun _ => False) w w' → K (some ⟨b, 0, none⟩) 3 3 w') :
    DoV Try.prog (Instr.buildSlice 24 3 #[(0, .agg (evC x)), (1, .agg (evC y)), (2, .agg (evC z))]) w fun v w => OpS v fun p l c => K p l c w :=
  ⟨_, _, bsl_e3 x y z w, OpS_slice.2 (hK _ _ (OwnL.new (xs := [x, y, z]) (show 3 ≤ maxLen by decide) (rows3 x y z)) (Keep.new _ _ _))⟩
/-- an event is built and laid in a block of its own -/
theorem ev_new {w : World} {s : Sem Value} {x : Evt} (hs : ∀ w, s.run Try.prog w = .ok (.agg (evC x)) w) {K : Nat → World → Prop} (hK : ∀ w', Has w' w.heap.size (.cells (evC x) 31 (0, 0)) → Keep (fun _ => False) w w' → K w.heap.size w') :
    DoQ Try.prog s (At w) fun v2 => OpA 19 v2 fun cs1 => Alc 31 (zc Try.prog 31) w fun b2 w => StA 19 b2 0 cs1 w fun w => K b2 w :=
  DoQ_of (fun d => hs _) (OpA_agg.2 ⟨rfl, copy_of zc_ev rfl (one_evC x) fun w' h k _ => hK w' h k⟩)
theorem orderly_of {evs : List Evt} {start : Sec} {w : World} {p : Option Addr} {l c : Nat} (h : SlL evLay w p l evs) (hok : ∀ x ∈ evs, EvOk x) (hst : SecOk start) (hc : chk evs = true) {K : Bool → Int → World → Prop}
    (hK : ∀ (g : Bool) w', (g = true ↔ Ord evs start) → Keep (fun _ => False) w w' → K g 0 w') : CallV Try.prog 12 #[.agg (secV start), .slice p l c] w fun v w => T2 v fun v1 v2 => OpB v1 fun g => OpI .i64 v2 fun n => K g n w :=
  run_Orderly h hok hst fun g w' hg k => by
    have e : chkN evs = 0 := by unfold chkN; rw [if_pos hc]
    rw [e]
    exact T2_mk.2 (OpB_bool.2 (OpI_int.2 (hK g w' (by rw [hg, hc]; simp) k)))
theorem last_of {evs : List Evt} {start : Sec} {w : World} {p : Option Addr} {l c : Nat} (h : SlL evLay w p l evs) (hok : ∀ x ∈ evs, EvOk x) (hst : SecOk start) (hc : chk evs = true) {K : Option Addr → Nat → Nat → Int → World → Prop}
    (hK : ∀ q d vs w', OwnL seLay w' w.heap.size 23 q vs.length d vs → Srt vs → (∀ v, v ∈ vs ↔ Holds21 evs start v) → (∀ v ∈ vs, SecOk v) → Keep (fun _ => False) w w' → K q vs.length d 0 w') :
    CallV Try.prog 43 #[.agg (secV start), .slice p l c] w fun v w => T2 v fun v1 v2 => OpS v1 fun p l c => OpI .i64 v2 fun n => K p l c n w :=
  run_Last h hok hst fun q d vs w' o s m k1 k => by
    have e : chkN evs = 0 := by unfold chkN; rw [if_pos hc]
    rw [e]
    exact T2_mk.2 (OpS_slice.2 (OpI_int.2 (hK q d vs w' o s (fun v => by rw [m, hc]; simp) k1 k)))
theorem opens_run {start v : Sec} {w : World} (hst : SecOk start) (hv : SecOk v) {R : Value → World → Prop} (hR : ∀ w', Keep (fun _ => False) w w' → R (.bool true) w') :
    CallV Try.prog 10 #[.agg (secV start), .agg (secV v)] w R := by
  apply C_ravelinlaw21_HistoryOpens
  unfold F_ravelinlaw21_HistoryOpens
  refine alc_new fun w1 hs1 k1 z1 => ?_
  refine alc_new fun w2 hv2 k2 z2 => ?_
  refine law21_awake fun w3 k3 => ?_
  rw [OpB_bool]
  refine (Cb_false (p := _)).2 ?_
  have hs3 := (k2.trans k3).has hs1 (by simp)
  have hv3 := k3.has hv2 (by simp)
  have k03 := (k1.trans k2).trans k3
  have okW : EvOk (opW v) := ⟨hv, show (-9223372036854775808 : Int) ≤ 0 ∧ (0 : Int) ≤ 9223372036854775807 by decide, show (-9223372036854775808 : Int) ≤ -1 ∧ (-1 : Int) ≤ 9223372036854775807 by decide⟩
  have okR : ∀ (f : Sec) (a b : Int), SecOk f → 0 ≤ a → a ≤ 10 → 0 ≤ b → b ≤ 10 → EvOk ⟨false, f, a, b⟩ := fun f a b h h1 h2 h3 h4 => ⟨h, by show _ ≤ a ∧ a ≤ _; omega, by show _ ≤ b ∧ b ≤ _; omega⟩
  refine LdA_all hv3 rfl ?_
  refine ev_new (x := opW v) (fun w => bld_ev v 0 w) fun w4 hw4 k4 => ?_
  refine LdA_all (k4.has hv3 (by simp)) rfl ?_
  refine ev_new (x := opA v) (fun w => bld_rd v 1 2 w) fun w5 ha5 k5 => ?_
  have k35 := k4.trans k5
  refine LdA_all (k35.has hs3 (by simp)) rfl ?_
  refine ev_new (x := opB start) (fun w => bld_rd start 3 4 w) fun w6 hb6 k6 => ?_
  have k36 := k35.trans k6
  have hs6 := k36.has hs3 (by simp)
  have hv6 := k36.has hv3 (by simp)
  have hw6 := (k5.trans k6).has hw4 (by simp)
  have ha6 := k6.has ha5 (by simp)
  refine LdA_all hs6 rfl ?_
  refine LdA_all hw6 rfl ?_
  refine ev1 fun b7 w7 o7 k7 => ?_
  refine last_of o7.sl (by simpa using okW) hst rfl fun q d vs w8 o8 hsrt hm hvs k8 => ?_
  have k68 := k7.trans k8
  have hm' : ∀ u, u ∈ vs ↔ u = start ∨ u = v := fun u => by rw [hm, holds_W]
  refine LdA_all (k68.has hs6 (by simp)) rfl ?_
  refine LdA_all (k68.has hw6 (by simp)) rfl ?_
  refine LdA_all (k68.has ha6 (by simp)) rfl ?_
  refine ev2 fun b9 w9 o9 k9 => ?_
  refine orderly_of o9.sl (by simpa using ⟨okW, okR v 1 2 hv (by decide) (by decide) (by decide) (by decide)⟩) hst rfl fun g1 w10 hg1 k10 => ?_
  have hg1 : g1 = true := hg1.2 (ord_WA start v)
  subst hg1
  have k610 := k68.trans (k9.trans k10)
  refine LdA_all (k610.has hs6 (by simp)) rfl ?_
  refine LdA_all (k610.has hw6 (by simp)) rfl ?_
  refine LdA_all (k610.has ha6 (by simp)) rfl ?_
  refine LdA_all (k610.has hb6 (by simp)) rfl ?_
  refine ev3 fun b11 w11 o11 k11 => ?_
  refine orderly_of o11.sl (by simpa using ⟨okW, okR v 1 2 hv (by decide) (by decide) (by decide) (by decide), okR start 3 4 hst (by decide) (by decide) (by decide) (by decide)⟩) hst rfl fun g2 w12 hg2 k12 => ?_
  rw [ord_WAB] at hg2
  have k612 := k610.trans (k11.trans k12)
  refine LdA_all (k612.has hs6 (by simp)) rfl ?_
  refine ev_new (x := opC start) (fun w => bld_rd start 1 2 w) fun w13 hc13 k13 => ?_
  have k613 := k612.trans k13
  refine LdA_all (k613.has hv6 (by simp)) rfl ?_
  refine ev_new (x := opD v) (fun w => bld_rd v 3 4 w) fun w14 hd14 k14 => ?_
  have k614 := k613.trans k14
  refine LdA_all (k614.has hs6 (by simp)) rfl ?_
  refine LdA_all (k614.has hw6 (by simp)) rfl ?_
  refine LdA_all (k14.has hc13 (by simp)) rfl ?_
  refine LdA_all hd14 rfl ?_
  refine ev3 fun b15 w15 o15 k15 => ?_
  refine orderly_of o15.sl (by simpa using ⟨okW, okR start 1 2 hst (by decide) (by decide) (by decide) (by decide), okR v 3 4 hv (by decide) (by decide) (by decide) (by decide)⟩) hst rfl fun g3 w16 hg3 k16 => ?_
  have hg3 : g3 = true := hg3.2 (ord_WCD start v)
  subst hg3
  have k616 := k614.trans (k15.trans k16)
  have k06 := k03.trans k36
  have k016 := k06.trans k616
  have hs16 := k616.has hs6 (by simp)
  have hv16 := k616.has hv6 (by simp)
  have k816 : Keep (fun _ => False) w8 w16 := ((((k9.trans k10).trans (k11.trans k12)).trans k13).trans k14).trans (k15.trans k16)
  have o16 := o8.keep k816 (by simp)
  refine ⟨rfl, rfl, rfl, rfl, rfl, rfl, rfl, rfl, rfl, rfl, ?_⟩
  refine (Cb_false (p := _)).2 ?_
  refine LdA_all hv16 rfl ?_
  refine LdA_all hs16 rfl ?_
  refine EqB_sec hv hst fun g4 hg4 => ?_
  have done : ∀ d, R (.bool true) (w16.dr d) := fun d => hR _ (k016.dr d)
  refine Cb_of (fun h4 => ?_) (fun h4 => ?_)
  · have e := hg4.1 h4
    subst e
    have hvs1 : vs = [v] := Srt.ext hsrt (List.pairwise_singleton _ _) fun u => by rw [hm']; simp
    subst hvs1
    refine (Cb_true (q := _)).2 ?_
    refine o16.ldA rfl (by decide) rfl ?_
    refine LdA_all hv16 rfl ?_
    refine EqB_sec hv hv fun g5 hg5 => ?_
    have hg5 : g5 = true := hg5.2 rfl
    have hg2 : g2 = true := hg2.2 rfl
    subst hg5 hg2
    exact ⟨rfl, fun d => Ret_nil.2 (done d)⟩
  · have hne : v ≠ start := fun e => by rw [hg4.2 e] at h4; cases h4
    have hg2 : g2 = false := by
      cases g2
      · rfl
      · exact absurd (hg2.1 rfl) hne
    subst hg2
    have hor : vs = [start, v] ∨ vs = [v, start] := by
      have h0 : cmpS start v ≠ 0 := fun e => hne (cmpS_zero hst hv e).symm
      by_cases h : cmpS start v < 0
      · exact Or.inl (Srt.ext hsrt (List.pairwise_cons.2 ⟨fun u hu => by rw [List.mem_singleton.1 hu]; exact h, List.pairwise_singleton _ _⟩) fun u => by rw [hm']; simp)
      · have h' : cmpS v start < 0 := by have := cmpS_anti start v; omega
        exact Or.inr (Srt.ext hsrt (List.pairwise_cons.2 ⟨fun u hu => by rw [List.mem_singleton.1 hu]; exact h', List.pairwise_singleton _ _⟩) fun u => by rw [hm']; simp only [List.mem_cons, List.not_mem_nil, or_false]; exact Or.comm)
    rcases hor with e | e
    · subst e
      refine (Cb_true (q := _)).2 ?_
      refine o16.ldA (x := start) rfl (by decide) rfl ?_
      refine LdA_all hv16 rfl ?_
      refine EqB_sec hst hv fun g6 hg6 => ?_
      refine Cb_of (fun h6 => absurd (hg6.1 h6).symm hne) (fun _ => ?_)
      refine o16.ldA (x := v) rfl (by decide) rfl ?_
      refine LdA_all hv16 rfl ?_
      refine EqB_sec hv hv fun g9 hg9 => ?_
      have hg9 : g9 = true := hg9.2 rfl
      subst hg9
      refine (Cb_true (q := _)).2 ?_
      refine o16.ldA (x := start) rfl (by decide) rfl ?_
      refine LdA_all hs16 rfl ?_
      refine EqB_sec hst hst fun g10 hg10 => ?_
      have hg10 : g10 = true := hg10.2 rfl
      subst hg10
      refine (Cb_true (q := _)).2 ?_
      exact ⟨rfl, rfl, fun d => Ret_nil.2 (done d)⟩
    · subst e
      refine (Cb_true (q := _)).2 ?_
      refine o16.ldA (x := v) rfl (by decide) rfl ?_
      refine LdA_all hv16 rfl ?_
      refine EqB_sec hv hv fun g6 hg6 => ?_
      have hg6 : g6 = true := hg6.2 rfl
      subst hg6
      refine (Cb_true (q := _)).2 ?_
      refine o16.ldA (x := v) rfl (by decide) rfl ?_
      refine LdA_all hs16 rfl ?_
      refine EqB_sec hv hst fun g7 hg7 => ?_
      refine Cb_of (fun h7 => absurd (hg7.1 h7) hne) (fun _ => ?_)
      refine o16.ldA (x := start) rfl (by decide) rfl ?_
      refine LdA_all hs16 rfl ?_
      refine EqB_sec hst hst fun g8 hg8 => ?_
      have hg8 : g8 = true := hg8.2 rfl
      subst hg8
      exact ⟨rfl, rfl, fun d => Ret_nil.2 (done d)⟩
theorem opens_walk {start v : Sec} {w : World} (hst : SecOk start) (hv : SecOk v) : CallV Try.prog 10 #[.agg (secV start), .agg (secV v)] w fun v w' => v = .bool true ∧ Below w.heap.size w w' :=
  opens_run hst hv fun w' k => ⟨rfl, k.below⟩
end Go.Proofs
