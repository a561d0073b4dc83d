/-
  HistoryAny, the walk.
-/
import Derived.Test.YtdjlmpkjdgmkkaaAnyP
namespace Go.Proofs
open Go Go.Ev Go.RowKit
set_option linter.unusedSimpArgs false
set_option linter.unusedVariables false
set_option maxRecDepth 100000

theorem Slc_hi {n cap hi : Nat} {K : Nat → Nat → Nat → Prop} (h1 : hi ≤ cap) (hK : K 0 hi cap) : Slc n cap none (some (hi : Int)) none K := by
  refine ⟨by decide, ?_, ?_, ?_, ?_⟩
  · show (0 : Int) ≤ (hi : Int); omega
  · show (hi : Int) ≤ (cap : Int); omega
  · show (cap : Int) ≤ (cap : Int); omega
  · show K (Int.toNat 0) (Int.toNat (hi : Int)) (Int.toNat (cap : Int))
    rw [Int.toNat_natCast, Int.toNat_natCast]; exact hK
theorem IdxS_req {p : Option Addr} {l n : Nat} {i : Int} {q : Prop} (hq : q) {K : Nat → Nat → Prop} (h : IdxS p l i n K) : IdxS p l i n fun b o => Req q (K b o) := by
  obtain ⟨b, o, h1, h2, h3, h4⟩ := h
  exact ⟨b, o, h1, h2, h3, hq, h4⟩
theorem app_ev {w : World} {base : Nat} {p : Option Addr} {l c : Nat} {xs : List Evt} {x : Evt} {K : Option Addr → Nat → Nat → World → Prop} (ho : OwnL evLay w base 31 p l c xs) (hl : l ≤ 1000) (hb : base ≤ w.heap.size)
    (hK : ∀ p' c' w', OwnL evLay w' base 31 p' (l + 1) c' (xs ++ [x]) → Keep (fun k => p = some ⟨k, 0, none⟩) w w' → K p' (l + 1) c' w') :
    DoV Try.prog (Instr.buildSlice 24 1 #[(0, .agg (evC x))]) w fun v w => OpS v fun p1 l1 c1 => DoV Try.prog (Builtin.append_ #[24, 24] 24 #[.slice p l c, .slice p1 l1 c1]) w fun v2 w => OpS v2 fun p2 l2 c2 => K p2 l2 c2 w := by
  refine ⟨_, _, bsl_e1 x w, ?_⟩
  refine OpS_slice.2 ?_
  have k1 : Keep (fun _ => False) w (w.alloc (.cells (evC x) 31)) := Keep.new _ _ _
  have h1 : Has (w.alloc (.cells (evC x) 31)) w.heap.size (.cells (evC x) 31 (0, 0)) := Has.new _ _
  generalize w.alloc (.cells (evC x) 31) = w1 at *
  obtain ⟨p', c', w2, hr, o2, k2⟩ := run_appendL1 evLayT (ho.keep k1 (by simp)) (y := x) h1 rfl (ty := 24) (by omega) (by simp only [maxLen]; omega) (Nat.le_trans hb k1.size) (c2 := 1)
  refine ⟨_, _, hr, ?_⟩
  exact OpS_slice.2 (hK p' c' w2 o2 ((k1.mono (by simp)).trans k2))
/-- rows whose first elements differ lie in two blocks -/
theorem apart_first {w : World} {b1 b2 : Nat} {p q : Option Addr} {l c m d : Nat} {xs ys : List Evt} {x y : Evt} (h1 : OwnL evLay w b1 31 p l c xs) (h2 : OwnL evLay w b2 31 q m d ys) (hx : xs[0]? = some x) (hy : ys[0]? = some y) (hne : x ≠ y)
    {k : Nat} (hp : p = some ⟨k, 0, none⟩) : ¬ q = some ⟨k, 0, none⟩ := by
  intro hq
  obtain ⟨b, e1, c1⟩ := h1.at hx
  obtain ⟨b', e2, c2⟩ := h2.at hy
  rw [hp] at e1
  rw [hq] at e2
  cases e1; cases e2
  apply hne
  apply evC_inj
  apply Array.toList_inj.1
  apply List.ext_getElem?
  intro j
  by_cases hj : j < 19
  · exact (c1 j hj).symm.trans (c2 j hj)
  · rw [List.getElem?_eq_none (by show (evC x).toList.length ≤ j; rw [show (evC x).toList.length = 19 from rfl]; omega), List.getElem?_eq_none (by rw [show (evC y).toList.length = 19 from rfl]; omega)]
/-- a row with something in it, and one without room -/
theorem apart_empty {w : World} {b1 b2 : Nat} {p q : Option Addr} {l c m : Nat} {xs ys : List Evt} (h1 : OwnL evLay w b1 31 p (l + 1) c xs) (h2 : OwnL evLay w b2 31 q m 0 ys) {k : Nat} (hp : p = some ⟨k, 0, none⟩) : ¬ q = some ⟨k, 0, none⟩ := by
  intro hq
  rcases Own.cases h1 with ⟨h0, _⟩ | ⟨b, cur, h0, _, hg, hle, _, hs, _⟩
  · rw [h0] at hp; cases hp
  · rw [h0] at hp; cases hp
    rcases Own.cases h2 with ⟨h0', _⟩ | ⟨b', cur', h0', _, hg', _, _, hs', _⟩
    · rw [h0'] at hq; cases hq
    · rw [h0'] at hq; cases hq
      have := hg.inj hg'
      simp only [Obj.cells.injEq, and_true] at this
      rw [this, hs'] at hs
      have h19 : evLay.size = 19 := rfl
      rw [h19] at hs
      omega
theorem dis_le {ys : List Int} : ∀ j, (dis ys j).length ≤ j
  | 0 => by simp [dis]
  | j + 1 => by
    have ih := dis_le (ys := ys) j
    show (if ys.getD j 0 ∈ dis ys j then dis ys j else dis ys j ++ [ys.getD j 0]).length ≤ j + 1
    by_cases h : ys.getD j 0 ∈ dis ys j
    · rw [if_pos h]; omega
    · rw [if_neg h, List.length_append, List.length_singleton]; omega
def seenF (ys : List Int) (j : Nat) : Nat → Bool := fun k => decide ((k : Int) ∈ dis ys j)
/-- the body for values of at most 8, as it is printed -/
def ABody (vp : Option Addr) (vl b : Nat) (w : World) (R : Value → World → Prop) : Prop :=
  DoV Try.prog (Instr.buildSlice 24 0 #[]) w fun v28 w => OpS v28 fun p9 l10 c9 => DoV Try.prog (Instr.buildSlice 24 0 #[]) w fun v29 w => OpS v29 fun p10 l11 c10 => DoV Try.prog (Instr.makeSlice 67 (.int .i64 256) (.int .i64 256)) w fun v30 w => OpS v30 fun p11 l12 c11 => LoopC (σ := (Option Addr × Nat × Nat) × (Option Addr × Nat × Nat) × Int × Int × Unit) (fun _ s3 w K3 => Cb (decide (s3.2.2.2.1 < ((vl : Nat) : Int))) (IdxS vp vl s3.2.2.2.1 1 fun b16 o14 => LdV b16 o14 (At w) fun v31 => OpI .u8 v31 fun n10 => DoQ Try.prog (Instr.build 23 #[(0, .int .u8 n10), (1, .int .u8 77)]) (At w) fun v32 => OpA 16 v32 fun cs13 => Alc 23 (zc Try.prog 23) w fun b17 w => StA 16 b17 0 cs13 w fun w => LdA 16 b17 0 (At w) fun cs14 => DoQ Try.prog (Instr.build 31 #[(0, .bool true), (1, .agg cs14), (2, .int .i64 s3.2.2.2.1), (3, .int .i64 100)]) (At w) fun v33 => OpA 19 v33 fun cs15 => DoV Try.prog (Instr.buildSlice 24 1 #[(0, .agg cs15)]) w fun v34 w => OpS v34 fun p12 l13 c12 => DoV Try.prog (Builtin.append_ #[24, 24] 24 #[.slice s3.1.1 s3.1.2.1 s3.1.2.2, .slice p12 l13 c12]) w fun v35 w => OpS v35 fun p13 l14 c13 => LdA 16 b17 0 (At w) fun cs16 => DoQ Try.prog (Instr.build 31 #[(0, .bool true), (1, .agg cs16), (2, .int .i64 (IntKind.wrap .i64 (2 * s3.2.2.2.1))), (3, .int .i64 (IntKind.wrap .i64 ((IntKind.wrap .i64 (2 * s3.2.2.2.1)) + 1)))]) (At w) fun v36 => OpA 19 v36 fun cs17 => DoV Try.prog (Instr.buildSlice 24 1 #[(0, .agg cs17)]) w fun v37 w => OpS v37 fun p14 l15 c14 => DoV Try.prog (Builtin.append_ #[24, 24] 24 #[.slice s3.2.1.1 s3.2.1.2.1 s3.2.1.2.2, .slice p14 l15 c14]) w fun v38 w => OpS v38 fun p15 l16 c15 => IdxS vp vl s3.2.2.2.1 1 fun b18 o15 => LdV b18 o15 (At w) fun v39 => OpI .u8 v39 fun n11 => IdxS p11 l12 n11 1 fun b19 o16 => LdV b19 o16 (At w) fun v40 => OpB v40 fun g6 => Cb (!g6) (IdxS vp vl s3.2.2.2.1 1 fun b20 o17 => LdV b20 o17 (At w) fun v41 => OpI .u8 v41 fun n12 => IdxS p11 l12 n12 1 fun b21 o18 => StV b21 o18 (.bool true) w fun w => K3 ((p13, l14, c13), ((p15, l16, c15), (IntKind.wrap .i64 (s3.2.2.1 + 1), (IntKind.wrap .i64 (s3.2.2.2.1 + 1), ())))) w) (K3 ((p13, l14, c13), ((p15, l16, c15), (s3.2.2.1, (IntKind.wrap .i64 (s3.2.2.2.1 + 1), ())))) w)) (LdA 16 b 0 (At w) fun cs18 => CallV Try.prog 43 #[.agg cs18, .slice s3.1.1 s3.1.2.1 s3.1.2.2] w fun v42 w => T2 v42 fun v43 v44 => OpS v43 fun p16 l17 c16 => OpI .i64 v44 fun n13 => LdA 16 b 0 (At w) fun cs19 => CallV Try.prog 43 #[.agg cs19, .slice s3.2.1.1 s3.2.1.2.1 s3.2.1.2.2] w fun v45 w => T2 v45 fun v46 v47 => OpS v46 fun p17 l18 c17 => OpI .i64 v47 fun n14 => Req ((n13 != 0) = (n13 != 0)) (Req ((n13 != 0) = (n13 != 0)) (Cb (cond (n13 != 0) true (n14 != 0)) (Ret [] (R (.bool false) w)) (Cb (((l18 : Nat) : Int) != 1) (Ret [] (R (.bool false) w)) (Cb (((vl : Nat) : Int) == 0) (Cb (((l17 : Nat) : Int) == 1) (IdxS p16 l17 0 16 fun b22 o19 => LdA 16 b22 o19 (At w) fun cs20 => LdA 16 b 0 (At w) fun cs21 => EqB Try.prog .eql 23 (.tmp 101) (.tmp 102) (.agg cs20 : Value) (.agg cs21 : Value) (At w) fun g7 => Cb g7 (IdxS p17 l18 0 16 fun b23 o20 => LdA 16 b23 o20 (At w) fun cs22 => LdA 16 b 0 (At w) fun cs23 => EqB Try.prog .eql 23 (.tmp 108) (.tmp 109) (.agg cs22 : Value) (.agg cs23 : Value) (At w) fun g8 => Drw w fun w => Ret [] (R (.bool g8) w)) (Drw w fun w => Ret [] (R (.bool false) w))) (Drw w fun w => Ret [] (R (.bool false) w))) (LoopC (σ := Int × Unit) (fun _ s4 w K4 => Cb (decide (s4.1 < ((l17 : Nat) : Int))) (IdxS p16 l17 s4.1 16 fun b24 o21 => Req (0 ≤ (0 : Int) ∧ (0 : Int) < 16) (LdV b24 (o21 + Int.toNat 0 * 1) (At w) fun v48 => OpI .u8 v48 fun n15 => IdxS p11 l12 n15 1 fun b25 o22 => LdV b25 o22 (At w) fun v49 => OpB v49 fun g9 => Cb (!g9) (Drw w fun w => Ret [] (R (.bool false) w)) (IdxS p16 l17 s4.1 16 fun b26 o23 => Req (0 ≤ (1 : Int) ∧ (1 : Int) < 16) (LdV b26 (o23 + Int.toNat 1 * 1) (At w) fun v50 => OpI .u8 v50 fun n16 => Cb (n16 != 77) (Drw w fun w => Ret [] (R (.bool false) w)) (Cb (decide (s4.1 > 0)) (IdxS p16 l17 (IntKind.wrap .i64 (s4.1 - 1)) 16 fun b27 o24 => Req (0 ≤ (0 : Int) ∧ (0 : Int) < 16) (LdV b27 (o24 + Int.toNat 0 * 1) (At w) fun v51 => OpI .u8 v51 fun n17 => IdxS p16 l17 s4.1 16 fun b28 o25 => Req (0 ≤ (0 : Int) ∧ (0 : Int) < 16) (LdV b28 (o25 + Int.toNat 0 * 1) (At w) fun v52 => OpI .u8 v52 fun n18 => Drw w fun w => Cb (decide (n17 ≥ n18)) (Ret [] (R (.bool false) w)) (K4 (IntKind.wrap .i64 (s4.1 + 1), ()) w)))) (Drw w fun w => K4 (IntKind.wrap .i64 (s4.1 + 1), ()) w)))))) (Cb (((l17 : Nat) : Int) == s3.2.2.1) (IdxS p17 l18 0 16 fun b29 o26 => LdA 16 b29 o26 (At w) fun cs24 => IdxS vp vl (IntKind.wrap .i64 (((vl : Nat) : Int) - 1)) 1 fun b30 o27 => LdV b30 o27 (At w) fun v53 => OpI .u8 v53 fun n19 => DoQ Try.prog (Instr.build 23 #[(0, .int .u8 n19), (1, .int .u8 77)]) (At w) fun v54 => OpA 16 v54 fun cs25 => EqB Try.prog .eql 23 (.tmp 160) (.tmp 167) (.agg cs24 : Value) (.agg cs25 : Value) (At w) fun g10 => Drw w fun w => Ret [] (R (.bool g10) w)) (Drw w fun w => Ret [] (R (.bool false) w)))) (0, ()) w))))))) ((p9, l10, c9), ((p10, l11, c10), (0, (0, ())))) w
theorem any_body {start : Sec} {ys : List Int} (hst : SecOk start) (hy : Bytes ys) {w : World} {vp : Option Addr} {vl b : Nat} {R : Value → World → Prop} (hv : SlL byLay w vp vl ys) (h8 : vl ≤ 8) (hb : Has w b (.cells (secV start) 23 (0, 0))) (hR : ∀ w', Keep (fun _ => False) w w' → R (.bool true) w') : ABody vp vl b w R := by
  unfold ABody
  have hvl := hv.1
  refine ⟨_, _, bsl_ev0 w, ?_⟩
  refine OpS_slice.2 ?_
  have k1 : Keep (fun _ => False) w (w.alloc (.cells #[] 31)) := Keep.new _ _ _
  have o1 : OwnL evLay (w.alloc (.cells #[] 31)) w.heap.size 31 (some ⟨w.heap.size, 0, none⟩) 0 0 [] := OwnL.new (xs := []) (by decide) rfl
  have z1 : (w.alloc (.cells #[] 31)).heap.size = w.heap.size + 1 := by simp
  generalize w.alloc (.cells #[] 31) = w1 at *
  refine ⟨_, _, bsl_ev0 w1, ?_⟩
  refine OpS_slice.2 ?_
  have k2 : Keep (fun _ => False) w1 (w1.alloc (.cells #[] 31)) := Keep.new _ _ _
  have o2 : OwnL evLay (w1.alloc (.cells #[] 31)) w1.heap.size 31 (some ⟨w1.heap.size, 0, none⟩) 0 0 [] := OwnL.new (xs := []) (by decide) rfl
  have z2 : (w1.alloc (.cells #[] 31)).heap.size = w1.heap.size + 1 := by simp
  generalize w1.alloc (.cells #[] 31) = w2 at *
  refine ⟨_, _, mk_bools 256 (by decide) w2, ?_⟩
  refine OpS_slice.2 ?_
  have k3 : Keep (fun _ => False) w2 (w2.alloc (.cells (ofF 256 fun _ => .bool false) 4)) := Keep.new _ _ _
  have hs3 : Has (w2.alloc (.cells (ofF 256 fun _ => .bool false) 4)) w2.heap.size (.cells (ofF 256 fun _ => .bool false) 4 (0, 0)) := Has.new _ _
  generalize w2.alloc (.cells (ofF 256 fun _ => .bool false) 4) = w3 at *
  generalize hbs : w2.heap.size = bs at *
  generalize hq1 : w1.heap.size = q1 at *
  generalize hq : w.heap.size = q at *
  have hblt := hb.lt
  have hseen0 : (ofF 256 fun _ => Value.bool false) = ofF 256 fun k => .bool (seenF ys 0 k) := rfl
  rw [hseen0] at hs3
  refine LoopC_of (σ := (Option Addr × Nat × Nat) × (Option Addr × Nat × Nat) × Int × Int × Unit) (fun st w' => ∃ j : Nat, st.2.2.2.1 = j ∧ j ≤ vl ∧ st.1.2.1 = j ∧ st.2.1.2.1 = j ∧ st.2.2.1 = ((dis ys j).length : Int) ∧ OwnL evLay w' q 31 st.1.1 j st.1.2.2 (ovL ys j) ∧ OwnL evLay w' q 31 st.2.1.1 j st.2.1.2.2 (roL ys j) ∧
      (∀ k, st.1.1 = some ⟨k, 0, none⟩ → ¬ st.2.1.1 = some ⟨k, 0, none⟩) ∧ (j = 0 → st.2.1.2.2 = 0) ∧ Has w' bs (.cells (ofF 256 fun k => .bool (seenF ys j k)) 4 (0, 0)) ∧ Keep (fun k => q ≤ k) w w')
    (fun st _ => (vl - st.2.2.2.1).toNat) ⟨0, rfl, by omega, rfl, rfl, rfl, (o1.keep k2 (by simp)).keep k3 (by simp), (o2.keep k3 (by simp)).rebase (by omega), fun k h1 h2 => by
      have e1 : some (⟨q, 0, none⟩ : Addr) = some ⟨k, 0, none⟩ := h1
      have e2 : some (⟨q1, 0, none⟩ : Addr) = some ⟨k, 0, none⟩ := h2
      rw [← e2] at e1
      injection e1 with e1
      injection e1 with e1
      omega, fun _ => rfl, hs3, ((k1.trans k2).trans k3).mono (by simp)⟩ ?_
  rintro _ ⟨⟨p4, l4, c4⟩, ⟨p5, l5, c5⟩, kn, i1, u⟩ w4 ⟨j, hj, hjl, hl4, hl5, hkn, o4, r4, ap, hc0, hs4, k4⟩
  simp only at hj hl4 hl5 hkn o4 r4 ap hc0 ⊢
  subst hj hl4
  have hl5' : l5 = l4 := hl5
  subst hl5' hkn
  have k04 : Keep (fun _ => False) w w4 := ⟨k4.os, k4.tape, k4.output, k4.size, fun k hk _ => k4.block k hk (by omega)⟩
  have hb4 := k4.has hb (by omega)
  have hqs : q ≤ w4.heap.size := by have := k4.size; omega
  have hqbs : q ≤ bs := by omega
  have nty : ∀ {k : Nat} {w' : World} {xs : List Evt} {pp : Option Addr} {ll cc : Nat} {cs : Array Value} {t : TypeId} {f : Nat × Nat}, OwnL evLay w' q 31 pp ll cc xs → Has w' k (.cells cs t f) → t ≠ 31 → ¬ pp = some ⟨k, 0, none⟩ := by
    intro k w' xs pp ll cc cs t f ho' hk ht e
    rcases Own.cases ho' with ⟨h0, _⟩ | ⟨b', cur, h0, _, hg, _⟩
    · rw [h0] at e; cases e
    · rw [h0] at e; cases e
      have := hg.inj hk
      simp only [Obj.cells.injEq] at this
      exact ht this.2.1.symm
  refine Cb_of (fun hc => ?_) (fun hc => ?_)
  · have hj : l5 < vl := by simp only [decide_eq_true_eq] at hc; omega
    have hjy : l5 < ys.length := by omega
    have gy := getD_at (xs := ys) hjy 0
    have hyb := bytes_at hy hjy
    have ew : IntKind.wrap .i64 ((l5 : Int) + 1) = ((l5 + 1 : Nat) : Int) := by rw [wrapI (by omega) (by omega)]; omega
    have e1 : IntKind.wrap .i64 (2 * (l5 : Int)) = 2 * (l5 : Int) := wrapI (by omega) (by omega)
    have e2 : IntKind.wrap .i64 (2 * (l5 : Int) + 1) = 2 * (l5 : Int) + 1 := wrapI (by omega) (by omega)
    refine (hv.keepB k04 (by simp)).ld0 rfl (by omega) gy (v := .int .u8 (ys.getD l5 0)) rfl ?_
    refine OpI_int.2 ?_
    refine DoQ_of (fun d => bld_sec2 _ _ _) ?_
    refine OpA_agg.2 ⟨rfl, ?_⟩
    refine copy_of zc_se rfl (one_secV _) fun w5 h5 k5 z5 => ?_
    generalize hb5 : w4.heap.size = b5 at *
    refine LdA_all h5 rfl ?_
    refine DoQ_of (fun d => bld_ev' true (vY ys l5) _ _ _) ?_
    refine OpA_agg.2 ⟨rfl, ?_⟩
    have o5 := o4.keep k5 (by simp)
    have r5 := r4.keep k5 (by simp)
    have hs5 := k5.has hs4 (by simp)
    have hq5 : q ≤ w5.heap.size := by omega
    refine app_ev (x := ovE ys l5) o5 (by omega) hq5 fun p6 c6 w6 o6 k6 => ?_
    have r6 := r5.keep k6 fun k hk e => ap k e hk
    have h6 := k6.has h5 (nty o5 h5 (by decide))
    have hs6 := k6.has hs5 (nty o5 hs5 (by decide))
    have eo : ovL ys (l5 + 1) = ovL ys l5 ++ [ovE ys l5] := by unfold ovL; rw [List.range_succ, List.map_append]; rfl
    have er : roL ys (l5 + 1) = roL ys l5 ++ [roE ys l5] := by unfold roL; rw [List.range_succ, List.map_append]; rfl
    rw [← eo] at o6
    have fo : ∀ n, 0 < n → (ovL ys n)[0]? = some (ovE ys 0) := fun n hn => range_at hn
    have fr : ∀ n, 0 < n → (roL ys n)[0]? = some (roE ys 0) := fun n hn => range_at hn
    have dne : ovE ys 0 ≠ roE ys 0 := fun e => absurd (congrArg Evt.to e) (show ¬ (100 : Int) = 2 * ((0 : Nat) : Int) + 1 by decide)
    have ap6 : ∀ k, p6 = some ⟨k, 0, none⟩ → ¬ p5 = some ⟨k, 0, none⟩ := by
      intro k hk
      by_cases h0 : l5 = 0
      · have hcz := hc0 h0
        subst hcz
        exact apart_empty o6 r6 hk
      · exact apart_first o6 r6 (fo _ (by omega)) (fr _ (by omega)) dne hk
    refine LdA_all h6 rfl ?_
    rw [e1, e2]
    refine DoQ_of (fun d => bld_ev' true (vY ys l5) _ _ _) ?_
    refine OpA_agg.2 ⟨rfl, ?_⟩
    have hq6 : q ≤ w6.heap.size := Nat.le_trans hq5 k6.size
    refine app_ev (x := roE ys l5) r6 (by omega) hq6 fun p7 c7 w7 r7 k7 => ?_
    rw [← er] at r7
    have o7 := o6.keep k7 fun k hk e => ap6 k hk e
    have hs7 := k7.has hs6 (nty r6 hs6 (by decide))
    have ap7 : ∀ k, p6 = some ⟨k, 0, none⟩ → ¬ p7 = some ⟨k, 0, none⟩ := fun k hk => apart_first o7 r7 (fo _ (by omega)) (fr _ (by omega)) dne hk
    have k47 : Keep (fun k => q ≤ k) w w7 := ((k4.trans (k5.mono (by simp))).trans (k6.mono fun k hk => (o5.lt hk).1)).trans (k7.mono fun k hk => (r6.lt hk).1)
    have k07 : Keep (fun _ => False) w w7 := ⟨k47.os, k47.tape, k47.output, k47.size, fun k hk _ => k47.block k hk (by omega)⟩
    have hv7 := hv.keepB k07 (by simp)
    refine hv7.ld0 rfl (by omega) gy (v := .int .u8 (ys.getD l5 0)) rfl ?_
    refine OpI_int.2 ?_
    refine (ld_own hs7 (by omega) (by omega)).2 ?_
    refine OpB_bool.2 ?_
    have hse : seenF ys l5 (ys.getD l5 0).toNat = decide (ys.getD l5 0 ∈ dis ys l5) := by
      unfold seenF
      rw [show (((ys.getD l5 0).toNat : Nat) : Int) = ys.getD l5 0 by omega]
    rw [hse]
    refine Cb_of (fun hg => ?_) (fun hg => ?_)
    · have hnin : ys.getD l5 0 ∉ dis ys l5 := by simpa using hg
      have hd : dis ys (l5 + 1) = dis ys l5 ++ [ys.getD l5 0] := by
        show (if _ then _ else _) = _
        rw [if_neg hnin]
      refine hv7.ld0 rfl (by omega) gy (v := .int .u8 (ys.getD l5 0)) rfl ?_
      refine OpI_int.2 ?_
      refine (st_own hs7 (by omega) (by omega)).2 ⟨rfl, ?_⟩
      have hcell : (ofF 256 fun k => if k = (ys.getD l5 0).toNat then Value.bool true else .bool (seenF ys l5 k)) = ofF 256 fun k => .bool (seenF ys (l5 + 1) k) := by
        refine ofF_congr fun k _ => ?_
        unfold seenF
        rw [hd]
        by_cases hk : k = (ys.getD l5 0).toNat
        · rw [if_pos hk]
          have hm : (k : Int) ∈ dis ys l5 ++ [ys.getD l5 0] := by
            rw [hk, show (((ys.getD l5 0).toNat : Nat) : Int) = ys.getD l5 0 by omega]
            simp
          rw [decide_eq_true hm]
        · rw [if_neg hk]
          have hne : ¬ (k : Int) = ys.getD l5 0 := by omega
          congr 1
          rw [decide_eq_decide, List.mem_append, List.mem_singleton]
          exact ⟨Or.inl, fun h => h.elim id fun e => absurd e hne⟩
      rw [hcell]
      have kk : Keep (fun k => k = bs) w7 (w7.upd bs (.cells (ofF 256 fun k => .bool (seenF ys (l5 + 1) k)) 4 (0, 0))) := Keep.one _ _ _
      have ekn : IntKind.wrap .i64 (((dis ys l5).length : Int) + 1) = ((dis ys (l5 + 1)).length : Int) := by
        have := dis_le (ys := ys) l5
        rw [hd, List.length_append, wrapI (by omega) (by omega)]
        simp
      refine ⟨_, by show ((vl : Int) - IntKind.wrap .i64 ((l5 : Int) + 1)).toNat < _; rw [ew]; omega, ⟨l5 + 1, ew, hj, rfl, rfl, ekn, o7.keep kk fun k hk e => nty o7 hs7 (by decide) (by rw [← e]; exact hk), r7.keep kk fun k hk e => nty r7 hs7 (by decide) (by rw [← e]; exact hk), ap7, fun h => by omega, hs7.upd_same _, k47.trans (kk.mono fun k hk => by rw [hk]; exact hqbs)⟩, rfl⟩
    · have hin : ys.getD l5 0 ∈ dis ys l5 := by simpa using hg
      have hd : dis ys (l5 + 1) = dis ys l5 := by
        show (if _ then _ else _) = _
        rw [if_pos hin]
      refine ⟨_, by show ((vl : Int) - IntKind.wrap .i64 ((l5 : Int) + 1)).toNat < _; rw [ew]; omega, ⟨l5 + 1, ew, hj, rfl, rfl, by rw [hd], o7, r7, ap7, fun h => by omega, ?_, k47⟩, rfl⟩
      have : (ofF 256 fun k => Value.bool (seenF ys (l5 + 1) k)) = ofF 256 fun k => .bool (seenF ys l5 k) := by unfold seenF; rw [hd]
      rw [this]; exact hs7
  · have hj : l5 = vl := by simp only [decide_eq_false_iff_not] at hc; omega
    subst hj
    refine LdA_all hb4 rfl ?_
    refine last_of o4.sl (ovL_ok hy (by omega) h8) hst (ovL_chk h8) fun q6 d6 avs w6 o6 s6 m6 av6 k6 => ?_
    refine LdA_all (k6.has hb4 (by simp)) rfl ?_
    refine last_of (r4.keep k6 (by simp)).sl (roL_ok hy (by omega) h8) hst (roL_chk h8) fun q7 d7 bvs w7 o7 s7 m7 bv7 k7 => ?_
    have k67 := k6.trans k7
    have k07 := k04.trans k67
    have hb7 := k67.has hb4 (by simp)
    have hs7 := k67.has hs4 (by simp)
    have oa := o6.keep k7 (by simp)
    have done : ∀ d, R (.bool true) (w7.dr d) := fun d => hR _ (k07.dr d)
    have hbv : bvs = [if l5 = 0 then start else vY ys (l5 - 1)] := Srt.ext s7 (List.pairwise_singleton _ _) fun v => by rw [m7, ro_holds]; simp
    refine ⟨by trivial, by trivial, ?_⟩
    refine (Cb_false (p := _)).2 ?_
    have hbl : (((bvs.length : Nat) : Int) != 1) = false := by rw [hbv]; rfl
    rw [hbl]
    refine (Cb_false (p := _)).2 ?_
    have gb : bvs[(0 : Int).toNat]? = some (if l5 = 0 then start else vY ys (l5 - 1)) := by rw [hbv]; rfl
    refine Cb_of (fun hz => ?_) (fun hz => ?_)
    · have hz : l5 = 0 := by simpa using hz
      subst hz
      have hav : avs = [start] := Srt.ext s6 (List.pairwise_singleton _ _) fun v => by rw [m6, ov_holds0]; simp
      have hal : (((avs.length : Nat) : Int) == 1) = true := by rw [hav]; rfl
      rw [hal]
      refine (Cb_true (q := _)).2 ?_
      refine oa.ldA (x := start) rfl (by decide) (by rw [hav]; rfl) ?_
      refine LdA_all hb7 rfl ?_
      refine EqB_sec hst hst fun r hr => ?_
      have hr : r = true := hr.2 rfl
      subst hr
      refine (Cb_true (q := _)).2 ?_
      refine o7.ldA (x := start) rfl (by decide) gb ?_
      refine LdA_all hb7 rfl ?_
      refine EqB_sec hst hst fun r hr => ?_
      have hr : r = true := hr.2 rfl
      subst hr
      intro d
      exact Ret_nil.2 (done d)
    · have hz : l5 ≠ 0 := by simpa using hz
      have hma : ∀ v, v ∈ avs ↔ ∃ i, i < l5 ∧ v = vY ys i := fun v => by rw [m6, ov_holds h8 (by omega)]
      have hlen := dis_len s6 hma
      have hat : ∀ i (hi : i < avs.length), ∃ y : Int, avs[i] = wY y ∧ y ∈ dis ys l5 ∧ 0 ≤ y ∧ y ≤ 255 := by
        intro i hi
        obtain ⟨k, h1, h2⟩ := (hma avs[i]).1 (List.getElem_mem _)
        have := bytes_at hy (i := k) (by omega)
        exact ⟨ys.getD k 0, h2, (dis_mem _ _).2 ⟨k, h1, rfl⟩, this.1, this.2⟩
      have hal : avs.length ≤ 8 := by
        have := dis_le (ys := ys) l5
        omega
      refine LoopC_of (σ := Int × Unit) (fun st w' => (∃ d, w' = w7.dr d) ∧ ∃ j : Nat, st.1 = j ∧ j ≤ avs.length) (fun st _ => (avs.length - st.1).toNat) ⟨⟨w7.drawn, rfl⟩, 0, rfl, by omega⟩ ?_
      rintro _ ⟨i1, u⟩ w8 ⟨⟨d8, hw8⟩, j, hj, hjl⟩
      simp only at hj ⊢
      subst hj
      have k8 : Keep (fun _ => False) w7 w8 := by rw [hw8]; exact Keep.drew _ _ d8
      have oa8 := oa.keep k8 (by simp)
      have hs8 := k8.has hs7 (by simp)
      refine Cb_of (fun hc => ?_) (fun hc => ?_)
      · have hj : j < avs.length := by simp only [decide_eq_true_eq] at hc; omega
        have ew : IntKind.wrap .i64 ((j : Int) + 1) = ((j + 1 : Nat) : Int) := by rw [wrapI (by omega) (by omega)]; omega
        obtain ⟨y, hy1, hy2, hy3⟩ := hat j hj
        have ga : avs[((j : Nat) : Int).toNat]? = some (wY y) := by rw [Int.toNat_natCast, List.getElem?_eq_getElem hj, hy1]
        refine IdxS_req (by decide) (oa8.ldF (t := 0) rfl (by omega) ga (v := .int .u8 y) rfl ?_)
        refine OpI_int.2 ?_
        refine (ld_own hs8 (by omega) (by omega)).2 ?_
        refine OpB_bool.2 ?_
        have hse : seenF ys l5 y.toNat = true := by
          unfold seenF
          rw [show ((y.toNat : Nat) : Int) = y by omega]
          simpa using hy2
        rw [hse]
        refine (Cb_false (p := _)).2 ?_
        refine IdxS_req (by decide) (oa8.ldF (t := 1) rfl (by omega) ga (v := .int .u8 77) rfl ?_)
        refine OpI_int.2 ?_
        refine (Cb_false (p := _)).2 ?_
        refine Cb_of (fun h0 => ?_) (fun h0 => ?_)
        · have h0 : 0 < j := by simp only [decide_eq_true_eq] at h0; omega
          have em : IntKind.wrap .i64 ((j : Int) - 1) = ((j - 1 : Nat) : Int) := by rw [wrapI (by omega) (by omega)]; omega
          rw [em, ew]
          obtain ⟨z, hz1, hz2, hz3⟩ := hat (j - 1) (by omega)
          have gz : avs[((j - 1 : Nat) : Int).toNat]? = some (wY z) := by rw [Int.toNat_natCast, List.getElem?_eq_getElem (by omega), hz1]
          refine IdxS_req (by decide) (oa8.ldF (t := 0) rfl (by omega) gz (v := .int .u8 z) rfl ?_)
          refine OpI_int.2 ?_
          refine IdxS_req (by decide) (oa8.ldF (t := 0) rfl (by omega) ga (v := .int .u8 y) rfl ?_)
          refine OpI_int.2 ?_
          intro d
          have hlt : z < y := by
            have := (List.pairwise_iff_getElem.1 s6) (j - 1) j (by omega) hj (by omega)
            rw [hz1, hy1] at this
            exact wY_lt hz3 hy3 this
          refine Cb_of (fun h => by simp only [decide_eq_true_eq] at h; omega) (fun _ => ?_)
          exact ⟨_, by omega, ⟨⟨d, by rw [hw8]; rfl⟩, j + 1, rfl, hj⟩, rfl⟩
        · intro d
          rw [ew]
          exact ⟨_, by omega, ⟨⟨d, by rw [hw8]; rfl⟩, j + 1, rfl, hj⟩, rfl⟩
      · have hj : j = avs.length := by simp only [decide_eq_false_iff_not] at hc; omega
        subst hj
        have hk : (((avs.length : Nat) : Int) == ((dis ys l5).length : Int)) = true := by rw [hlen]; simp
        rw [hk]
        refine (Cb_true (q := _)).2 ?_
        have hgb : bvs[(0 : Int).toNat]? = some (vY ys (l5 - 1)) := by rw [gb, if_neg hz]
        refine (o7.keep k8 (by simp)).ldA (x := vY ys (l5 - 1)) rfl (by decide) hgb ?_
        have em : IntKind.wrap .i64 ((l5 : Int) - 1) = ((l5 - 1 : Nat) : Int) := by rw [wrapI (by omega) (by omega)]; omega
        rw [em]
        have hl1 : l5 - 1 < ys.length := by omega
        refine (hv.keepB (k07.trans k8) (by simp)).ld0 rfl (by omega) (getD_at (xs := ys) hl1 0) (v := .int .u8 (ys.getD (l5 - 1) 0)) rfl ?_
        refine OpI_int.2 ?_
        refine DoQ_of (fun d => bld_sec2 _ _ _) ?_
        refine OpA_agg.2 ⟨rfl, ?_⟩
        refine EqB_sec (vY_ok hy hl1) (vY_ok hy hl1) fun r hr => ?_
        have hr : r = true := hr.2 rfl
        subst hr
        intro d
        refine Ret_nil.2 ?_
        exact hR _ ((k07.trans k8).dr d)
theorem any_run {start : Sec} {ys : List Int} (hst : SecOk start) (hy : Bytes ys) {w : World} {vp : Option Addr} {vl vc : Nat} {R : Value → World → Prop} (hv : SlL byLay w vp vl ys) (hvc : vl ≤ vc) (hR : ∀ w', Keep (fun _ => False) w w' → R (.bool true) w') :
    CallV Try.prog 11 #[.agg (secV start), .slice vp vl vc] w R := by
  apply C_ravelinlaw21_HistoryAny
  unfold F_ravelinlaw21_HistoryAny
  have hvl := hv.1
  refine alc_new fun w1 hb1 k1 z1 => ?_
  refine law21_awake fun w2 k2 => ?_
  refine OpB_bool.2 ?_
  refine (Cb_false (p := _)).2 ?_
  have k02 := k1.trans k2
  have hb2 := k2.has hb1 (by simp)
  have hv2 := hv.keepB k02 (by simp)
  have hR2 : ∀ w', Keep (fun _ => False) w2 w' → R (.bool true) w' := fun w' k => hR w' (k02.trans k)
  refine Cb_of (fun hc => ?_) (fun hc => ?_)
  · have h8 : 8 < vl := by simp only [decide_eq_true_eq] at hc; omega
    refine Slc_hi (hi := 8) (by omega) ?_
    have hsub := hv2.sub (lo := 0) (hi := 8) (m := vc) (by omega) (by omega) (by omega)
    refine any_body hst (ys := (ys.take 8).drop 0) (fun y hm => hy y ?_) hsub (by omega) hb2 hR2
    rw [List.drop_zero] at hm
    exact List.mem_of_mem_take hm
  · have h8 : vl ≤ 8 := by simp only [decide_eq_false_iff_not] at hc; omega
    exact any_body hst hy hv2 h8 hb2 hR2
theorem any_walk {start : Sec} {ys : List Int} (hst : SecOk start) (hy : Bytes ys) {w : World} {vp : Option Addr} {vl vc : Nat} (hv : SlL byLay w vp vl ys) (hvc : vl ≤ vc) :
    CallV Try.prog 11 #[.agg (secV start), .slice vp vl vc] w fun v w' => v = .bool true ∧ Below w.heap.size w w' :=
  any_run hst hy hv hvc fun w' k => ⟨rfl, k.below⟩
end Go.Proofs
