/-
  HistoryWider, the walk.
-/
import Derived.Test.YtdjlmpkjdgmkkaaWider
namespace Go.Proofs
open Go Go.Ev Go.RowKit
set_option linter.unusedSimpArgs false
set_option linter.unusedVariables false
set_option maxRecDepth 100000

def byLay : Lay Int := ⟨1, fun y => [.int .u8 y], fun _ => rfl, fun y v hv => by rw [List.mem_singleton.1 hv]; rfl, by decide⟩
theorem by_of {cs : List Value} (h : Fits [.int .u8] cs) : ∃ y : Int, cs = byLay.row y ∧ (0 ≤ y ∧ y ≤ 255) := by
  obtain ⟨_, _, rfl, ⟨a, rfl, a1, a2⟩, h1⟩ := fits_cons h
  cases fits_nil h1
  exact ⟨a, rfl, a1, a2⟩
theorem bytes_list {W : World} {xp : Option Addr} {l : Nat} {g : Nat → List Value} (h : Sl W 1 xp l g) (hf : ∀ i, i < l → Fits [.int .u8] (g i)) : ∃ ys : List Int, SlL byLay W xp l ys ∧ Bytes ys := slL_ex h rfl hf fun cs hc => by_of hc
theorem bsl_e1 (x : Evt) (w : World) : (Instr.buildSlice 24 1 #[(0, .agg (evC x))]).run Try.prog w = .ok (.slice (some ⟨w.heap.size, 0, none⟩) 1 1) (w.alloc (.cells (evC x) 31)) :=
  run_buildSlice w 24 31 1 _ (evC x) ((Try.prog.info? 31).get (by kernel_rfl)) (((Try.prog.info? 31).get (by kernel_rfl)).zero.get (by kernel_rfl)) (by kernel_rfl) (by kernel_rfl) (by kernel_rfl) (by decide +kernel) (by decide +kernel) (by kernel_rfl)

section parts
variable {w : World} {base : Nat} {p : Option Addr} {l c : Nat} {ws : List Evt}
/-- the append at the end of the body, as it is printed -/
def WiA (b3 : Nat) (p : Option Addr) (l c : Nat) (i : Int) (w : World) (K1 : (Option Addr × Nat × Nat) × Int × Unit → World → Prop) : Prop :=
  LdA 19 b3 0 (At w) fun cs2 => DoV Try.prog (Instr.buildSlice 24 1 #[(0, .agg cs2)]) w fun v11 w => OpS v11 fun p1 l1 c1 => DoV Try.prog (Builtin.append_ #[24, 24] 24 #[.slice p l c, .slice p1 l1 c1]) w fun v12 w => OpS v12 fun p2 l2 c2 => K1 ((p2, l2, c2), (IntKind.wrap .i64 (i + 1), ())) w
theorem wia {x : Evt} {b3 : Nat} {i : Int} {K1 : (Option Addr × Nat × Nat) × Int × Unit → World → Prop} (ho : OwnL evLay w base 31 p l c ws) (hl : l ≤ 1000) (hb : base ≤ w.heap.size) (h3 : Has w b3 (.cells (evC x) 31 (0, 0)))
    (hK : ∀ p' c' w', OwnL evLay w' base 31 p' (l + 1) c' (ws ++ [x]) → Keep (fun k => p = some ⟨k, 0, none⟩) w w' → K1 ((p', l + 1, c'), (IntKind.wrap .i64 (i + 1), ())) w') : WiA b3 p l c i w K1 := by
  unfold WiA
  refine LdA_all h3 rfl ?_
  refine ⟨_, _, bsl_e1 x w, ?_⟩
  simp only [OpS_slice]
  have k1 : Keep (fun _ => False) w (w.alloc (.cells (evC x) 31)) := Keep.new _ _ _
  have h1 : Has (w.alloc (.cells (evC x) 31)) w.heap.size (.cells (evC x) 31 (0, 0)) := Has.new _ _
  generalize w.alloc (.cells (evC x) 31) = w1 at *
  obtain ⟨p', c', w2, hr, o2, k2⟩ := run_appendL1 evLayT (ho.keep k1 (by simp)) (y := x) h1 rfl (ty := 24) (by omega) (by simp only [maxLen]; omega) (Nat.le_trans hb k1.size) (c2 := 1)
  refine ⟨_, _, hr, ?_⟩
  simp only [OpS_slice]
  exact hK p' c' w2 o2 ((k1.mono (by simp)).trans k2)
/-- behind the first if, as it is printed -/
def WiB (b3 : Nat) (laterp : Option Addr) (laterl : Nat) (p : Option Addr) (l c : Nat) (i : Int) (w : World) (K1 : (Option Addr × Nat × Nat) × Int × Unit → World → Prop) : Prop :=
  LdV b3 0 (At w) fun v9 => OpB v9 fun g2 => Cb g2 (Cb (decide (i < ((laterl : Nat) : Int))) (IdxS laterp laterl i 1 fun b5 o2 => LdV b5 o2 (At w) fun v10 => OpI .u8 v10 fun n5 => Req ((7 : Int) ≠ 0) (Cb (Int.tmod n5 7 == 0) (StV b3 18 (.int .i64 (-1)) w fun w => WiA b3 p l c i w K1) (WiA b3 p l c i w K1))) (WiA b3 p l c i w K1)) (WiA b3 p l c i w K1)
theorem wib {x : Evt} {b3 i : Nat} {ys : List Int} {laterp : Option Addr} {laterl : Nat} {K1 : (Option Addr × Nat × Nat) × Int × Unit → World → Prop} (ho : OwnL evLay w base 31 p l c ws) (hl : l ≤ 1000) (hb : base ≤ w.heap.size) (h3 : Has w b3 (.cells (evC x) 31 (0, 0))) (hnp : p ≠ some ⟨b3, 0, none⟩)
    (hy : SlL byLay w laterp laterl ys)
    (hK : ∀ p' c' w', OwnL evLay w' base 31 p' (l + 1) c' (ws ++ [{ x with to := if x.wr = true ∧ i < ys.length ∧ Int.tmod (ys.getD i 0) 7 = 0 then -1 else x.to }]) → Keep (fun k => p = some ⟨k, 0, none⟩ ∨ k = b3) w w' → K1 ((p', l + 1, c'), (IntKind.wrap .i64 ((i : Int) + 1), ())) w') : WiB b3 laterp laterl p l c (i : Int) w K1 := by
  unfold WiB
  have hlen := hy.1
  have same : ¬ (x.wr = true ∧ i < ys.length ∧ Int.tmod (ys.getD i 0) 7 = 0) → WiA b3 p l c (i : Int) w K1 := by
    intro hn
    refine wia ho hl hb h3 fun p' c' w' o k => hK p' c' w' ?_ (k.mono fun _ h => Or.inl h)
    rw [if_neg hn]; exact o
  refine LdV_has (v := .bool x.wr) h3 rfl ?_
  simp only [OpB_bool]
  refine Cb_of (fun hw => ?_) (fun hw => same fun h => by rw [hw] at h; cases h.1)
  refine Cb_of (fun hi => ?_) (fun hi => same fun h => by simp only [decide_eq_false_iff_not] at hi; omega)
  have hi : i < ys.length := by simp only [decide_eq_true_eq] at hi; omega
  have g' : ys[((i : Nat) : Int).toNat]? = some (ys.getD i 0) := by rw [Int.toNat_natCast, List.getD_eq_getElem?_getD, List.getElem?_eq_getElem hi]; rfl
  refine hy.ld0 rfl (by omega) g' (v := .int .u8 (ys.getD i 0)) rfl ?_
  simp only [OpI_int]
  refine ⟨by decide, ?_⟩
  refine Cb_of (fun h7 => ?_) (fun h7 => same fun h => by rw [h.2.2] at h7; cases h7)
  have h7 : Int.tmod (ys.getD i 0) 7 = 0 := by simpa using h7
  refine StV_of h3 (by show 18 < 19; decide) rfl ?_
  have k1 : Keep (fun k => k = b3) w (w.upd b3 (.cells ((evC x).setIfInBounds 18 (.int .i64 (-1))) 31 (0, 0))) := Keep.one _ _ _
  have h31 := h3.upd_same (.cells ((evC x).setIfInBounds 18 (.int .i64 (-1))) 31 (0, 0))
  have ec : (evC x).setIfInBounds 18 (.int .i64 (-1)) = evC { x with to := -1 } := rfl
  rw [ec] at k1 h31 ⊢
  have o1 := ho.keep k1 (fun k hp e => hnp (by rw [← e]; exact hp))
  have hb1 := Nat.le_trans hb k1.size
  refine wia o1 hl hb1 h31 fun p' c' w' o k => hK p' c' w' ?_ ((k1.mono fun _ h => Or.inr h).trans (k.mono fun _ h => Or.inl h))
  rw [if_pos ⟨hw, hi, h7⟩]; exact o
/-- the last part, as it is printed -/
def WiC (b b1 : Nat) (from_ : Int) (p : Option Addr) (l c : Nat) (g6 : Bool) (w : World) (R : Value → World → Prop) : Prop :=
  Cb (decide (((l : Nat) : Int) ≥ 10)) (Ret [] (R (.bool true) w)) (HeldR w fun S w => LdA 16 b 0 S fun cs19 => LdA 16 b1 0 S fun cs20 => DoQ Try.prog (Instr.build 31 #[(0, .bool true), (1, .agg cs20), (2, .int .i64 (IntKind.wrap .i64 from_)), (3, .int .i64 (-1))]) S fun v52 => OpA 19 v52 fun cs21 => DoV Try.prog (Instr.buildSlice 24 1 #[(0, .agg cs21)]) w fun v53 w => OpS v53 fun p33 l33 c33 => Hld (S w) (DoV Try.prog (Builtin.append_ #[24, 24] 24 #[.slice p l c, .slice p33 l33 c33]) w fun v54 w => OpS v54 fun p34 l34 c34 => Hld (S w) (CallV Try.prog 12 #[.agg cs19, .slice p34 l34 c34] w fun v55 w => T2 v55 fun v56 v57 => OpB v56 fun g7 => OpI .i64 v57 fun n10 => Hld (S w) (Cb (n10 == 0) (Cb g7 (Ret [] (R (.bool true) w)) (Ret [] (R (.bool (!g6)) w))) (Ret [] (R (.bool false) w))))))
theorem LdA_ofS {C : World → Prop} {n b : Nat} {cs : Array Value} {t : TypeId} {K : Array Value → Prop} (hn : cs.size = n) (h : ∀ w, C w → Has w b (.cells cs t (0, 0))) (hK : K cs) : LdA n b 0 C K :=
  LdA_of hn (fun w hw => ⟨cs, t, (0, 0), h w hw, by omega, by rw [← hn]; simp⟩) hK
theorem bld_ev (f : Sec) (a : Int) (w : World) : (Instr.build 31 #[(0, .bool true), (1, .agg (secV f)), (2, .int .i64 a), (3, .int .i64 (-1))]).run Try.prog w = .ok (.agg (evC ⟨true, f, a, -1⟩)) w := run_build _ _ _ _ (by kernel_rfl)
theorem wic {start more : Sec} {from_ : Int} {b b1 : Nat} {g6 : Bool} {R : Value → World → Prop} (ho : OwnL evLay w base 31 p l c ws) (hc : chk ws = true) (hok : ∀ x ∈ ws, EvOk x) (hst : SecOk start) (hmo : SecOk more) (hf : 0 ≤ from_ ∧ from_ ≤ 255) (hbase : base ≤ w.heap.size)
    (hb : Has w b (.cells (secV start) 23 (0, 0))) (hb1 : Has w b1 (.cells (secV more) 23 (0, 0))) (hg : g6 = true ↔ Ord ws start)
    (hK : ∀ w', Keep (fun k => p = some ⟨k, 0, none⟩) w w' → R (.bool true) w') : WiC b b1 from_ p l c g6 w R := by
  unfold WiC
  have hlen := ho.length
  have hl := chk_len hc
  refine Cb_of (fun h => ?_) (fun h => ?_)
  · rw [Ret_nil]; exact hK w (Keep.refl _ _)
  have hl9 : ws.length < 10 := by simp only [decide_eq_false_iff_not] at h; omega
  intro d
  refine ⟨fun w' => Has w' b (.cells (secV start) 23 (0, 0)) ∧ Has w' b1 (.cells (secV more) 23 (0, 0)), ⟨hb, hb1⟩, ?_⟩
  refine LdA_ofS rfl (fun w hw => hw.1) ?_
  refine LdA_ofS rfl (fun w hw => hw.2) ?_
  have hw : IntKind.wrap .i64 from_ = from_ := wrapI (by omega) (by omega)
  rw [hw]
  refine ⟨_, fun w _ => bld_ev more from_ w, ?_⟩
  simp only [OpA_agg]
  refine ⟨rfl, ?_⟩
  refine ⟨_, _, bsl_e1 _ _, ?_⟩
  simp only [OpS_slice]
  have k1 : Keep (fun _ => False) w ((w.dr d).alloc (.cells (evC ⟨true, more, from_, -1⟩) 31)) := ((Keep.refl (fun _ => False) w).dr d).alloc _
  have h1 : Has ((w.dr d).alloc (.cells (evC ⟨true, more, from_, -1⟩) 31)) (w.dr d).heap.size (.cells (evC ⟨true, more, from_, -1⟩) 31 (0, 0)) := Has.new _ _
  generalize (w.dr d).alloc (.cells (evC ⟨true, more, from_, -1⟩) 31) = w1 at *
  refine ⟨⟨k1.has hb (by simp), k1.has hb1 (by simp)⟩, ?_⟩
  obtain ⟨p', c', w2, hr, o2, k2⟩ := run_appendL1 evLayT (ho.keep k1 (by simp)) (y := ⟨true, more, from_, -1⟩) h1 rfl (ty := 24) (by omega) (by simp only [maxLen]; omega) (Nat.le_trans hbase k1.size) (c2 := 1)
  refine ⟨_, _, hr, ?_⟩
  simp only [OpS_slice]
  have hnp : ∀ {k : Nat} {f : Sec}, Has w k (.cells (secV f) 23 (0, 0)) → ¬ p = some ⟨k, 0, none⟩ := by
    intro k f hk e
    rcases Own.cases ho with ⟨h0, _⟩ | ⟨b', cur, h0, _, hg, _⟩
    · rw [h0] at e; cases e
    · rw [h0] at e; cases e
      have := hg.inj hk
      simp only [Obj.cells.injEq] at this
      exact absurd this.2.1 (by decide)
  have k02 : Keep (fun k => p = some ⟨k, 0, none⟩) w w2 := (k1.mono (by simp)).trans k2
  have e1 := k02.has hb (hnp hb)
  have e2 := k02.has hb1 (hnp hb1)
  refine ⟨⟨e1, e2⟩, ?_⟩
  have hzok : EvOk ⟨true, more, from_, -1⟩ := ⟨hmo, by show -9223372036854775808 ≤ from_ ∧ from_ ≤ 9223372036854775807; omega, show (-9223372036854775808 : Int) ≤ -1 ∧ (-1 : Int) ≤ 9223372036854775807 by decide⟩
  have hzc : chkE ⟨true, more, from_, -1⟩ = true := by unfold chkE; simp [hf.1]
  have hc2 : chk (ws ++ [⟨true, more, from_, -1⟩]) = true := more_chk hc hl9 hzc
  refine run_Orderly o2.sl (fun x hx => ?_) hst fun g7 w3 hg7 k3 => ?_
  · rcases List.mem_append.1 hx with h | h
    · exact hok x h
    · rw [List.mem_singleton.1 h]; exact hzok
  have en : chkN (ws ++ [⟨true, more, from_, -1⟩]) = 0 := by unfold chkN; rw [if_pos hc2]
  rw [en]
  simp only [T2_mk, OpB_bool, OpI_int]
  refine ⟨⟨k3.has e1 (by simp), k3.has e2 (by simp)⟩, ?_⟩
  have k03 := k02.trans (k3.mono (S' := fun k => p = some ⟨k, 0, none⟩) (by simp))
  refine (Cb_true (q := _)).2 ?_
  refine Cb_of (fun h7 => ?_) (fun h7 => ?_)
  · rw [Ret_nil]; exact hK w3 k03
  · rw [Ret_nil]
    have : g6 = false := by
      cases hg6 : g6
      · rfl
      · have := hg7.2 ⟨hc2, more_ord (show (-1 : Int) < 0 by decide) (hg.1 hg6)⟩
        rw [h7] at this; cases this
    rw [this]
    exact hK w3 k03
end parts
theorem wider_run {R : Value → World → Prop} {evs : List Evt} {start more : Sec} {ys : List Int} {from_ : Int} {w : World} {p lp : Option Addr} {l c ll lc : Nat} (h : SlL evLay w p l evs) (hok : ∀ x ∈ evs, EvOk x) (hst : SecOk start) (hmo : SecOk more)
    (hy : SlL byLay w lp ll ys) (hby : Bytes ys) (hf : 0 ≤ from_ ∧ from_ ≤ 255) (hR : ∀ w', Keep (fun _ => False) w w' → R (.bool true) w') :
    CallV Try.prog 4 #[.agg (secV start), .slice p l c, .slice lp ll lc, .agg (secV more), .int .u8 from_] w R := by
  apply C_ravelinlaw21_HistoryWider
  unfold F_ravelinlaw21_HistoryWider
  have hlen := h.1
  refine alc_new fun w1 hb1 k1 z1 => ?_
  refine alc_new fun w2 hm2 k2 z2 => ?_
  refine law21_awake fun w3 k3 => ?_
  simp only [OpB_bool]
  refine (Cb_false (p := _)).2 ?_
  have k03 := (k1.trans k2).trans k3
  have hb3 := (k2.trans k3).has hb1 (by simp)
  have hm3 := k3.has hm2 (by simp)
  refine LdA_all hb3 rfl ?_
  refine run_Orderly (h.keepB k03 (by simp)) hok hst fun g1 w4 hg1 k4 => ?_
  simp only [T2_mk, OpB_bool, OpI_int]
  rw [chkN_ne]
  have k04 := k03.trans k4
  refine Cb_of (fun hc => ?_) (fun hc => ?_)
  · have hc : chk evs = false := by simpa using hc
    rw [Ret_nil]
    have : g1 = false := by
      cases g1
      · rfl
      · have := (hg1.1 rfl).1
        rw [hc] at this; cases this
    rw [this]
    exact hR w4 k04
  have hc : chk evs = true := by simpa using hc
  have hl := chk_len hc
  have hb4 := k4.has hb3 (by simp)
  have hm4 := k4.has hm3 (by simp)
  refine ⟨_, _, bsl_ev0 w4, ?_⟩
  simp only [OpS_slice]
  have k5 : Keep (fun _ => False) w4 (w4.alloc (.cells #[] 31)) := Keep.new _ _ _
  have o5 : OwnL evLay (w4.alloc (.cells #[] 31)) w4.heap.size 31 (some ⟨w4.heap.size, 0, none⟩) 0 0 [] := OwnL.new (xs := []) (by decide) rfl
  generalize w4.alloc (.cells #[] 31) = w5 at *
  have hb5 := k5.has hb4 (by simp)
  have hm5 := k5.has hm4 (by simp)
  generalize hq : w4.heap.size = q at *
  have hlt1 := hb4.lt
  have hlt2 := hm4.lt
  have k45 : Keep (fun k => q ≤ k) w4 w5 := k5.mono (by simp)
  refine LoopC_of (σ := (Option Addr × Nat × Nat) × Int × Unit) (fun st w' => ∃ j : Nat, st.2.1 = j ∧ j ≤ l ∧ st.1.2.1 = j ∧ OwnL evLay w' q 31 st.1.1 j st.1.2.2 (wideL ys evs j) ∧ Keep (fun k => q ≤ k) w4 w')
    (fun st _ => (l - st.2.1).toNat) ⟨0, rfl, by omega, rfl, o5, k45⟩ ?_
  rintro _ ⟨⟨p6, l6, c6⟩, i1, u⟩ w6 ⟨j, hj, hjl, hl6, o6, k6⟩
  simp only at hj hl6 o6 ⊢
  subst hj hl6
  have k06 : Keep (fun _ => False) w w6 := k04.trans' k6 fun k hk e => by have := k04.size; omega
  have h6 := h.keepB k06 (by simp)
  have hy6 := hy.keepB k06 (by simp)
  have hb6 := k6.has hb4 (by omega)
  have hm6 := k6.has hm4 (by omega)
  have hq6 : q ≤ w6.heap.size := by have := k6.size; omega
  refine Cb_of (fun hcond => ?_) (fun hcond => ?_)
  · have hj : l6 < l := by simp only [decide_eq_true_eq] at hcond; omega
    have ew : IntKind.wrap .i64 ((l6 : Int) + 1) = ((l6 + 1 : Nat) : Int) := by rw [wrapI (by omega) (by omega)]; omega
    have g' := at_lt (evs := evs) (i := l6) (by omega)
    have gi : evs[((l6 : Nat) : Int).toNat]? = some (evs.getD l6 default) := by rw [Int.toNat_natCast]; exact g'
    generalize hx : evs.getD l6 default = x at *
    refine h6.ldA rfl (by omega) gi ?_
    refine copy_of zc_ev rfl (one_evC x) fun w7 hb7 k7 z7 => ?_
    have k67 : Keep (fun k => q ≤ k) w6 w7 := k7.mono (by simp)
    generalize hn3 : w6.heap.size = b3 at *
    have o7 := o6.keep k7 (by simp)
    have hnp : p6 ≠ some ⟨b3, 0, none⟩ := fun e => by have := (o6.lt e).2; omega
    have hy7 := hy6.keepB k7 (by simp)
    have hq7 : q ≤ w7.heap.size := by omega
    -- behind the first if
    have fin : ∀ (w8 : World) (t : Int), Keep (fun k => k = b3) w7 w8 → Has w8 b3 (.cells (evC { x with to := t }) 31 (0, 0)) → (t = if 0 ≤ x.to ∧ x.to < 1000000 ∧ l6 < ys.length then x.to + Int.tmod (ys.getD l6 0) 5 else x.to) →
        WiB b3 lp ll p6 l6 c6 (l6 : Int) w8 (fun st w' => ∃ m', m' < ((l : Int) - (l6 : Int)).toNat ∧ ((∃ j : Nat, st.2.1 = j ∧ j ≤ l ∧ st.1.2.1 = j ∧ OwnL evLay w' q 31 st.1.1 j st.1.2.2 (wideL ys evs j) ∧ Keep (fun k => q ≤ k) w4 w') ∧ ((l : Int) - st.2.1).toNat = m')) := by
      intro w8 t k8 h8 ht
      have k78 : Keep (fun k => q ≤ k) w7 w8 := k8.mono fun k hk => by rw [hk]; exact hq6
      have k08 : Keep (fun _ => False) w w8 := k04.trans' ((k6.trans k67).trans k78) fun k hk e => by have := k04.size; omega
      refine wib (o7.keep k8 fun k hp e => hnp (by rw [← e]; exact hp)) (by omega) (by have := k8.size; omega) h8 hnp (hy.keepB k08 (by simp)) fun p9 c9 w9 o9 k9 => ?_
      · refine ⟨_, by show ((l : Int) - IntKind.wrap .i64 ((l6 : Int) + 1)).toNat < _; rw [ew]; omega, ⟨l6 + 1, ew, hj, rfl, ?_, ((k6.trans k67).trans k78).trans (k9.mono fun k hk => ?_)⟩, rfl⟩
        · have : wideL ys evs (l6 + 1) = wideL ys evs l6 ++ [wideE ys l6 x] := by
            unfold wideL
            rw [List.range_succ, List.map_append, ← hx]; rfl
          rw [this]
          have e2 : wideE ys l6 x = { { x with to := t } with to := if x.wr = true ∧ l6 < ys.length ∧ Int.tmod (ys.getD l6 0) 7 = 0 then -1 else t } := by
            unfold wideE
            rw [ht]
          rw [e2]
          exact o9
        · rcases hk with hk | hk
          · exact (o6.lt hk).1
          · omega
    have same : ¬ (0 ≤ x.to ∧ x.to < 1000000 ∧ l6 < ys.length) → WiB b3 lp ll p6 l6 c6 (l6 : Int) w7 (fun st w' => ∃ m', m' < ((l : Int) - (l6 : Int)).toNat ∧ ((∃ j : Nat, st.2.1 = j ∧ j ≤ l ∧ st.1.2.1 = j ∧ OwnL evLay w' q 31 st.1.1 j st.1.2.2 (wideL ys evs j) ∧ Keep (fun k => q ≤ k) w4 w') ∧ ((l : Int) - st.2.1).toNat = m')) :=
      fun hn => fin w7 x.to (Keep.refl _ _) hb7 (by rw [if_neg hn])
    refine LdV_has (v := .int .i64 x.to) hb7 rfl ?_
    simp only [OpI_int]
    refine Cb_of (fun h0 => ?_) (fun h0 => same fun h => by simp only [decide_eq_false_iff_not] at h0; omega)
    have h0 : 0 ≤ x.to := by simpa using h0
    refine LdV_has (v := .int .i64 x.to) hb7 rfl ?_
    simp only [OpI_int]
    refine Cb_of (fun hm => ?_) (fun hm => same fun h => by simp only [decide_eq_false_iff_not] at hm; omega)
    have hm : x.to < 1000000 := by simpa using hm
    have hyl := hy.1
    refine Cb_of (fun hi => ?_) (fun hi => same fun h => by simp only [decide_eq_false_iff_not] at hi; omega)
    have hi : l6 < ys.length := by simp only [decide_eq_true_eq] at hi; omega
    intro d _
    refine LdV_has (v := .int .i64 x.to) (hb7.dr d) rfl ?_
    simp only [OpI_int]
    have gy : ys[((l6 : Nat) : Int).toNat]? = some (ys.getD l6 0) := by rw [Int.toNat_natCast, List.getD_eq_getElem?_getD, List.getElem?_eq_getElem hi]; rfl
    have hy7d : SlL byLay (w7.dr d) lp ll ys := hy7.keepB (S := fun _ => False) (Keep.drew _ _ d) (by simp)
    refine hy7d.ld0 rfl (by omega) gy (v := .int .u8 (ys.getD l6 0)) rfl ?_
    simp only [OpI_int]
    refine ⟨by decide, ?_⟩
    have ht := tmod_lt (bytes_at hby hi).1 (n := 5) (by decide)
    have et : IntKind.wrap .i64 (x.to + IntKind.wrap .i64 (Int.tmod (ys.getD l6 0) 5)) = x.to + Int.tmod (ys.getD l6 0) 5 := by
      rw [wrapI (x := Int.tmod (ys.getD l6 0) 5) (by omega) (by omega), wrapI (by omega) (by omega)]
    rw [et]
    refine StV_of (hb7.dr d) (by show 18 < 19; decide) rfl ?_
    refine fin ((w7.dr d).upd b3 (.cells (evC { x with to := x.to + Int.tmod (ys.getD l6 0) 5 }) 31 (0, 0))) (x.to + Int.tmod (ys.getD l6 0) 5) (((Keep.refl (fun k => k = b3) w7).dr d).upd (fun _ => rfl) _) ?_ (by rw [if_pos ⟨h0, hm, hi⟩])
    exact (hb7.dr d).upd_same _
  · have hj : l6 = l := by simp only [decide_eq_false_iff_not] at hcond; omega
    subst hj
    rw [hlen] at o6
    have ow : ∀ y ∈ wideL ys evs evs.length, EvOk y := wide_ok hby hok (Nat.le_refl _)
    have cw : chk (wideL ys evs evs.length) = true := wide_chk hby hc
    refine LdA_all hb6 rfl ?_
    rw [hlen]
    refine run_Orderly o6.sl ow hst fun g6 w7 hg6 k7 => ?_
    simp only [T2_mk, OpB_bool, OpI_int]
    rw [chkN_ne, cw]
    refine (Cb_false (p := _)).2 ?_
    have o7 := o6.keep k7 (by simp)
    have hgo : g6 = true ↔ Ord (wideL ys evs evs.length) start := by rw [hg6, cw]; simp
    have last : WiC w.heap.size w1.heap.size from_ p6 evs.length c6 g6 w7 R := by
      refine wic o7 cw ow hst hmo hf (by have := k7.size; omega) (k7.has hb6 (by simp)) (k7.has hm6 (by simp)) hgo fun w8 k8 => hR w8 ?_
      refine (k06.trans k7).trans' k8 fun k hk e => ?_
      have := (o6.lt e).1
      have := k04.size
      omega
    refine Cb_of (fun h1 => ?_) (fun h1 => last)
    have hg : g6 = true := hgo.2 (wide_ord hby (hg1.1 h1).2)
    refine Cb_of (fun h2 => ?_) (fun _ => last)
    rw [hg] at h2; cases h2
theorem wider_walk {evs : List Evt} {start more : Sec} {ys : List Int} {from_ : Int} {w : World} {p lp : Option Addr} {l c ll lc : Nat} (h : SlL evLay w p l evs) (hok : ∀ x ∈ evs, EvOk x) (hst : SecOk start) (hmo : SecOk more)
    (hy : SlL byLay w lp ll ys) (hby : Bytes ys) (hf : 0 ≤ from_ ∧ from_ ≤ 255) :
    CallV Try.prog 4 #[.agg (secV start), .slice p l c, .slice lp ll lc, .agg (secV more), .int .u8 from_] w fun v w' => v = .bool true ∧ Below w.heap.size w w' :=
  wider_run h hok hst hmo hy hby hf fun w' k => ⟨rfl, k.below⟩
end Go.Proofs
