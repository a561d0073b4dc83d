/-
  HistorySteps, the walk.
-/
import Derived.Test.YtdjlmpkjdgmkkaaSteps
namespace Go.Proofs
open Go Go.Ev Go.RowKit
set_option linter.unusedSimpArgs false
set_option linter.unusedVariables false
set_option maxRecDepth 100000

def boLay : Lay Bool := ⟨1, fun b => [.bool b], fun _ => rfl, fun y v hv => by rw [List.mem_singleton.1 hv]; rfl, by decide⟩
theorem bo_of {cs : List Value} (h : Fits [.bool] cs) : ∃ b : Bool, cs = boLay.row b ∧ True := by
  obtain ⟨_, _, rfl, ⟨a, rfl⟩, h1⟩ := fits_cons h
  cases fits_nil h1
  exact ⟨a, rfl, trivial⟩
theorem bools_list {W : World} {xp : Option Addr} {l : Nat} {g : Nat → List Value} (h : Sl W 1 xp l g) (hf : ∀ i, i < l → Fits [.bool] (g i)) : ∃ bs : List Bool, SlL boLay W xp l bs := by
  obtain ⟨bs, h1, _⟩ := slL_ex h rfl hf fun cs hc => bo_of hc
  exact ⟨bs, h1⟩
/-- a load that leans on a class of worlds -/
theorem SlL.ldS {α : Type} {L : Lay α} {S : World → Prop} {w0 : World} {p : Option Addr} {l : Nat} {xs : List α} (h0 : S w0) (h : ∀ w', S w' → SlL L w' p l xs) {i : Int} {x : α} {n : Nat} {v : Value} (hn : L.size = n) (hi0 : 0 ≤ i) (hi : xs[i.toNat]? = some x)
    (hv : (L.row x)[0]? = some v) {K : Value → Prop} (hK : K v) : IdxS p l i n fun b o => LdV b o S K := by
  subst hn
  obtain ⟨b, o, hp, _⟩ := (h w0 h0).2 _ x hi
  have hlt := (List.getElem?_eq_some_iff.1 hi).1
  refine ⟨b, o, hp, hi0, by have := (h w0 h0).1; omega, v, fun w' hw => ?_, hK⟩
  obtain ⟨b', o', hp', hc⟩ := (h w' hw).2 _ x hi
  rw [hp] at hp'
  cases hp'
  have := hc 0 L.pos
  rw [Nat.add_zero] at this
  rw [this, hv]
theorem getD_at {α : Type} {xs : List α} {i : Nat} (hi : i < xs.length) (d : α) : xs[((i : Nat) : Int).toNat]? = some (xs.getD i d) := by
  rw [Int.toNat_natCast, List.getD_eq_getElem?_getD, List.getElem?_eq_getElem hi]; rfl
theorem bld_ev' (g : Bool) (f : Sec) (a b : Int) (w : World) : (Instr.build 31 #[(0, .bool g), (1, .agg (secV f)), (2, .int .i64 a), (3, .int .i64 b)]).run Try.prog w = .ok (.agg (evC ⟨g, f, a, b⟩)) w := run_build _ _ _ _ (by kernel_rfl)
theorem spl_val (x : Evt) (f : Sec) : spl (evC x) 1 (secV f) = evC { x with val := f } := rfl
theorem set_val (x : Evt) (a : Int) : (evC x).setIfInBounds 16 (.int .u8 a) = evC { x with val := fun k => if k.val = 15 then a else x.val k } := rfl
/-- the second half of the body, as it is printed -/
def SPart (wp : Option Addr) (wl : Nat) (lie : Int) (lies : Bool) (b1 b2 : Nat) (i : Int) (p : Option Addr) (l c : Nat) (wrong : Bool) (w : World) (K1 : (Option Addr × Nat × Nat) × Bool × Int × Unit → World → Prop) : Prop :=
  HeldR w fun S w => IdxS wp wl i 1 fun b4 o1 => LdV b4 o1 S fun v5 => OpB v5 fun g1 => LdA 16 b2 0 S fun cs3 => DoQ Try.prog (Instr.build 31 #[(0, .bool g1), (1, .agg cs3), (2, .int .i64 (IntKind.wrap .i64 (2 * i))), (3, .int .i64 (IntKind.wrap .i64 ((IntKind.wrap .i64 (2 * i)) + 1)))]) S fun v6 => OpA 19 v6 fun cs4 => Alc 31 (zc Try.prog 31) w fun b5 w => Hld (S w) (StA 19 b5 0 cs4 w fun w => Hld (S w) (IdxS wp wl i 1 fun b6 o2 => LdV b6 o2 (At w) fun v7 => OpB v7 fun g2 => Cb g2 (LdA 16 b2 0 (At w) fun cs5 => StA 16 b1 0 cs5 w fun w => WiA b5 p l c i w fun st w => K1 (st.1, (wrong, st.2)) w) (LdA 16 b1 0 (At w) fun cs7 => StA 16 b5 1 cs7 w fun w => Cb lies (Req ((10 : Int) ≠ 0) (Cb (Int.tmod (IntKind.wrap .i64 lie) 10 == i) (Req (0 ≤ (15 : Int) ∧ (15 : Int) < 16) (LdV b5 (1 + Int.toNat 15 * 1) (At w) fun v10 => OpI .u8 v10 fun n1 => Req (0 ≤ (15 : Int) ∧ (15 : Int) < 16) (StV b5 (1 + Int.toNat 15 * 1) (.int .u8 (ibits .xor .u8 n1 1)) w fun w => WiA b5 p l c i w fun st w => K1 (st.1, (true, st.2)) w))) (WiA b5 p l c i w fun st w => K1 (st.1, (wrong, st.2)) w))) (WiA b5 p l c i w fun st w => K1 (st.1, (wrong, st.2)) w))))
theorem spart {start : Sec} {bs : List Bool} {ys : List Int} {lie : Int} {lies : Bool} (hst : SecOk start) (hy : Bytes ys) (hlie : 0 ≤ lie ∧ lie ≤ 255) {w : World} {base : Nat} {wp : Option Addr} {wl b1 b2 j : Nat} {p : Option Addr} {l c : Nat} {evs : List Evt}
    {K1 : (Option Addr × Nat × Nat) × Bool × Int × Unit → World → Prop} (hw : SlL boLay w wp wl bs) (hj : j < wl) (hj10 : j < 10) (h1 : Has w b1 (.cells (secV (nowS start bs ys j)) 23 (0, 0))) (h2 : Has w b2 (.cells (secV (valS ys j)) 23 (0, 0)))
    (hne : b1 ≠ b2) (ho : OwnL evLay w base 31 p l c evs) (hl : l ≤ 100) (hb : base ≤ w.heap.size) (hws : ∀ w' : World, Keep (fun k => k = b1) w w' → SlL boLay w' wp wl bs) (hb1 : base ≤ b1)
    (hK : ∀ p' c' w', OwnL evLay w' base 31 p' (l + 1) c' (evs ++ [evS start bs ys lie lies j]) → Has w' b1 (.cells (secV (nowS start bs ys (j + 1))) 23 (0, 0)) → Keep (fun k => base ≤ k) w w' → K1 ((p', l + 1, c'), (wrongS bs lie lies (j + 1), (IntKind.wrap .i64 ((j : Int) + 1), ()))) w') :
    SPart wp wl lie lies b1 b2 (j : Int) p l c (wrongS bs lie lies j) w K1 := by
  unfold SPart
  have hlen := hw.1
  have g := getD_at (xs := bs) (i := j) (by omega) false
  intro d
  have kd : Keep (fun _ => False) w (w.dr d) := Keep.drew _ _ d
  have hS0 : Has (w.dr d) b2 (.cells (secV (valS ys j)) 23 (0, 0)) ∧ SlL boLay (w.dr d) wp wl bs := ⟨h2, hw.keepB kd (by simp)⟩
  refine ⟨fun w' => Has w' b2 (.cells (secV (valS ys j)) 23 (0, 0)) ∧ SlL boLay w' wp wl bs, hS0, ?_⟩
  refine SlL.ldS (L := boLay) (S := fun w' => Has w' b2 (.cells (secV (valS ys j)) 23 (0, 0)) ∧ SlL boLay w' wp wl bs) (w0 := w.dr d) hS0 (fun w' h => h.2) rfl (by omega) g (v := .bool (bs.getD j false)) rfl ?_
  rw [OpB_bool]
  refine LdA_ofS rfl (fun w' h => h.1) ?_
  have e1 : IntKind.wrap .i64 (2 * (j : Int)) = 2 * (j : Int) := wrapI (by omega) (by omega)
  have e2 : IntKind.wrap .i64 (2 * (j : Int) + 1) = 2 * (j : Int) + 1 := wrapI (by omega) (by omega)
  rw [e1, e2]
  refine ⟨_, fun w' _ => bld_ev' _ _ _ _ w', ?_⟩
  refine OpA_agg.2 ⟨rfl, ?_⟩
  refine alc_new fun w2 hb5 k2 z2 => ?_
  have k02 := kd.trans k2
  refine ⟨⟨k02.has h2 (by simp), hw.keepB k02 (by simp)⟩, ?_⟩
  refine StA_all hb5 rfl zc_ev (one_evC _) ?_
  have hb5' := hb5.upd_same (.cells (evC ⟨bs.getD j false, valS ys j, 2 * (j : Int), 2 * (j : Int) + 1⟩) 31 (0, 0))
  have k3 : Keep (fun _ => False) w (w2.upd (w.dr d).heap.size (.cells (evC ⟨bs.getD j false, valS ys j, 2 * (j : Int), 2 * (j : Int) + 1⟩) 31 (0, 0))) := k02.upd (fun h => by simp only [heap_dr'] at h; omega) _
  generalize hw3 : w2.upd (w.dr d).heap.size (.cells (evC ⟨bs.getD j false, valS ys j, 2 * (j : Int), 2 * (j : Int) + 1⟩) 31 (0, 0)) = w3 at *
  generalize hb5n : (w.dr d).heap.size = b5 at *
  have hb5w : b5 = w.heap.size := hb5n.symm
  have hw3s : SlL boLay w3 wp wl bs := hw.keepB k3 (by simp)
  refine ⟨⟨k3.has h2 (by simp), hw3s⟩, ?_⟩
  refine hw3s.ld0 rfl (by omega) g (v := .bool (bs.getD j false)) rfl ?_
  rw [OpB_bool]
  have o3 := ho.keep k3 (by simp)
  have h13 := k3.has h1 (by simp)
  have h23 := k3.has h2 (by simp)
  have hb1lt := h1.lt
  have hnp : ∀ {k : Nat} {f : Sec} {w' : World}, OwnL evLay w' base 31 p l c evs → Has w' k (.cells (secV f) 23 (0, 0)) → ¬ p = some ⟨k, 0, none⟩ := by
    intro k f w' ho' hk e
    rcases Own.cases ho' with ⟨h0, _⟩ | ⟨b', cur, h0, _, hg, _⟩
    · rw [h0] at e; cases e
    · rw [h0] at e; cases e
      have := hg.inj hk
      simp only [Obj.cells.injEq] at this
      exact absurd this.2.1 (by decide)
  have hp5 : p ≠ some ⟨b5, 0, none⟩ := fun e => by have := (ho.lt e).2; omega
  have plt : ∀ k, p = some ⟨k, 0, none⟩ → base ≤ k := fun k hk => (ho.lt hk).1
  refine Cb_of (fun hg => ?_) (fun hg => ?_)
  · refine LdA_all h23 rfl ?_
    refine StA_all h13 rfl rfl (one_secV _) ?_
    have k4 : Keep (fun k => k = b1) w3 (w3.upd b1 (.cells (secV (valS ys j)) 23 (0, 0))) := Keep.one _ _ _
    have h14 := h13.upd_same (.cells (secV (valS ys j)) 23 (0, 0))
    generalize w3.upd b1 (.cells (secV (valS ys j)) 23 (0, 0)) = w4 at *
    have o4 := o3.keep k4 fun k hk e => by subst e; exact hnp o3 h13 hk
    refine wia o4 (by omega) (by have := k3.size; have := k4.size; omega) (k4.has hb5' (by omega)) fun p' c' w5 o5 k5 => ?_
    have ev : (⟨bs.getD j false, valS ys j, 2 * (j : Int), 2 * (j : Int) + 1⟩ : Evt) = evS start bs ys lie lies j := by
      unfold evS; rw [if_pos hg, hg]
    rw [ev] at o5
    have hn1 : nowS start bs ys (j + 1) = valS ys j := by
      show (if bs.getD j false = true then _ else _) = _
      rw [if_pos hg]
    have hw1 : wrongS bs lie lies (j + 1) = wrongS bs lie lies j := by
      show (if bs.getD j false = true then _ else _) = _
      rw [if_pos hg]
    have := hK p' c' w5 o5 (by rw [hn1]; exact k5.has h14 (hnp o4 h14)) (((k3.mono (by simp)).trans (k4.mono fun k hk => by rw [hk]; exact hb1)).trans (k5.mono plt))
    rw [hw1] at this
    exact this
  · refine LdA_all h13 rfl ?_
    refine StA_of hb5' rfl (by show 1 + 16 ≤ 19; decide) (one_secV _) ?_
    rw [spl_val]
    have k4 : Keep (fun _ => False) w (w3.upd b5 (.cells (evC { (⟨bs.getD j false, valS ys j, 2 * (j : Int), 2 * (j : Int) + 1⟩ : Evt) with val := nowS start bs ys j }) 31 (0, 0))) := k3.upd (by omega) _
    have h54 := hb5'.upd_same (.cells (evC { (⟨bs.getD j false, valS ys j, 2 * (j : Int), 2 * (j : Int) + 1⟩ : Evt) with val := nowS start bs ys j }) 31 (0, 0))
    generalize w3.upd b5 (.cells (evC { (⟨bs.getD j false, valS ys j, 2 * (j : Int), 2 * (j : Int) + 1⟩ : Evt) with val := nowS start bs ys j }) 31 (0, 0)) = w4 at *
    have hn1 : nowS start bs ys (j + 1) = nowS start bs ys j := by
      show (if bs.getD j false = true then _ else _) = _
      rw [if_neg (by rw [hg]; simp)]
    have h14 := k4.has h1 (by simp)
    have o4 := ho.keep k4 (by simp)
    have hb4 : base ≤ w4.heap.size := Nat.le_trans hb k4.size
    have plain : lieAt lie lies j = false → WiA b5 p l c (j : Int) w4 fun st w => K1 (st.1, (wrongS bs lie lies j, st.2)) w := by
      intro hlf
      refine wia o4 (by omega) hb4 h54 fun p' c' w5 o5 k5 => ?_
      have ev : ({ (⟨bs.getD j false, valS ys j, 2 * (j : Int), 2 * (j : Int) + 1⟩ : Evt) with val := nowS start bs ys j } : Evt) = evS start bs ys lie lies j := by
        unfold evS; rw [if_neg (by rw [hg]; simp), hlf, hg]; rfl
      rw [ev] at o5
      have hw1 : wrongS bs lie lies (j + 1) = wrongS bs lie lies j := by
        show (if bs.getD j false = true then _ else if _ then _ else _) = _
        rw [if_neg (by rw [hg]; simp), if_neg (by rw [hlf]; simp)]
      have := hK p' c' w5 o5 (by rw [hn1]; exact k5.has h14 (hnp o4 h14)) ((k4.mono (by simp)).trans (k5.mono plt))
      rw [hw1] at this
      exact this
    have ewl : IntKind.wrap .i64 lie = lie := wrapI (by omega) (by omega)
    rw [ewl]
    refine Cb_of (fun hls => ?_) (fun hls => plain (by unfold lieAt; rw [hls]; rfl))
    refine ⟨by decide, ?_⟩
    refine Cb_of (fun ht => ?_) (fun ht => plain (by unfold lieAt; rw [ht]; simp))
    have hlf : lieAt lie lies j = true := by unfold lieAt; rw [hls, ht]; rfl
    refine ⟨by decide, ?_⟩
    refine LdV_has (v := .int .u8 (nowS start bs ys j 15)) h54 rfl ?_
    rw [OpI_int]
    refine ⟨by decide, ?_⟩
    refine StV_of h54 (by show 16 < 19; decide) rfl ?_
    have es : (1 + Int.toNat 15 * 1) = 16 := rfl
    rw [es, set_val]
    refine wia (o4.keep (Keep.one w4 b5 _) fun k hk e => hp5 (by rw [← e]; exact hk)) (by omega) (by simpa using hb4) (h54.upd_same _) fun p' c' w5 o5 k5 => ?_
    have ev : ({ ({ (⟨bs.getD j false, valS ys j, 2 * (j : Int), 2 * (j : Int) + 1⟩ : Evt) with val := nowS start bs ys j } : Evt) with val := fun k => if k.val = 15 then ibits .xor .u8 (nowS start bs ys j 15) 1 else nowS start bs ys j k } : Evt) = evS start bs ys lie lies j := by
      unfold evS; rw [if_neg (by rw [hg]; simp), hlf, hg]; rfl
    rw [ev] at o5
    have hw1 : wrongS bs lie lies (j + 1) = true := by
      show (if bs.getD j false = true then _ else if _ then _ else _) = _
      rw [if_neg (by rw [hg]; simp), if_pos hlf]
    have hb15 : b1 ≠ b5 := by omega
    have h15 := h14.upd (y := .cells (evC { ({ (⟨bs.getD j false, valS ys j, 2 * (j : Int), 2 * (j : Int) + 1⟩ : Evt) with val := nowS start bs ys j } : Evt) with val := fun k => if k.val = 15 then ibits .xor .u8 (nowS start bs ys j 15) 1 else nowS start bs ys j k }) 31 (0, 0)) hb15
    have h16 : Has w5 b1 (.cells (secV (nowS start bs ys (j + 1))) 23 (0, 0)) := by
      rw [hn1]
      refine k5.has h15 ?_
      exact hnp (o4.keep (Keep.one w4 b5 _) fun k hk e => hp5 (by rw [← e]; exact hk)) h15
    have := hK p' c' w5 o5 h16 (((k4.mono (by simp)).trans ((Keep.one w4 b5 _).mono fun k hk => by rw [hk]; omega)).trans (k5.mono plt))
    rw [hw1] at this
    exact this
theorem steps_run {start : Sec} {bs : List Bool} {ys : List Int} {lie : Int} {lies : Bool} (hst : SecOk start) (hy : Bytes ys) (hlie : 0 ≤ lie ∧ lie ≤ 255) {w : World} {wp vp : Option Addr} {wl wc vl vc : Nat} (hw : SlL boLay w wp wl bs) (hv : SlL byLay w vp vl ys)
    {R : Value → World → Prop} (hR : ∀ w', Keep (fun _ => False) w w' → R (.bool true) w') :
    CallV Try.prog 9 #[.agg (secV start), .slice wp wl wc, .slice vp vl vc, .int .u8 lie, .bool lies] w R := by
  apply C_ravelinlaw21_HistorySteps
  unfold F_ravelinlaw21_HistorySteps
  have hwl := hw.1
  have hvl := hv.1
  refine alc_new fun w1 hs1 k1 z1 => ?_
  refine law21_awake fun w2 k2 => ?_
  rw [OpB_bool]
  refine (Cb_false (p := _)).2 ?_
  have hs2 := k2.has hs1 (by simp)
  have k02 := k1.trans k2
  refine LdA_all hs2 rfl ?_
  refine copy_of zc_se rfl (one_secV start) fun w3 h13 k3 z3 => ?_
  generalize hq : w2.heap.size = q at *
  refine ⟨_, _, bsl_ev0 w3, ?_⟩
  simp only [OpS_slice]
  have k4 : Keep (fun _ => False) w3 (w3.alloc (.cells #[] 31)) := Keep.new _ _ _
  have o4 : OwnL evLay (w3.alloc (.cells #[] 31)) w3.heap.size 31 (some ⟨w3.heap.size, 0, none⟩) 0 0 [] := OwnL.new (xs := []) (by decide) rfl
  generalize w3.alloc (.cells #[] 31) = w4 at *
  have hsq := hs2.lt
  refine LoopC_of (σ := (Option Addr × Nat × Nat) × Bool × Int × Unit) (fun st w' => ∃ j : Nat, st.2.2.1 = j ∧ j ≤ 10 ∧ j ≤ wl ∧ st.2.1 = wrongS bs lie lies j ∧ st.1.2.1 = j ∧ OwnL evLay w' q 31 st.1.1 j st.1.2.2 (evsS start bs ys lie lies j) ∧ Has w' q (.cells (secV (nowS start bs ys j)) 23 (0, 0)) ∧ Keep (fun k => q ≤ k) w2 w')
    (fun st _ => (10 - st.2.2.1).toNat) ⟨0, rfl, by omega, by omega, rfl, rfl, o4.rebase (by omega), k4.has h13 (by simp), (k3.trans k4).mono (by simp)⟩ ?_
  rintro _ ⟨⟨p5, l5, c5⟩, W, i1, u⟩ w5 ⟨j, hj, hj10, hjw, hW, hl5, o5, h15, k5⟩
  simp only at hj hW hl5 o5 ⊢
  subst hj hW hl5
  have k05 : Keep (fun _ => False) w w5 := k02.trans' k5 fun k hk e => by have := k02.size; omega
  have hs5 := k5.has hs2 (by omega)
  refine ⟨by trivial, by trivial, ?_⟩
  refine Cb_of (fun hcond => ?_) (fun hcond => ?_)
  · have hjj : l5 < wl ∧ l5 < 10 := by
      simp only [cond_eq_ite, Bool.ite_eq_true_distrib] at hcond
      cases h1 : decide ((l5 : Int) < (wl : Int))
      · rw [h1] at hcond; simp at hcond
      · rw [h1] at hcond
        simp at hcond h1
        omega
    refine DoQ_of (fun d => bld_sec0 _) ?_
    refine OpA_agg.2 ⟨rfl, ?_⟩
    refine copy_of zc_se rfl (one_secV _) fun w6 h26 k6 z6 => ?_
    generalize hb2 : w5.heap.size = b2 at *
    have h16 := k6.has h15 (by simp)
    have hq5 := h15.lt
    have fin : ∀ w7, Keep (fun k => k = b2) w6 w7 → Has w7 b2 (.cells (secV (valS ys l5)) 23 (0, 0)) → SPart wp wl lie lies q b2 (l5 : Int) p5 l5 c5 (wrongS bs lie lies l5) w7 (fun st w' => ∃ m', m' < (10 - (l5 : Int)).toNat ∧ ((∃ j : Nat, st.2.2.1 = j ∧ j ≤ 10 ∧ j ≤ wl ∧ st.2.1 = wrongS bs lie lies j ∧ st.1.2.1 = j ∧ OwnL evLay w' q 31 st.1.1 j st.1.2.2 (evsS start bs ys lie lies j) ∧ Has w' q (.cells (secV (nowS start bs ys j)) 23 (0, 0)) ∧ Keep (fun k => q ≤ k) w2 w') ∧ (10 - st.2.2.1).toNat = m')) := by
      intro w7 k7 h27
      have k27 : Keep (fun k => q ≤ k) w2 w7 := (k5.trans (k6.mono (by simp))).trans (k7.mono fun k hk => by rw [hk]; omega)
      have k07 : Keep (fun _ => False) w w7 := k02.trans' k27 fun k hk e => by have := k02.size; omega
      have ew : IntKind.wrap .i64 ((l5 : Int) + 1) = ((l5 + 1 : Nat) : Int) := by rw [wrapI (by omega) (by omega)]; omega
      refine spart hst hy hlie (hw.keepB k07 (by simp)) hjj.1 hjj.2 (k7.has h16 (by omega)) h27 (by omega) ((o5.keep k6 (by simp)).keep k7 fun k hp e => by have := (o5.lt hp).2; omega) (by omega) (by have := k27.size; omega) (fun w' k => hw.keepB (k07.trans' k fun k hk e => by have := k02.size; omega) (by simp)) (Nat.le_refl _) fun p' c' w8 o8 h18 k8 => ?_
      refine ⟨_, by show (10 - IntKind.wrap .i64 ((l5 : Int) + 1)).toNat < _; rw [ew]; omega, ⟨l5 + 1, ew, hjj.2, hjj.1, rfl, rfl, ?_, h18, k27.trans k8⟩, rfl⟩
      rw [evsS_succ]; exact o8
    unfold SPart WiA at fin
    refine Cb_of (fun hi => ?_) (fun hi => ?_)
    · have hi : l5 < ys.length := by simp only [decide_eq_true_eq] at hi; omega
      have gy := getD_at (xs := ys) hi 0
      refine (hv.keepB (k05.trans k6) (by simp)).ld0 rfl (by omega) gy (v := .int .u8 (ys.getD l5 0)) rfl ?_
      rw [OpI_int]
      refine ⟨by decide, ?_⟩
      refine DoQ_of (fun d => bld_sec2 _ _ _) ?_
      refine OpA_agg.2 ⟨rfl, ?_⟩
      refine StA_all h26 rfl rfl (one_secV _) ?_
      refine fin (w6.upd b2 (.cells (secV (sec [Int.tmod (ys.getD l5 0) 3, 5])) 23 (0, 0))) (Keep.one _ _ _) ?_
      have : valS ys l5 = sec [Int.tmod (ys.getD l5 0) 3, 5] := by unfold valS; rw [if_pos hi]
      rw [this]
      exact h26.upd_same _
    · have hi : ¬ l5 < ys.length := by simp only [decide_eq_false_iff_not] at hi; omega
      refine fin w6 (Keep.refl _ _) ?_
      have : valS ys l5 = sec [] := by unfold valS; rw [if_neg hi]
      rw [this]; exact h26
  · have hok := evsS_ok (start := start) (bs := bs) (ys := ys) (lie := lie) (lies := lies) hst hy hj10
    have hck := evsS_chk (start := start) (bs := bs) (ys := ys) (lie := lie) (lies := lies) hj10
    have hright := right_iff (start := start) (bs := bs) (ys := ys) (lie := lie) (lies := lies) hst hy l5
    have hseq := seq_evsS (start := start) (bs := bs) (ys := ys) (lie := lie) (lies := lies) l5
    refine LdA_all hs5 rfl ?_
    refine orderly_of o5.sl hok hst hck fun g w6 hg k6 => ?_
    refine LdA_all (k6.has hs5 (by simp)) rfl ?_
    refine last_of (o5.keep k6 (by simp)).sl hok hst hck fun q7 d7 vs w7 o7 s7 m7 hvs k7 => ?_
    have k67 := k6.trans k7
    have h17 := k67.has h15 (by simp)
    rw [seq_ord hseq, evsS_len, hright] at hg
    have hm : ∀ v, v ∈ vs ↔ wrongS bs lie lies l5 = false ∧ v = nowS start bs ys l5 := fun v => by
      rw [m7, seq_holds hseq, evsS_len, hright, cur_lw l5 l5 (Nat.le_refl _)]
    refine ⟨by trivial, by trivial, by trivial, by trivial, by trivial, ?_⟩
    have done : ∀ d, R (.bool true) (w7.dr d) := fun d => hR _ ((k05.trans k67).dr d)
    cases hwr : wrongS bs lie lies l5
    · rw [hwr] at hg hm
      have hgt : g = true := hg.2 rfl
      subst hgt
      refine (Cb_false (p := _)).2 ?_
      refine (Cb_false (p := _)).2 ?_
      refine (Cb_true (q := _)).2 ?_
      have hvs1 : vs = [nowS start bs ys l5] := Srt.ext s7 (List.pairwise_singleton _ _) fun v => by rw [hm]; simp
      subst hvs1
      refine (Cb_true (q := _)).2 ?_
      refine o7.ldA (x := nowS start bs ys l5) rfl (by decide) rfl ?_
      refine LdA_all h17 rfl ?_
      have hno := nowS_ok (bs := bs) hst hy l5
      refine EqB_sec hno hno fun r hr => ?_
      have hr : r = true := hr.2 rfl
      subst hr
      intro d
      exact Ret_nil.2 (done d)
    · rw [hwr] at hg hm
      have hgf : g = false := by
        cases g
        · rfl
        · have := hg.1 rfl; cases this
      subst hgf
      refine (Cb_false (p := _)).2 ?_
      refine (Cb_true (q := _)).2 ?_
      have hvs0 : vs = [] := by
        cases vs with
        | nil => rfl
        | cons v vs => have := ((hm v).1 (by simp)).1; cases this
      subst hvs0
      refine (Cb_true (q := _)).2 ?_
      intro d
      exact Ret_nil.2 (done d)
theorem steps_walk {start : Sec} {bs : List Bool} {ys : List Int} {lie : Int} {lies : Bool} (hst : SecOk start) (hy : Bytes ys) (hlie : 0 ≤ lie ∧ lie ≤ 255) {w : World} {wp vp : Option Addr} {wl wc vl vc : Nat} (hw : SlL boLay w wp wl bs) (hv : SlL byLay w vp vl ys) :
    CallV Try.prog 9 #[.agg (secV start), .slice wp wl wc, .slice vp vl vc, .int .u8 lie, .bool lies] w fun v w' => v = .bool true ∧ Below w.heap.size w w' :=
  steps_run hst hy hlie hw hv fun w' k => ⟨rfl, k.below⟩
end Go.Proofs
