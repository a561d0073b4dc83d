/-
  THE SEARCH, the second part: the walk's contract, search, Orderly.
-/
import Derived.Test.YtdjlmpkjdgmkkaaHistW
namespace Go.Proofs
open Go Go.Ev Go.RowKit
set_option linter.unusedSimpArgs false
set_option linter.unusedVariables false
set_option maxRecDepth 100000

section walk
variable {evs : List Evt} {start : Sec} {w0 : World} {evp : Option Addr} {evl evc A q1 q2 q3 q4 q5 q6 m : Nat}
/-- the bits of what was answered -/
def Ans (evs : List Evt) (A : Nat) : Prop := A < 2 ^ 60 ∧ ∀ i, A.testBit i = true ↔ ∃ x, evs[i]? = some x ∧ 0 ≤ x.to
theorem ans_cmp {s : Stt} (hA : Ans evs A) (hl : evs.length ≤ 10) (hs : s.1 < 1024) : (ibits .andNot .i64 (A : Int) (s.1 : Int) == 0) = cmpB evs s := by
  rw [Bool.eq_iff_iff, bits_sub hA.1, cmpB_iff]
  rw [Nat.mod_eq_of_lt (show s.1 < 2 ^ 64 by omega)]
  constructor
  · intro h i x hx h0
    have hlt := (List.getElem?_eq_some_iff.1 hx).1
    exact h i (by omega) ((hA.2 i).2 ⟨x, hx, h0⟩)
  · intro h i _ ha
    obtain ⟨x, hx, h0⟩ := (hA.2 i).1 ha
    exact h i x hx h0
theorem filter_snoc {s : Stt} {ks : List Stt} : (ks ++ [s]).filter (cmpB evs) = ks.filter (cmpB evs) ++ (if cmpB evs s = true then [s] else []) := by
  rw [List.filter_append]
  congr 1
  cases h : cmpB evs s <;> simp [h]
theorem walk_run (hev : SlL evLay w0 evp evl evs) (hl : evl ≤ 10) (hA : Ans evs A) (hok : ∀ x ∈ evs, EvOk x) (hst : SecOk start) : ∀ n, WSpec evs start w0 evp evl evc A q1 q2 q3 q4 q5 q6 m n
  | 0 => by
    intro w ks s ep el ec R hn h hs hK
    have hsm := hs.small
    have hlen := hev.1
    have hd10 : s.1 < 1024 := Nat.lt_of_lt_of_le hsm.1 (Nat.le_trans (Nat.pow_le_pow_right (by decide) (show evs.length ≤ 10 by omega)) (by decide))
    omega
  | n + 1 => by
    intro w ks s ep el ec R hn h hs hK
    have ih := walk_run hev hl hA hok hst n
    have hsm := hs.small
    have hlen := hev.1
    have hd10 : s.1 < 1024 := Nat.lt_of_lt_of_le hsm.1 (Nat.le_trans (Nat.pow_le_pow_right (by decide) (show evs.length ≤ 10 by omega)) (by decide))
    have hkey : ∀ t : Stt, Reach evs start t → ∃ l, keyOf Try.prog 93 (stK t) = some l := by
      intro t ht
      have h1 := ht.small
      have h2 : t.1 < 1024 := Nat.lt_of_lt_of_le h1.1 (Nat.le_trans (Nat.pow_le_pow_right (by decide) (show evs.length ≤ 10 by omega)) (by decide))
      exact key_of (by omega) (by omega) (by omega)
    refine C_Walk ?_
    unfold F_Walk
    refine alc_new fun w1 hb k1 _ => ?_
    generalize hbn : w.heap.size = b at *
    have H1 := h.keep k1
    have hnb : ep ≠ some ⟨b, 0, none⟩ := fun e => by have := (h.he.lt e).2; omega
    refine LdV_has (v := .map (some m)) H1.h1 rfl ?_
    simp only [OpM_map]
    refine LdA_all hb rfl ?_
    obtain ⟨g0, hg0, hrun0⟩ : ∃ g : Bool, (g = true ↔ s ∈ ks) ∧ ∀ d, (Instr.lookup 98 (.map (some m)) (.agg (stC s)) true).run Try.prog (w1.dr d) = .ok (.tuple #[.agg #[], .bool g]) (w1.dr d) := by
      obtain ⟨lx, hx⟩ := hkey s hs
      have key := fun d => run_lookupS (w := w1.dr d) (f := stK) (ks := ks) (k := 93) (t := 98) (et := 100) (by kernel_rfl) zv_un key_law (fun t ht => hkey t (h.rc t ht)) stK_inj H1.hm hx
      refine ⟨decide (s ∈ ks), by simp, fun d => ?_⟩
      obtain ⟨g, hg, hr⟩ := key d
      have : g = decide (s ∈ ks) := by rw [Bool.eq_iff_iff, hg]; simp
      rw [← this]; exact hr
    refine DoQ_of hrun0 ?_
    simp only [T2_mk, OpA_agg, OpB_bool]
    refine ⟨rfl, ?_⟩
    refine copy_of zc_un rfl (by simp) fun w2 _ k2 _ => ?_
    have k12 := k1.trans k2
    have H2 := h.keep k12
    have hb2 := k2.has hb (by simp)
    refine Cb_of (fun hc => ?_) (fun hc => ?_)
    · rw [Ret_nil]
      exact hK w2 ⟨ks, ep, el, ec, H2, Fr.of k12, fun _ h => h, hg0.1 hc, fun t h1 h2 => absurd h1 h2⟩
    have hnew : s ∉ ks := fun hm => by rw [hg0.2 hm] at hc; cases hc
    refine LdV_has (v := .map (some m)) H2.h1 rfl ?_
    simp only [OpM_map]
    refine LdA_all hb2 rfl ?_
    refine DoQ_of (v := .agg #[]) (fun d => bld_un _) ?_
    simp only [OpA_agg]
    refine ⟨rfl, ?_⟩
    obtain ⟨lx, hx⟩ := hkey s hs
    obtain ⟨o, hrun, hset⟩ := run_setS (f := stK) (ks := ks) (k := 93) (t := 98) (et := 100) (by kernel_rfl) key_law (fun t ht => hkey t (h.rc t ht)) stK_inj H2.hm hx hnew
    refine ⟨_, hrun, ?_⟩
    have km : Keep (fun k => k = m) w2 (w2.upd m o) := Keep.one _ _ _
    generalize hw3 : w2.upd m o = w3 at *
    have nm : ∀ {k : Nat} {c : Array Value} {t : TypeId}, Has w2 k (.cells c t (0, 0)) → k ≠ m := fun hk e => H2.notm (by rw [← e]; exact hk)
    have g1 := km.has H2.h1 (nm H2.h1)
    have g2 := km.has H2.h2 (nm H2.h2)
    have g3 := km.has H2.h3 (nm H2.h3)
    have g4 := km.has H2.h4 (nm H2.h4)
    have g5 := km.has H2.h5 (nm H2.h5)
    have g6 := km.has H2.h6 (nm H2.h6)
    have gb := km.has hb2 (nm hb2)
    have ge : OwnL stLay w3 w0.heap.size 93 ep el ec (ks.filter (cmpB evs)) := H2.he.keep km fun k hp e => by
      rcases Own.cases H2.he with ⟨h0, _⟩ | ⟨b', cur, h0, _, hg, _⟩
      · rw [h0] at hp; cases hp
      · rw [h0] at hp; cases hp; exact nm hg e
    have nd3 : (ks ++ [s]).Nodup := by
      rw [List.nodup_append]
      refine ⟨h.nd, by simp, fun a ha b hb e => ?_⟩
      simp only [List.mem_singleton] at hb
      subst hb; subst e
      exact hnew ha
    have rc3 : ∀ t ∈ ks ++ [s], Reach evs start t := by
      intro t ht
      rcases List.mem_append.1 ht with h1 | h1
      · exact h.rc t h1
      · rw [List.mem_singleton.1 h1]; exact hs
    have hb3 : Keep (fun k => w0.heap.size ≤ k) w0 w3 := H2.hb.trans (km.mono fun k hk => by rw [hk]; exact h.bm)
    have f3 : Fr w0 q3 m w ep w3 ep := by
      refine Fr.trans h (Fr.of k12) (w1 := w2) ⟨km.mono fun k hk => Or.inl hk, fun _ _ _ _ h => h⟩
    have hcount : (ks.filter (cmpB evs)).length ≤ 12000 := Nat.le_trans (List.length_filter_le _ _) (reach_count h.nd h.rc (by omega))
    have hel := ge.length
    refine LdV_has (v := .int .i64 (A : Int)) g2 rfl ?_
    simp only [OpI_int]
    refine LdV_has (v := .int .i64 (s.1 : Int)) gb rfl ?_
    simp only [OpI_int]
    rw [ans_cmp hA (by omega) hd10]
    refine ⟨fun _ w' => ∃ ep' el' ec', Hst evs start w0 evp evl evc A q1 q2 q3 q4 q5 q6 m w' (ks ++ [s]) ep' el' ec' ∧ Fr w0 q3 m w ep w' ep' ∧ Has w' b (.cells (stC s) 93 (0, 0)) ∧ ep' ≠ some ⟨b, 0, none⟩, ?_, ?_⟩
    · refine Cb_of (fun hc => ?_) (fun hc => ?_)
      · refine LdV_has (v := .slice ep el ec) g3 rfl ?_
        simp only [OpS_slice]
        refine LdA_all gb rfl ?_
        refine ⟨_, _, bsl_st s w3, ?_⟩
        simp only [OpS_slice]
        have k4 : Keep (fun _ => False) w3 (w3.alloc (.cells (stC s) 93)) := Keep.new _ _ _
        have hb4 : Has (w3.alloc (.cells (stC s) 93)) w3.heap.size (.cells (stC s) 93 (0, 0)) := Has.new _ _
        generalize hw4 : w3.alloc (.cells (stC s) 93) = w4 at *
        have ge4 := ge.keep k4 (by simp)
        have hbase : w0.heap.size ≤ w4.heap.size := Nat.le_trans hb3.size k4.size
        obtain ⟨p', c', w5, hr, ho, hk⟩ := run_appendL1 stLayT ge4 (y := s) hb4 rfl (ty := 71) (by omega) (by simp only [maxLen]; omega) hbase (c2 := 1)
        refine ⟨_, _, hr, ?_⟩
        simp only [OpS_slice]
        have hnep : ∀ {k : Nat} {c : Array Value} {t : TypeId}, Has w4 k (.cells c t (0, 0)) → t ≠ 93 → ¬ ep = some ⟨k, 0, none⟩ := by
          intro k c t hk ht e
          rcases Own.cases ge4 with ⟨h0, _⟩ | ⟨b', cur, h0, _, hg, _⟩
          · rw [h0] at e; cases e
          · rw [h0] at e; cases e
            have := hg.inj hk
            simp only [Obj.cells.injEq] at this
            exact ht this.2.1.symm
        have k35 : Keep (fun k => ep = some ⟨k, 0, none⟩) w3 w5 := (k4.mono (by simp)).trans hk
        have l3 : Has w5 q3 (.cells #[.slice ep el ec] 71 (0, 0)) := hk.has (k4.has g3 (by simp)) (hnep (k4.has g3 (by simp)) (by decide))
        refine StV_of l3 (by show 0 < 1; decide) rfl ?_
        have kq : Keep (fun k => k = q3) w5 (w5.upd q3 (.cells #[.slice p' (el + 1) c'] 71 (0, 0))) := Keep.one _ _ _
        have lq := l3.upd_same (.cells #[.slice p' (el + 1) c'] 71 (0, 0))
        show ∃ ep' el' ec', Hst evs start w0 evp evl evc A q1 q2 q3 q4 q5 q6 m (w5.upd q3 (.cells #[.slice p' (el + 1) c'] 71 (0, 0))) (ks ++ [s]) ep' el' ec' ∧ Fr w0 q3 m w ep (w5.upd q3 (.cells #[.slice p' (el + 1) c'] 71 (0, 0))) ep' ∧ Has (w5.upd q3 (.cells #[.slice p' (el + 1) c'] 71 (0, 0))) b (.cells (stC s) 93 (0, 0)) ∧ ep' ≠ some ⟨b, 0, none⟩
        generalize hw6 : w5.upd q3 (.cells #[.slice p' (el + 1) c'] 71 (0, 0)) = w6 at *
        have stay : ∀ {k : Nat} {c : Array Value} {t : TypeId}, Has w3 k (.cells c t (0, 0)) → t ≠ 93 → t ≠ 71 → Has w6 k (.cells c t (0, 0)) := by
          intro k c t hk' h1 h2
          have h4 := k4.has hk' (by simp)
          have h5 := hk.has h4 (hnep h4 h1)
          refine kq.has h5 fun e => ?_
          have := h5.inj (by rw [e]; exact l3)
          simp only [Obj.cells.injEq] at this
          exact h2 this.2.1
        have hset5 : SetAt stK w6 m (ks ++ [s]) := by
          have h5 : SetAt stK w5 m (ks ++ [s]) := hset.keep k35 fun e => by
            rcases Own.cases ge with ⟨h0, _⟩ | ⟨b', cur, h0, _, hg, _⟩
            · rw [h0] at e; cases e
            · rw [h0] at e; cases e; exact hset.ne hg rfl
          exact h5.keep kq fun e => h5.ne l3 e
        have ho6 : OwnL stLay w6 w0.heap.size 93 p' (el + 1) c' ((ks ++ [s]).filter (cmpB evs)) := by
          rw [filter_snoc, if_pos hc]
          refine ho.keep kq fun k hp e => ?_
          rcases Own.cases ho with ⟨h0, _⟩ | ⟨b', cur, h0, _, hg, _⟩
          · rw [h0] at hp; cases hp
          · rw [h0] at hp; cases hp
            subst e
            have := hg.inj l3
            simp only [Obj.cells.injEq] at this
            exact absurd this.2.1 (by decide)
        have hnp : ∀ k cur, Has w3 k (.cells cur 93 (0, 0)) → cur.size = 2 → p' = some ⟨k, 0, none⟩ → ep = some ⟨k, 0, none⟩ := by
          intro k cur hk' hsz e
          rcases Own.cases ge4 with ⟨h0, _⟩ | ⟨b', cur', h0, _, hg, hle, _, hsz', _⟩
          · have ge4' : OwnL stLay w4 w4.heap.size 93 none 0 0 [] := OwnL.nil
            have := hk'.lt
            exfalso
            have hz : el = 0 ∧ ec = 0 ∧ ks.filter (cmpB evs) = [] := by
              rcases Own.cases ge4 with ⟨_, h1, h2, _⟩ | ⟨b', cur', h1, _⟩
              · exact ⟨h1, h2, List.eq_nil_of_length_eq_zero (by omega)⟩
              · rw [h0] at h1; cases h1
            obtain ⟨p2, c2, w2', hr2, ho2, _⟩ := run_appendL1 stLayT ge4' (y := s) hb4 rfl (ty := 71) (by omega) (by simp only [maxLen]; omega) (Nat.le_refl _) (c2 := 1)
            rw [h0, hz.1, hz.2.1] at hr
            rw [hr] at hr2
            simp only [Result.ok.injEq, Value.slice.injEq] at hr2
            have := ho2.lt (hr2.1.1.symm.trans e)
            have := k4.size
            omega
          · by_cases hb' : b' = k
            · rw [h0, hb']
            · exfalso
              have h4 := k4.has hk' (by simp)
              have h5 := hk.has h4 (by rw [h0]; intro e; cases e; exact hb' rfl)
              rcases Own.cases ho with ⟨h1, _⟩ | ⟨b2, cur2, h1, _, hg2, hle2, _, hsz2, _⟩
              · rw [h1] at e; cases e
              · rw [h1] at e; cases e
                have e2 := h5.inj hg2
                simp only [Obj.cells.injEq, and_true] at e2
                rw [← e2, hsz] at hsz2
                have : stLay.size = 2 := rfl
                rw [this] at hsz2
                have := h.ez _ h0
                omega
        have hb6 : Keep (fun k => w0.heap.size ≤ k) w0 w6 := by
          refine (hb3.trans (k35.mono fun k hk => ?_)).trans (kq.mono fun k hk => by rw [hk]; exact h.b3)
          exact (ge.lt hk).1
        have f6 : Fr w0 q3 m w3 ep w6 p' := by
          refine ⟨(k35.mono fun k hk => ?_).trans (kq.mono fun k hk => Or.inr (Or.inl hk)), hnp⟩
          rcases Own.cases ge with ⟨h0, _⟩ | ⟨b', cur, h0, hb', hg, _⟩
          · rw [h0] at hk; cases hk
          · rw [h0] at hk; cases hk
            exact Or.inr (Or.inr ⟨hb', cur, hg, fun _ => h0⟩)
        have hbp : p' ≠ some ⟨b, 0, none⟩ := fun e => hnb (hnp b _ gb rfl e)
        refine ⟨p', el + 1, c', ⟨stay g1 (by decide) (by decide), stay g2 (by decide) (by decide), lq, stay g4 (by decide) (by decide), stay g5 (by decide) (by decide), stay g6 (by decide) (by decide), hset5, ho6, hb6, h.bm, h.b3, nd3, rc3, fun _ _ => by omega⟩, Fr.trans h f3 f6, ?_, hbp⟩
        have h4 := k4.has gb (by simp)
        refine kq.has (hk.has h4 hnb) fun e => ?_
        have := (hk.has h4 hnb).inj (by rw [e]; exact l3)
        simp only [Obj.cells.injEq] at this
        exact absurd this.2.1 (by decide)
      · refine ⟨ep, el, ec, ⟨g1, g2, g3, g4, g5, g6, hset, ?_, hb3, h.bm, h.b3, nd3, rc3, h.ez⟩, f3, gb, hnb⟩
        rw [filter_snoc, if_neg (by rw [hc]; simp), List.append_nil]
        exact ge
    rintro _ _ w4 ⟨ep4, el4, ec4, H4, f4, hb4, hnb4⟩
    refine LdA_all H4.h4 rfl ?_
    refine copy_of zc_se rfl (one_secV start) fun w5 hb5 k5 _ => ?_
    generalize hb2n : w4.heap.size = b2 at *
    have H5 := H4.keep k5
    have hbb5 := k5.has hb4 (by simp)
    have f5 : Fr w0 q3 m w ep w5 ep4 := Fr.trans h f4 (Fr.of k5)
    refine LdV_has (v := .int .i64 s.2) hbb5 rfl ?_
    simp only [OpI_int]
    refine ⟨fun _ w' => Hst evs start w0 evp evl evc A q1 q2 q3 q4 q5 q6 m w' (ks ++ [s]) ep4 el4 ec4 ∧ Fr w0 q3 m w ep w' ep4 ∧ Has w' b (.cells (stC s) 93 (0, 0)) ∧ Has w' b2 (.cells (secV (cur evs start s.2)) 23 (0, 0)), ?_, ?_⟩
    · refine Cb_of (fun hc => ?_) (fun hc => ?_)
      · have hc : 0 ≤ s.2 := by simpa using hc
        refine LdV_has (v := .slice evp evl evc) H5.h5 rfl ?_
        simp only [OpS_slice]
        refine LdV_has (v := .int .i64 s.2) hbb5 rfl ?_
        simp only [OpI_int]
        have hlt : s.2.toNat < evs.length := by omega
        refine SlL.ldP (H5.ev hev) (t := 1) (m := 16) (cs := secV (evs.getD s.2.toNat default).val) rfl hc (at_lt hlt) (by decide) rfl ?_ ?_
        · intro j hj
          show _ = (evC _).toList[1 + j]?
          rw [← evC_sec, Array.getElem?_extract, Array.getElem?_toList]
          have : (evC (evs.getD s.2.toNat default)).size = 19 := rfl
          rw [if_pos (by rw [this]; omega)]
        · refine StA_all hb5 rfl rfl (one_secV _) ?_
          have k6 : Keep (fun k => k = b2) w5 (w5.upd b2 (.cells (secV (evs.getD s.2.toNat default).val) 23 (0, 0))) := Keep.one _ _ _
          have k46 : Keep (fun _ => False) w4 (w5.upd b2 (.cells (secV (evs.getD s.2.toNat default).val) 23 (0, 0))) := k5.upd (by omega) _
          refine ⟨H4.keep k46, Fr.trans h f4 (Fr.of k46), k46.has hb4 (by simp), ?_⟩
          have : cur evs start s.2 = (evs.getD s.2.toNat default).val := by unfold cur; rw [if_pos hc]
          rw [this]
          exact hb5.upd_same _
      · have hc : ¬ 0 ≤ s.2 := by simpa using hc
        refine ⟨H5, f5, hbb5, ?_⟩
        have : cur evs start s.2 = start := by unfold cur; rw [if_neg hc]
        rw [this]; exact hb5
    rintro _ _ w6 ⟨H6, f6, hb6, hv6⟩
    refine LdV_has (v := .slice evp evl evc) H6.h5 rfl ?_
    simp only [OpS_slice]
    refine LoopC_of (σ := Int × Unit) (fun st w' => ∃ (j : Nat) (ks' : List Stt) (ep' : Option Addr) (el' ec' : Nat), st.1 = j ∧ j ≤ evl ∧ Hst evs start w0 evp evl evc A q1 q2 q3 q4 q5 q6 m w' ks' ep' el' ec' ∧ Fr w0 q3 m w ep w' ep' ∧ Has w' b (.cells (stC s) 93 (0, 0)) ∧ ep' ≠ some ⟨b, 0, none⟩ ∧
        Has w' b2 (.cells (secV (cur evs start s.2)) 23 (0, 0)) ∧ (∀ t ∈ ks ++ [s], t ∈ ks') ∧ (∀ t ∈ ks', t ∉ ks → t ≠ s → ∀ i, May evs start t i → nxt evs t i ∈ ks') ∧ (∀ i, i < j → May evs start s i → nxt evs s i ∈ ks'))
      (fun st _ => (evl - st.1).toNat) ⟨0, ks ++ [s], ep4, el4, ec4, rfl, by omega, H6, f6, hb6, hnb4, hv6, fun _ h => h, fun t h1 h2 h3 => absurd h1 (by simp [h2, h3]), fun i hi => by omega⟩ ?_
    rintro _ ⟨i1, u⟩ w7 ⟨j, ks', ep', el', ec', hj, hjl, H7, f7, hb7, hnb7, hv7, hsub, hcl, hdone⟩
    simp only at hj ⊢
    subst hj
    refine Cb_of (fun hc => ?_) (fun hc => ?_)
    · have hj : j < evl := by simp only [decide_eq_true_eq] at hc; omega
      have ew : IntKind.wrap .i64 ((j : Int) + 1) = ((j + 1 : Nat) : Int) := by rw [wrapI (by omega) (by omega)]; omega
      have g' := at_lt (evs := evs) (i := j) (by omega)
      have g : evs[((j : Nat) : Int).toNat]? = some (evs.getD j default) := by rw [Int.toNat_natCast]; exact g'
      generalize hx : evs.getD j default = x at *
      have hxok : EvOk x := hok x (List.mem_of_getElem? g')
      refine (H7.ev hev).ldA rfl (by omega) g ?_
      refine copy_of zc_ev rfl (one_evC x) fun w8 hb8 k8 _ => ?_
      generalize hb5n : w7.heap.size = b5 at *
      have H8 := H7.keep k8
      have f8 : Fr w0 q3 m w ep w8 ep' := Fr.trans h f7 (Fr.of k8)
      have hbs8 := k8.has hb7 (by simp)
      have hv8 := k8.has hv7 (by simp)
      -- an event that cannot be done now
      have skip : ¬ May evs start s j → ∃ m', m' < ((evl : Int) - (j : Int)).toNat ∧ ((∃ (j' : Nat) (ks' : List Stt) (ep' : Option Addr) (el' ec' : Nat), ((j + 1 : Nat) : Int) = j' ∧ j' ≤ evl ∧ Hst evs start w0 evp evl evc A q1 q2 q3 q4 q5 q6 m w8 ks' ep' el' ec' ∧ Fr w0 q3 m w ep w8 ep' ∧ Has w8 b (.cells (stC s) 93 (0, 0)) ∧ ep' ≠ some ⟨b, 0, none⟩ ∧
        Has w8 b2 (.cells (secV (cur evs start s.2)) 23 (0, 0)) ∧ (∀ t ∈ ks ++ [s], t ∈ ks') ∧ (∀ t ∈ ks', t ∉ ks → t ≠ s → ∀ i, May evs start t i → nxt evs t i ∈ ks') ∧ (∀ i, i < j' → May evs start s i → nxt evs s i ∈ ks')) ∧ ((evl : Int) - ((j + 1 : Nat) : Int)).toNat = m') := by
        intro hm
        refine ⟨_, by omega, ⟨j + 1, ks', ep', el', ec', rfl, hj, H8, f8, hbs8, hnb7, hv8, hsub, hcl, fun i hi hmy => ?_⟩, rfl⟩
        rcases Nat.lt_succ_iff_lt_or_eq.1 hi with h | h
        · exact hdone i h hmy
        · subst h; exact absurd hmy hm
      have tail : s.1.testBit j = false → (x.wr = true ∨ (0 ≤ x.to ∧ x.val = cur evs start s.2)) → WTail q5 q6 b b5 (j : Int) w8 (fun (st : Int × Unit) w' => ∃ m', m' < ((evl : Int) - (j : Int)).toNat ∧ ((∃ (j' : Nat) (ks' : List Stt) (ep' : Option Addr) (el' ec' : Nat), st.1 = j' ∧ j' ≤ evl ∧ Hst evs start w0 evp evl evc A q1 q2 q3 q4 q5 q6 m w' ks' ep' el' ec' ∧ Fr w0 q3 m w ep w' ep' ∧ Has w' b (.cells (stC s) 93 (0, 0)) ∧ ep' ≠ some ⟨b, 0, none⟩ ∧
        Has w' b2 (.cells (secV (cur evs start s.2)) 23 (0, 0)) ∧ (∀ t ∈ ks ++ [s], t ∈ ks') ∧ (∀ t ∈ ks', t ∉ ks → t ≠ s → ∀ i, May evs start t i → nxt evs t i ∈ ks') ∧ (∀ i, i < j' → May evs start s i → nxt evs s i ∈ ks')) ∧ ((evl : Int) - st.1).toNat = m')) := by
        intro hbit hpre
        refine walk_tail ih hev hl H8 hs hn g' hbit hpre hbs8 hnb7 hb8 fun w9 ks9 ep9 el9 ec9 H9 f9 hsub9 hcl9 hin9 => ?_
        have l9 := Fr.loc H8 f9 hbs8 rfl hnb7
        refine ⟨_, by omega, ⟨j + 1, ks9, ep9, el9, ec9, rfl, hj, H9, Fr.trans h f8 f9, l9.1, l9.2, Fr.cells H8 f9 hv8 (by decide) (by decide), fun t ht => hsub9 t (hsub t ht), ?_, ?_⟩, rfl⟩
        · intro t ht h1 h2 i hmy
          by_cases hk : t ∈ ks'
          · exact hsub9 _ (hcl t hk h1 h2 i hmy)
          · exact hcl9 t ht hk i hmy
        · intro i hi hmy
          rcases Nat.lt_succ_iff_lt_or_eq.1 hi with h | h
          · exact hsub9 _ (hdone i h hmy)
          · subst h; exact hin9 hmy
      refine LdV_has (v := .int .i64 (s.1 : Int)) hbs8 rfl ?_
      simp only [OpI_int]
      refine ⟨by omega, ?_⟩
      rw [bit_one (by omega) (by omega)]
      refine Cb_of (fun hbit => ?_) (fun hbit => ?_)
      · rw [ew]
        refine skip fun hm => ?_
        obtain ⟨_, _, h2, _⟩ := hm
        rw [hbit] at h2; cases h2
      refine LdV_has (v := .bool x.wr) hb8 rfl ?_
      simp only [OpB_bool]
      refine Cb_of (fun hwr => ?_) (fun hwr => ?_)
      · have hwr : x.wr = false := by simpa using hwr
        refine LdV_has (v := .int .i64 x.to) hb8 rfl ?_
        simp only [OpI_int]
        refine Cb_of (fun hto => ?_) (fun hto => ?_)
        · rw [ew]
          refine skip fun hm => ?_
          obtain ⟨y, h1, _, h2, _⟩ := hm
          rw [g'] at h1; cases h1
          simp only [decide_eq_true_eq] at hto
          rcases h2 with h2 | h2
          · rw [hwr] at h2; cases h2
          · omega
        have hto : 0 ≤ x.to := by simpa using hto
        refine LdA_has (n := 16) (o := 1) (cs := secV x.val) hb8 (by show 1 + 16 ≤ 19; decide) (evC_sec x) ?_
        refine LdA_all hv8 rfl ?_
        have hcs : SecOk (cur evs start s.2) := by
          unfold cur
          split
          · have hlt : s.2.toNat < evs.length := by omega
            exact (hok _ (List.mem_of_getElem? (at_lt hlt))).sec
          · exact hst
        refine EqB_sec_ne hxok.sec hcs fun r hr => ?_
        refine Cb_of (fun hr1 => ?_) (fun hr1 => ?_)
        · rw [ew]
          refine skip fun hm => ?_
          obtain ⟨y, h1, _, h2, _⟩ := hm
          rw [g'] at h1; cases h1
          rcases h2 with h2 | h2
          · rw [hwr] at h2; cases h2
          · exact hr.1 hr1 h2.2
        · have he : x.val = cur evs start s.2 := by
            apply Classical.byContradiction
            intro hne
            rw [hr.2 hne] at hr1; cases hr1
          exact tail hbit (Or.inr ⟨hto, he⟩)
      · have hwr : x.wr = true := by simpa using hwr
        exact tail hbit (Or.inl hwr)
    · have hj : j = evl := by simp only [decide_eq_false_iff_not] at hc; omega
      subst hj
      rw [Ret_nil]
      refine hK w7 ⟨ks', ep', el', ec', H7, f7, fun t ht => hsub t (by simp [ht]), hsub s (by simp), fun t ht h1 i hmy => ?_⟩
      by_cases hts : t = s
      · subst hts
        obtain ⟨y, hy, h2⟩ := hmy
        exact hdone i (by have := (List.getElem?_eq_some_iff.1 hy).1; omega) ⟨y, hy, h2⟩
      · exact hcl t ht h1 hts i hmy
end walk
end Go.Proofs
