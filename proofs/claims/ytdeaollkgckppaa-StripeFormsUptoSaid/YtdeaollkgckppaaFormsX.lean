/-
  StripeForms, the walk.
-/
import Derived.Test.YtdeaollkgckppaaFormsM
import Derived.Test.YtdeaollkgckppaaArgs9
namespace Go.Proofs
open Go Go.Ev Go.RowKit
set_option linter.unusedSimpArgs false
set_option linter.unusedVariables false
set_option maxRecDepth 100000

theorem bsl_dk0 (w : World) : (Instr.buildSlice 27 0 #[]).run Try.prog w = .ok (.slice (some ⟨w.heap.size, 0, none⟩) 0 0) (w.alloc (.cells #[] 59)) := by kernel_rfl
theorem bld_set (g : Geo) (p : Option Addr) (l c : Nat) (w : World) : (Instr.build 29 #[(0, .agg (geoV g)), (1, .slice p l c)]).run Try.prog w = .ok (.agg (setV g p l c)) w := run_build _ _ _ _ (by kernel_rfl)
theorem own_low {α : Type} {L : Lay α} {w : World} {base : Nat} {e : TypeId} {p : Option Addr} {l c : Nat} {xs : List α} (h : OwnL L w base e p l c xs) : ∀ k, p = some ⟨k, 0, none⟩ → base ≤ k := fun k hk => by
  rcases Own.cases h with ⟨h0, _⟩ | ⟨b', cur, h0, hb, _, _⟩
  · rw [h0] at hk; cases hk
  · rw [h0] at hk; cases hk; exact hb
theorem run_cp {w w' : World} {base : Nat} {p : Option Addr} {n c : Nat} {xs : List Nat} (o : OwnL dLay w' base 59 p n c xs) (hn : n ≤ 1000) {b : Nat} (hb : Has w' b (.cells #[] 59 (0, 0))) (hlow : w.heap.size ≤ b) (hz : w.heap.size ≤ w'.heap.size) :
    ∃ p' c' w2, (Builtin.append_ #[27, 27] 27 #[.slice (some ⟨b, 0, none⟩) 0 0, .slice p n c]).run Try.prog w' = .ok (.slice p' n c') w2 ∧ OwnL dLay w2 w.heap.size 59 p' n c' xs ∧ Keep (fun k => k = b) w' w2 := by
  have o1 : OwnL dLay w' w.heap.size 59 (some ⟨b, 0, none⟩) 0 0 [] := OwnL.mk (xs := []) hlow hb (by simp [maxLen]) rfl
  obtain ⟨p', c2, w2, hr, o2, k2⟩ := run_appendL dLayT o1 o.sl (ty := 27) (c2 := c) (by omega) (by simp only [maxLen]; omega) hz
  rw [Nat.zero_add] at hr o2
  exact ⟨p', c2, w2, hr, o2, k2.mono fun k hk => by injection hk with hk; injection hk with hk; exact hk.symm⟩
theorem forms_walkR {g : Geo} {lba drop : Int} {twice : Bool} {w : World} {R : Value → World → Prop} (hdr : 0 ≤ drop ∧ drop ≤ 255) (hK : ∀ w', Keep (fun _ => False) w w' → R (.bool true) w') :
    CallV Try.prog 7 #[.agg (geoV g), .int .i64 lba, .int .u8 drop, .bool twice] w R := by
  apply C_Forms9
  unfold F_Forms9
  refine alc_fresh fun w1 hb1 k1 z1 => ?_
  refine w_awake fun w2 k2 => OpB_bool.2 ((Cb_false (p := _)).2 ?_)
  refine ma_New fun m w3 hm hma k3 z3 => OpN_some.2 ?_
  have hb3 := (k2.trans k3).has hb1 (by simp)
  have k03 := (k1.trans k2).trans k3
  refine LdA_all hb3 rfl ?_
  by_cases hg : GeoOk g
  · refine st_New hg hma fun p c bks w4 hS o4 hfr k4 => T2_mk.2 (OpA_agg.2 ⟨rfl, OpI_int.2 ?_⟩)
    refine copy_of (by kernel_rfl) rfl (one_setV _ _ _ _) fun w5 hb5 k5 z5 => ?_
    refine LdA_all ((k4.trans k5).has hb3 (by simp)) rfl ?_
    refine st_NewNil (Or.inl ⟨hg, rfl⟩) fun w6 k6 => T2_mk.2 (OpA_agg.2 ⟨rfl, OpI_int.2 ?_⟩)
    refine copy_of (by kernel_rfl) rfl (one_setV _ _ _ _) fun w7 hb7 k7 z7 => ?_
    refine LdA_all ((((k4.trans k5).trans k6).trans k7).has hb3 (by simp)) rfl ?_
    refine r3_Check hg fun w8 k8 => OpI_int.2 ((Cb_false (p := _)).2 ⟨by trivial, by trivial, (Cb_false (p := _)).2 ?_⟩)
    have k58 := (k6.trans k7).trans k8
    have k48 := k5.trans k58
    have hG8 := (k4.trans k48).has hb3 (by simp)
    have hT8 := k58.has hb5 (by simp)
    have hS8 := hS.keep0 k48
    have o8 := o4.keep k48 (by simp)
    have k08 := (k03.trans k4).trans k48
    clear hb7 hb5 hS o4 hb3 hb1 hma
    have hdd := hg.d
    have hn : g.d = ((g.d.toNat : Nat) : Int) := by omega
    refine LdV_has (v := .slice p g.d.toNat c) hT8 rfl (OpS_slice.2 ?_)
    refine LdV_has (v := .int .i64 g.d) hG8 rfl (OpI_int.2 ?_)
    rw [show ((((g.d.toNat : Nat) : Int)) != g.d) = false by rw [← hn]; simp]
    refine (Cb_false (p := _)).2 ?_
    refine ma_Steps hS8.main (OpI_int.2 ((Cb_false (p := _)).2 ?_))
    generalize hb4 : w4.heap.size = b2 at *
    generalize (⟨List.replicate g.d.toNat (newD (g.c * g.s).toNat), ⟨true, 0, 0⟩⟩ : SS) = s at *
    have hlen : (bks.map Prod.fst).length = g.d.toNat := (OwnL.length o8).symm
    -- the row is copied
    refine ⟨fun st' w' => ∃ p' c', st'.1.2 = 0 ∧ Has w' st'.1.1 (.cells (setV g p' g.d.toNat c') 29 (0, 0)) ∧ OwnL oLay w' w8.heap.size 59 p' g.d.toNat c' ((bks.map Prod.fst).map some) ∧ Keep (fun _ => False) w8 w', ?_, ?_⟩
    · intro d
      have kd := Keep.drew (fun _ => False) w8 d
      have hGd := kd.has hG8 (by simp)
      have hTd := kd.has hT8 (by simp)
      have od := o8.keep kd (by simp)
      have zd := kd.size
      generalize hw9 : w8.dr d = w9 at *
      refine ⟨fun w' => Has w' w.heap.size (.cells (geoV g) 25 (0, 0)) ∧ Has w' b2 (.cells (setV g p g.d.toNat c) 29 (0, 0)), ⟨hGd, hTd⟩, ?_⟩
      refine LdA_of (cs := geoV g) rfl (fun w' hw => ⟨_, _, _, hw.1, Nat.le_refl 3, rfl⟩) ?_
      refine LdV_of (v := .slice p g.d.toNat c) (fun w' hw => ⟨_, _, _, hw.2, rfl⟩) (OpS_slice.2 ?_)
      have hS_ : ∀ w', Keep (fun _ => False) w9 w' → Has w' w.heap.size (.cells (geoV g) 25 (0, 0)) ∧ Has w' b2 (.cells (setV g p g.d.toNat c) 29 (0, 0)) := fun w' k => ⟨k.has hGd (by simp), k.has hTd (by simp)⟩
      have fin : ∀ (wa : World) (b4 : Nat) (p' : Option Addr) (c' : Nat), Has wa b4 (.cells (zc Try.prog 29) 29 (0, 0)) → w9.heap.size ≤ b4 → OwnL dLay wa w9.heap.size 59 p' g.d.toNat c' (bks.map Prod.fst) → Keep (fun _ => False) w9 wa →
          StA 4 b4 0 (setV g p' g.d.toNat c') wa fun w_1 => (Has w_1 w.heap.size (.cells (geoV g) 25 (0, 0)) ∧ Has w_1 b2 (.cells (setV g p g.d.toNat c) 29 (0, 0))) ∧ ∃ p' c', (((b4, 0), ()) : (Nat × Nat) × Unit).1.2 = 0 ∧ Has w_1 (((b4, 0), ()) : (Nat × Nat) × Unit).1.1 (.cells (setV g p' g.d.toNat c') 29 (0, 0)) ∧ OwnL oLay w_1 w8.heap.size 59 p' g.d.toNat c' ((bks.map Prod.fst).map some) ∧ Keep (fun _ => False) w8 w_1 := by
        intro wa b4 p' c' hb hle o k
        refine StA_all hb rfl (by rw [zc_set]; rfl) (one_setV _ _ _ _) ?_
        have ku := Keep.one wa b4 (.cells (setV g p' g.d.toNat c') 29 (0, 0))
        have k2 : Keep (fun _ => False) w9 (wa.upd b4 (.cells (setV g p' g.d.toNat c') 29 (0, 0))) := k.trans' ku fun i hi e => by omega
        exact ⟨hS_ _ k2, p', c', rfl, hb.upd_same _, own_o ((o.rebase zd).keep ku fun k hk e => OwnL.neH o hb (by decide) (by rw [hk, e])), kd.trans k2⟩
      refine ⟨?_, ?_⟩
      · refine ⟨_, _, bsl_dk0 _, OpS_slice.2 ?_⟩
        have ka := Keep.new (fun _ => False) w9 (.cells #[] 59)
        have ha := Has.new w9 (.cells #[] 59)
        generalize w9.alloc (.cells #[] 59) = wa at *
        have oa := od.keep ka (by simp)
        refine ⟨hS_ _ ka, ?_⟩
        refine ⟨?_, ?_⟩
        · obtain ⟨p', c', wb, hr, ob, kb⟩ := run_cp (w := w9) oa (by omega) ha (Nat.le_refl _) ka.size
          refine ⟨_, _, hr, OpS_slice.2 ?_⟩
          have kab : Keep (fun _ => False) w9 wb := ka.trans' kb fun i hi e => by omega
          refine ⟨hS_ _ kab, ?_⟩
          refine ⟨.agg (setV g p' g.d.toNat c'), fun w' _ => bld_set _ _ _ _ _, OpA_agg.2 ⟨rfl, ?_⟩⟩
          refine alc_fresh fun wc hc kc zc_ => ⟨hS_ _ (kab.trans kc), ?_⟩
          exact fin wc _ p' c' hc kab.size (ob.keep kc (by simp)) (kab.trans kc)
        · refine alc_fresh fun wb hbb kb zb => ⟨hS_ _ (ka.trans kb), ?_⟩
          have ha2 := kb.has ha (by simp)
          obtain ⟨p', c', wc, hr, oc, kc⟩ := run_cp (w := w9) (oa.keep kb (by simp)) (by omega) ha2 (Nat.le_refl _) (ka.trans kb).size
          refine ⟨_, _, hr, OpS_slice.2 ?_⟩
          have kac : Keep (fun _ => False) w9 wc := (ka.trans kb).trans' kc fun i hi e => by omega
          refine ⟨hS_ _ kac, ?_⟩
          refine DoQ_of (fun _ => bld_set _ _ _ _ _) (OpA_agg.2 ⟨rfl, ?_⟩)
          have hlt := ha.lt
          exact fin wc _ p' c' (kc.has hbb (by omega)) ka.size oc kac
      · refine alc_fresh fun wa haa ka za => ⟨hS_ _ ka, ?_⟩
        refine ⟨_, _, bsl_dk0 _, OpS_slice.2 ?_⟩
        have kb := Keep.new (fun _ => False) wa (.cells #[] 59)
        have hb := Has.new wa (.cells #[] 59)
        generalize hwb : wa.alloc (.cells #[] 59) = wb at *
        refine ⟨hS_ _ (ka.trans kb), ?_⟩
        obtain ⟨p', c', wc, hr, oc, kc⟩ := run_cp (w := w9) ((od.keep ka (by simp)).keep kb (by simp)) (by omega) hb ka.size (ka.trans kb).size
        refine ⟨_, _, hr, OpS_slice.2 ?_⟩
        have kac : Keep (fun _ => False) w9 wc := (ka.trans kb).trans' kc fun i hi e => by have := ka.size; omega
        refine ⟨hS_ _ kac, ?_⟩
        refine DoQ_of (fun _ => bld_set _ _ _ _ _) (OpA_agg.2 ⟨rfl, ?_⟩)
        have hlt := haa.lt
        exact fin wc _ p' c' (kc.has (kb.has haa (by simp)) (by omega)) (Nat.le_refl _) oc kac
    rintro _ ⟨⟨b4, o4⟩, u⟩ w9 ⟨p', c', ho4, hB9, oB9, k9⟩
    simp only at ho4 hB9 ⊢
    subst ho4
    refine LdV_has (v := .int .i64 g.d) (k9.has hG8 (by simp)) rfl (OpI_int.2 ⟨by omega, ?_⟩)
    refine LdV_has (v := .slice p' g.d.toNat c') hB9 rfl (OpS_slice.2 ?_)
    rw [wrapI (x := drop) (by omega) (by omega), Int.tmod_eq_emod_of_nonneg hdr.1]
    have hk0 := Int.emod_nonneg drop (show g.d ≠ 0 by omega)
    have hk1 := Int.emod_lt_of_pos drop (show 0 < g.d by omega)
    generalize drop % g.d = k at *
    have hos : ∀ j : Nat, j < g.d.toNat → ∃ b, ((bks.map Prod.fst).map some)[j]? = some (some b) ∧ (bks.map Prod.fst)[j]? = some b := fun j hj => ⟨(bks.map Prod.fst)[j]'(by omega), by rw [List.getElem?_map, List.getElem?_eq_getElem (by omega)]; rfl, List.getElem?_eq_getElem (by omega)⟩
    obtain ⟨bk, hbk, _⟩ := hos k.toNat (by omega)
    refine oB9.stF (i := k) (n := 1) (t := 0) (x := some bk) (y := none) (v := .pointer none) rfl hk0 hbk (by decide) rfl rfl fun w10 o10 k10 z10 => ?_
    have hB10 := k10.has hB9 (OwnL.neH oB9 hB9 (by decide))
    have low := own_low oB9
    have k810 : Keep (fun _ => False) w8 w10 := k9.trans' k10 fun i hi e => by have := low i e; omega
    have hosl : ((bks.map Prod.fst).map some).length = g.d.toNat := by rw [List.length_map, hlen]
    have hin0 : ∀ b, some b ∈ (bks.map Prod.fst).map some → b ∈ bks.map Prod.fst := fun b hb => by
      obtain ⟨x, hx, e⟩ := List.mem_map.1 hb
      cases e
      exact hx
    generalize hosE : (bks.map Prod.fst).map some = os at *
    refine ⟨fun _ w' => ∃ os', BadOs os' ∧ (∀ b, some b ∈ os' → b ∈ bks.map Prod.fst) ∧ Has w' b4 (.cells (setV g p' g.d.toNat c') 29 (0, 0)) ∧ OwnL oLay w' w8.heap.size 59 p' g.d.toNat c' os' ∧ Keep (fun _ => False) w8 w', ?_, ?_⟩
    · refine Cb_of (fun _ => ?_) (fun _ => ?_)
      · intro d _
        have kd := Keep.drew (fun _ => False) w10 d
        have hB11 := kd.has hB10 (by simp)
        have o11 := o10.keep kd (by simp)
        have k811 := k810.trans kd
        generalize w10.dr d = w11 at *
        refine LdV_has (v := .slice p' g.d.toNat c') hB11 rfl (OpS_slice.2 ?_)
        refine LdV_has (v := .slice p g.d.toNat c) (k811.has hT8 (by simp)) rfl (OpS_slice.2 ?_)
        refine LdV_has (v := .int .i64 g.d) (k811.has hG8 (by simp)) rfl (OpI_int.2 ⟨by omega, ?_⟩)
        rw [wrapI (x := k + 1) (by omega) (by omega), Int.tmod_eq_emod_of_nonneg (by omega)]
        have hj0 := Int.emod_nonneg (k + 1) (show g.d ≠ 0 by omega)
        have hj1 := Int.emod_lt_of_pos (k + 1) (show 0 < g.d by omega)
        have hjk : (k + 1) % g.d ≠ k := fun e => by
          by_cases h : k + 1 < g.d
          · rw [Int.emod_eq_of_lt (by omega) h] at e; omega
          · rw [show k + 1 = g.d by omega, Int.emod_self] at e; omega
        generalize (k + 1) % g.d = j at *
        obtain ⟨bj, hbj, hbj2⟩ := hos j.toNat (by omega)
        refine (o8.keep k811 (by simp)).sl.ld0 (i := j) (n := 1) (x := bj) (v := .pointer (some ⟨bj, 0, none⟩)) rfl hj0 hbj2 rfl (OpN_some.2 ?_)
        refine o11.stF (i := k) (n := 1) (t := 0) (x := none) (y := some bj) (v := .pointer (some ⟨bj, 0, none⟩)) rfl hk0 (by rw [List.getElem?_set_self (by omega)]) (by decide) rfl rfl fun w12 o12 k12 z12 => ?_
        rw [List.set_set] at o12
        have hkk : (os.set k.toNat (some bj))[k.toNat]? = some (some bj) := by rw [List.getElem?_set_self (by omega)]
        have hjj : (os.set k.toNat (some bj))[j.toNat]? = some (some bj) := by rw [List.getElem?_set_ne (by omega)]; exact hbj
        refine ⟨_, Or.inr ?_, fun b hb => ?_, k12.has hB11 (OwnL.neH o11 hB11 (by decide)), o12, k811.trans' k12 fun i hi e => by have := low i e; omega⟩
        · by_cases h : k.toNat < j.toNat
          · exact ⟨k.toNat, j.toNat, h, by rw [List.length_set]; omega, by rw [hkk, hjj]⟩
          · exact ⟨j.toNat, k.toNat, by omega, by rw [List.length_set]; omega, by rw [hkk, hjj]⟩
        · rcases List.mem_or_eq_of_mem_set hb with h | h
          · exact hin0 b h
          · cases h; exact List.mem_of_getElem? hbj2
      · refine ⟨_, Or.inl ⟨k.toNat, by rw [List.getElem?_set_self (by omega)]⟩, fun b hb => ?_, hB10, o10, k810⟩
        rcases List.mem_or_eq_of_mem_set hb with h | h
        · exact hin0 b h
        · cases h
    clear hos hbk hB10 o10 k810 k10 hB9 oB9 k9
    rintro _ u w10 ⟨os', hbad, hin', hB10, o10, k10⟩
    have hRf : Refs w10 (setV g p' g.d.toNat c') := fun w' R k hK => st_CheckO ((hS8.keep0 k10).keep0 k) (o10.keep k (by simp)).sl o10.cap.1 (show ((g.d.toNat : Nat) : Int) = g.d by omega) hin' hbad hK
    clear hbad hin'
    refine LdA_all hB10 rfl ?_
    refine rf_Read hRf fun w11 k11 => T2_mk.2 (OpA_agg.2 ⟨rfl, OpI_int.2 ?_⟩)
    refine copy_of (by rw [zc_sec]; rfl) rfl (one_secV _) fun w12 hb12 k12 z12 => ?_
    have k1012 := k11.trans k12
    refine LdA_all (k1012.has hB10 (by simp)) rfl ?_
    refine rf_Row (hRf.keep0 k1012) fun w13 k13 => T3_mk.2 (OpS_slice.2 (OpS_slice.2 (OpI_int.2 ?_)))
    have k1013 := k1012.trans k13
    refine LdA_all (k1013.has hB10 (by simp)) rfl ?_
    refine DoQ_of (fun _ => bld_sec0 _) (OpA_agg.2 ⟨rfl, ?_⟩)
    refine rf_Plan (hRf.keep0 k1013) fun w14 k14 => T2_mk.2 (OpS_slice.2 (OpI_int.2 ?_))
    have k1014 := k1013.trans k14
    refine ⟨fun st' w' => st'.1 = true ∧ Keep (fun _ => False) w8 w', ?_, ?_⟩
    · intro d
      have k15 := k1014.trans (Keep.drew (fun _ => False) w14 d)
      generalize w14.dr d = w15 at *
      have hS_ : ∀ w', Keep (fun _ => False) w10 w' → Has w' w.heap.size (.cells (geoV g) 25 (0, 0)) ∧ Has w' b2 (.cells (setV g p g.d.toNat c) 29 (0, 0)) ∧ Has w' b4 (.cells (setV g p' g.d.toNat c') 29 (0, 0)) := fun w' k => ⟨(k10.trans k).has hG8 (by simp), (k10.trans k).has hT8 (by simp), k.has hB10 (by simp)⟩
      refine ⟨fun w' => Has w' w.heap.size (.cells (geoV g) 25 (0, 0)) ∧ Has w' b2 (.cells (setV g p g.d.toNat c) 29 (0, 0)) ∧ Has w' b4 (.cells (setV g p' g.d.toNat c') 29 (0, 0)), hS_ _ k15, ?_⟩
      refine LdA_of (cs := setV g p g.d.toNat c) rfl (fun w' hw => ⟨_, _, _, hw.2.1, Nat.le_refl 4, rfl⟩) ?_
      refine st_Check ((hS8.keep0 k10).keep0 k15) ((o8.keep k10 (by simp)).keep k15 (by simp)).sl o8.cap.1 fun w16 k16 => OpI_int.2 ⟨hS_ _ (k15.trans k16), (Cb_true (q := _)).2 ?_⟩
      have k1016 := k15.trans k16
      refine LdA_of (cs := setV g p' g.d.toNat c') rfl (fun w' hw => ⟨_, _, _, hw.2.2, Nat.le_refl 4, rfl⟩) ?_
      refine (hRf.keep0 k1016) _ _ (Keep.refl _ _) fun w17 k17 => OpI_int.2 ⟨hS_ _ (k1016.trans k17), by trivial, by trivial, by trivial, by trivial, by trivial, by trivial, (Cb_true (q := _)).2 ?_⟩
      have k1017 := k1016.trans k17
      refine LdA_of (cs := setV g p' g.d.toNat c') rfl (fun w' hw => ⟨_, _, _, hw.2.2, Nat.le_refl 4, rfl⟩) ?_
      refine rf_Apply (hRf.keep0 k1017) fun w18 k18 => OpI_int.2 ⟨hS_ _ (k1017.trans k18), (Cb_true (q := _)).2 ?_⟩
      have k1018 := k1017.trans k18
      refine LdA_of (cs := setV g p' g.d.toNat c') rfl (fun w' hw => ⟨_, _, _, hw.2.2, Nat.le_refl 4, rfl⟩) ?_
      refine rf_Fence (hRf.keep0 k1018) fun w19 k19 => OpI_int.2 ⟨hS_ _ (k1018.trans k19), (Cb_true (q := _)).2 ?_⟩
      have k1019 := k1018.trans k19
      refine LdA_of (cs := setV g p' g.d.toNat c') rfl (fun w' hw => ⟨_, _, _, hw.2.2, Nat.le_refl 4, rfl⟩) ?_
      refine rf_Key (hRf.keep0 k1019) fun w20 k20 => OpI_int.2 ⟨hS_ _ (k1019.trans k20), (Cb_true (q := _)).2 ?_⟩
      have k1020 := k1019.trans k20
      refine LdA_of (cs := geoV g) rfl (fun w' hw => ⟨_, _, _, hw.1, Nat.le_refl 3, rfl⟩) ?_
      refine LdV_of (v := .slice p g.d.toNat c) (fun w' hw => ⟨_, _, _, hw.2.1, rfl⟩) (OpS_slice.2 ?_)
      refine Slc_from (lo := 1) (by omega) o8.cap.1 ?_
      refine DoQ_of (fun _ => bld_set _ _ _ _ _) (OpA_agg.2 ⟨rfl, ?_⟩)
      refine st_CheckL hg (by omega) fun w21 k21 => OpI_int.2 ⟨hS_ _ (k1020.trans k21), rfl, k10.trans (k1020.trans k21)⟩
    · rintro _ ⟨b5, u⟩ w15 ⟨hb5, k15⟩
      simp only at hb5 ⊢
      subst hb5
      exact Ret_nil.2 (hK _ (k08.trans k15))
  · refine st_NewN hg fun w4 k4 => T2_mk.2 (OpA_agg.2 ⟨rfl, OpI_int.2 ?_⟩)
    refine copy_of (by kernel_rfl) rfl (one_setV _ _ _ _) fun w5 hb5 k5 z5 => ?_
    refine LdA_all ((k4.trans k5).has hb3 (by simp)) rfl ?_
    refine st_NewNil (Or.inr ⟨hg, rfl⟩) fun w6 k6 => T2_mk.2 (OpA_agg.2 ⟨rfl, OpI_int.2 ?_⟩)
    refine copy_of (by kernel_rfl) rfl (one_setV _ _ _ _) fun w7 hb7 k7 z7 => ?_
    refine LdA_all ((((k4.trans k5).trans k6).trans k7).has hb3 (by simp)) rfl ?_
    refine r3_CheckN hg fun w8 k8 => OpI_int.2 ((Cb_true (q := _)).2 ⟨by trivial, by trivial, by trivial, (Cb_true (q := _)).2 ?_⟩)
    refine LdV_has (v := .slice none 0 0) (((k6.trans k7).trans k8).has hb5 (by simp)) rfl (OpS_slice.2 (Ret_nil.2 ?_))
    exact hK _ (((k03.trans k4).trans k5).trans ((k6.trans k7).trans k8))
theorem forms_walk {g : Geo} {lba drop : Int} {twice : Bool} {w : World} (hdr : 0 ≤ drop ∧ drop ≤ 255) :
    CallV Try.prog 7 #[.agg (geoV g), .int .i64 lba, .int .u8 drop, .bool twice] w fun v w' => v = .bool true ∧ Below w.heap.size w w' :=
  forms_walkR hdr fun w' k => ⟨rfl, k.below⟩
theorem geo_of {cs : Array Value} (h : Fits [.int .i64, .int .i64, .int .i64] cs.toList) : ∃ g, cs = geoV g := by
  have key : ∀ l : List Value, Fits [.int .i64, .int .i64, .int .i64] l → ∃ g : Geo, l = (geoV g).toList := by
    intro l h
    obtain ⟨_, _, rfl, ⟨a, rfl, _⟩, h1⟩ := fits_cons h
    obtain ⟨_, _, rfl, ⟨b, rfl, _⟩, h2⟩ := fits_cons h1
    obtain ⟨_, _, rfl, ⟨c, rfl, _⟩, h3⟩ := fits_cons h2
    cases fits_nil h3
    exact ⟨⟨a, b, c⟩, rfl⟩
  obtain ⟨g, e⟩ := key _ h
  exact ⟨g, Array.toList_inj.1 e⟩
end Go.Proofs
