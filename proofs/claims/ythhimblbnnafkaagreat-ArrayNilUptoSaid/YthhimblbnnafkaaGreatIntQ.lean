/-
  THE JOURNAL: Pending of one list that speaks of one version; Redo.
-/
import Derived.Test.YthhimblbnnafkaaGreatIntM
namespace Go.Proofs
open Go Go.Ev Go.RowKit
set_option linter.unusedSimpArgs false
set_option linter.unusedVariables false
set_option maxRecDepth 100000

def dn (rs : List Rec) : Bool := rs.any fun x => x.kind == 5
def fst4 (rs : List Rec) : Option Nat := rs.findIdx? fun x => x.kind == 4
/-- the cells of the groups that are whole and not written -/
def pendL (v : Int) (rs : List Rec) : List PutS := if dn rs = true then [] else match fst4 rs with
  | none => []
  | some n => grp v (rs.take n)
def gE (v : Int) (D : Bool) (F : Option Nat) (rs : List Rec) (q : Option Addr) (c : Nat) : List (Int × Value) := if D = true then [] else match F with
  | none => []
  | some n => [(v, .slice q (grp v (rs.take n)).length c)]
theorem fst4_succ {rs : List Rec} {i : Nat} {x : Rec} (hx : rs[i]? = some x) : fst4 (rs.take (i + 1)) = match fst4 (rs.take i) with
  | some n => some n
  | none => if x.kind = 4 then some i else none := by
  have hi : i < rs.length := (List.getElem?_eq_some_iff.1 hx).1
  unfold fst4
  rw [List.take_add_one, hx, List.findIdx?_append]
  cases h : (rs.take i).findIdx? fun x => x.kind == 4 with
  | some n => rfl
  | none =>
    by_cases e : x.kind = 4
    · simp [e, List.findIdx?_cons, Nat.min_eq_left (Nat.le_of_lt hi)]
    · simp [e, List.findIdx?_cons]
theorem dn_succ {rs : List Rec} {i : Nat} {x : Rec} (hx : rs[i]? = some x) : dn (rs.take (i + 1)) = (dn (rs.take i) || x.kind == 5) := by
  unfold dn
  rw [List.take_add_one, hx, List.any_append]
  simp
def uLay : Lay Int := ⟨1, fun y => [.int .u64 y], fun _ => rfl, fun y v hv => by rw [List.mem_singleton.1 hv]; rfl, by decide⟩
theorem uLayT : LayT Tryz.prog uLay 302 39 8 := ⟨by kernel_rfl, ⟨(Tryz.prog.info? 39).get (by kernel_rfl), ((Tryz.prog.info? 39).get (by kernel_rfl)).zero.get (by kernel_rfl), by kernel_rfl, by kernel_rfl, by kernel_rfl, by kernel_rfl, by kernel_rfl⟩⟩
theorem bsl_u1 (x : Int) (w : World) : (Instr.buildSlice 302 1 #[(0, .int .u64 x)]).run Tryz.prog w = .ok (.slice (some ⟨w.heap.size, 0, none⟩) 1 1) (w.alloc (.cells #[.int .u64 x] 39)) :=
  run_buildSlice w 302 39 1 _ #[.int .u64 x] ((Tryz.prog.info? 39).get (by kernel_rfl)) (((Tryz.prog.info? 39).get (by kernel_rfl)).zero.get (by kernel_rfl)) (by kernel_rfl) (by kernel_rfl) (by kernel_rfl) (by decide +kernel) (by decide +kernel) (by kernel_rfl)
theorem recSl_of {w : World} {p : Option Addr} {l : Nat} {rs : List Rec} (h : SlL rLay w p l rs) : RecSl w p l rs := by
  refine ⟨h.1, fun i hi => ⟨rfl, ?_⟩⟩
  have hlt : i < rs.length := by have := h.1; omega
  obtain ⟨b, o, hp, hc⟩ := h.2 i (rs[i]) (List.getElem?_eq_getElem hlt)
  refine ⟨b, o, hp, fun j hj => ?_⟩
  have e : rs.getD i default = rs[i] := by rw [List.getD_eq_getElem?_getD, List.getElem?_eq_getElem hlt]; rfl
  show _ = (recL (rs.getD i default))[j]?
  rw [e]
  exact hc j hj
theorem lists_one {w : World} {lp q : Option Addr} {ql qc : Nat} {rs : List Rec} (h : SlL hLay w lp 1 [(q, ql, qc)]) (hq : SlL rLay w q ql rs) : Lists w lp 1 [rs] := by
  refine ⟨rfl, fun _ => (q, ql, qc), fun i hi => ⟨rfl, ?_⟩, fun i hi => ?_⟩
  · obtain ⟨b, o, hp, hc⟩ := h.2 0 (q, ql, qc) rfl
    have : i = 0 := by omega
    subst this
    exact ⟨b, o, hp, fun j hj => hc j hj⟩
  · have : i = 0 := by omega
    subst this
    exact recSl_of hq
section calls
variable {w : World} {R : Value → World → Prop}
theorem bits_small {x : Int} (h : x = 0 ∨ x = 1) (hK : ∀ n, R (.int .i64 n) w) : CallV Tryz.prog 251 #[.int .u64 x] w R := by
  apply C_bits_Len
  unfold F_bits_Len
  apply C_bits_Len64
  unfold F_bits_Len64
  rcases h with rfl | rfl
  · refine (Cb_false (p := _)).2 ((Cb_false (p := _)).2 ((Cb_false (p := _)).2 ⟨0, by decide, by kernel_rfl, Ret_nil.2 (OpI_int.2 (Ret_nil.2 (hK _)))⟩))
  · refine (Cb_false (p := _)).2 ((Cb_false (p := _)).2 ((Cb_false (p := _)).2 ⟨1, by decide, by kernel_rfl, Ret_nil.2 (OpI_int.2 (Ret_nil.2 (hK _)))⟩))
theorem sort_small {p : Option Addr} {l c : Nat} (hl : l ≤ 1) (hK : R (.tuple #[]) w) : CallV Tryz.prog 203 #[.slice p l c] w R := by
  apply C_slices_Sort_uint64
  unfold F_slices_Sort_uint64
  have hl' : ((l : Nat) : Int) = 0 ∨ ((l : Nat) : Int) = 1 := by omega
  generalize ((l : Nat) : Int) = x at *
  have hx : IntKind.wrap .u64 x = x := wrapN (by show (0 : Int) ≤ x; omega) (by show x ≤ 18446744073709551615; omega)
  rw [hx]
  refine bits_small hl' fun n => OpI_int.2 ?_
  apply C_slices_pdqsortOrdered_uint64
  unfold F_slices_pdqsortOrdered_uint64
  refine LoopC_of (σ := Int × Int × Int × Bool × Bool × Unit) (fun st w' => st.1 = 0 ∧ st.2.1 = x ∧ w' = w) (fun _ _ => 0) ⟨rfl, rfl, rfl⟩ ?_
  rintro _ ⟨a, b, lim, g1, g2, u⟩ w1 ⟨ha, hb, rfl⟩
  simp only at ha hb ⊢
  subst ha hb
  have e : decide (IntKind.wrap .i64 (b - 0) ≤ 12) = true := by rw [wrapI (by omega) (by omega)]; exact decide_eq_true (by omega)
  rw [e]
  refine (Cb_true (q := _)).2 ?_
  apply C_slices_insertionSortOrdered_uint64
  unfold F_slices_insertionSortOrdered_uint64
  refine LoopC_of (σ := Int × Unit) (fun st w' => st.1 = 1 ∧ w' = w1) (fun _ _ => 0) ⟨by show IntKind.wrap .i64 ((0 : Int) + 1) = 1; decide, rfl⟩ ?_
  rintro _ ⟨i, u⟩ w2 ⟨hi, rfl⟩
  simp only at hi ⊢
  subst hi
  rw [decide_eq_false (show ¬ (1 : Int) < b by omega)]
  exact (Cb_false (p := _)).2 (Ret_nil.2 (Ret_nil.2 (Ret_nil.2 hK)))
theorem zc_e (t : TypeId) : (zc Tryz.prog t).size = (zc Tryz.prog t).size := rfl
theorem under_done : Tryz.prog.underlying 297 = some (.map 39 130) := by kernel_rfl
theorem under_grps : Tryz.prog.underlying 298 = some (.map 39 75) := by kernel_rfl
theorem under_u64 : Tryz.prog.underlying 39 = some (.int .u64) := by kernel_rfl
theorem ins_one {v : Int} {x y : Value} : ins [(v, x)] v y = [(v, y)] := by simp [ins]
theorem ins_nil {v : Int} {y : Value} : ins [] v y = [(v, y)] := rfl
theorem mlook_one {v : Int} {x : Value} : mlook [(v, x)] v = some x := by simp [mlook]
theorem i_Pending1 {lp q : Option Addr} {lc ql qc : Nat} {rs : List Rec} {v : Int} (h : SlL hLay w lp 1 [(q, ql, qc)]) (hq : SlL rLay w q ql rs) (hqc : ql ≤ qc) (hl : ql ≤ 100000) (hlba : ∀ x ∈ rs, 0 ≤ x.lba ∧ x.lba ≤ 2147483647) (hv : ∀ x ∈ rs, x.kind = 4 ∨ x.kind = 5 → x.ver = v)
    (hK : ∀ p' c' w', OwnL puLay w' w.heap.size 88 p' (pendL v rs).length c' (pendL v rs) → Keep (fun _ => False) w w' → R (.slice p' (pendL v rs).length c') w') :
    CallV Tryz.prog 132 #[.slice lp 1 lc] w R := by
  apply C_intent_Pending
  unfold F_intent_Pending
  have hlen := hq.1
  refine ⟨_, _, run_makeMap, OpM_map.2 ?_⟩
  have k1 := Keep.new (fun _ => False) w (.map #[] 0)
  have hM1 : MapAt .u64 (w.alloc (.map #[] 0)) w.heap.size [] := ⟨_, _, Has.new _ _, MapOk.nil _⟩
  have z1 : (w.alloc (.map #[] 0)).heap.size = w.heap.size + 1 := by simp
  generalize w.alloc (.map #[] 0) = w1 at *
  generalize hm1 : w.heap.size = m1 at *
  refine concat_recs (lists_one (h.keepB k1 (by simp)) (hq.keepB k1 (by simp))) (by omega) (by show ([rs].flatten).length ≤ _; simp; omega) fun p2 l2 c2 w2 o2 k2 => OpS_slice.2 ?_
  have o2 : OwnL rLay w2 w1.heap.size 246 p2 l2 c2 rs := by
    have e : ([rs].flatten).flatMap recL = rLay.rows rs := by simp; rfl
    rw [e] at o2
    exact o2
  have k02 := k1.trans k2
  have hl2 : l2 = ql := by rw [o2.length, hlen]
  -- which are written
  refine LoopC_of (σ := Int × Unit) (fun st w' => ∃ i : Nat, st.1 = (i : Int) ∧ i ≤ l2 ∧ MapAt .u64 w' m1 (if dn (rs.take i) = true then [(v, .agg #[])] else []) ∧ OwnL rLay w' w1.heap.size 246 p2 l2 c2 rs ∧ Keep (fun _ => False) w w') (fun st _ => ((l2 : Int) - st.1).toNat)
    ⟨0, rfl, by omega, by simpa [dn] using hM1.keep k2 (by simp), o2, k02⟩ ?_
  rintro _ ⟨i, u⟩ w3 ⟨i', hi, hil, hM3, o3, k3⟩
  simp only at hi ⊢
  subst hi
  refine Cb_of (fun hc => ?_) (fun hc => ?_)
  · have hc : i' < l2 := by
      have : (i' : Int) < (l2 : Int) := by simpa using hc
      omega
    have ek : IntKind.wrap .i64 ((i' : Int) + 1) = ((i' + 1 : Nat) : Int) := by rw [wrapI (by omega) (by omega)]; omega
    have hless : ((l2 : Int) - IntKind.wrap .i64 ((i' : Int) + 1)).toNat < ((l2 : Int) - (i' : Int)).toNat := by rw [ek]; omega
    obtain ⟨x, hx⟩ : ∃ x, rs[i']? = some x := ⟨_, List.getElem?_eq_getElem (by omega)⟩
    refine o3.sl.ldA (i := (i' : Int)) (n := 19) (x := x) rfl (by omega) (by rw [Int.toNat_natCast]; exact hx) ?_
    rw [rc_row]
    refine copy_of zc_rc rfl (one_recL x) fun w4 hb4 k4 z4 => ?_
    have hM4 := hM3.keep k4 (by simp)
    have o4 := o3.keep k4 (by simp)
    refine LdV_has (v := .int .i64 x.kind) hb4 rfl (OpI_int.2 ?_)
    refine Cb_of (fun e5 => ?_) (fun e5 => ?_)
    · have e5' : x.kind = 5 := by simpa using e5
      refine LdV_has (v := .int .u64 x.ver) hb4 rfl (OpI_int.2 ?_)
      refine DoQ_of (v := .agg #[]) (fun _ => run_build _ _ _ _ (by kernel_rfl)) (OpA_agg.2 ⟨rfl, ?_⟩)
      rw [hv x (List.mem_of_getElem? hx) (Or.inr e5')]
      obtain ⟨arr, clk, hr5, ho5⟩ := run_mapUpdate (P := Tryz.prog) under_done under_u64 hM4 v (.agg #[])
      refine ⟨_, hr5, ?_⟩
      have ku := Keep.one w4 m1 (.map arr clk)
      have hlt := hM4.lt
      obtain ⟨ar0, ck0, hH0, _⟩ := hM4
      refine ⟨_, hless, ⟨i' + 1, ek, by omega, ?_, o4.keep ku fun k hk e => by have := (o4.lt hk).1; omega, ((k3.trans k4).trans' ku fun i hi e => by omega)⟩, rfl⟩
      rw [dn_succ hx, e5, Bool.or_true, if_pos rfl]
      refine ⟨arr, clk, Has.upd_same hH0 _, ?_⟩
      by_cases hd : dn (rs.take i') = true
      · rw [if_pos hd, ins_one] at ho5; exact ho5
      · rw [if_neg hd, ins_nil] at ho5; exact ho5
    · refine ⟨_, hless, ⟨i' + 1, ek, by omega, ?_, o4, k3.trans k4⟩, rfl⟩
      rw [dn_succ hx, e5, Bool.or_false]
      exact hM4
  · have hc : i' = l2 := by
      have : ¬ (i' : Int) < (l2 : Int) := by simpa using hc
      omega
    rw [List.take_of_length_le (by omega)] at hM3
    clear hc o3
    refine ⟨_, _, run_makeMap, OpM_map.2 ?_⟩
    have k4 := Keep.new (fun _ => False) w3 (.map #[] 0)
    have hG4 : MapAt .u64 (w3.alloc (.map #[] 0)) w3.heap.size [] := ⟨_, _, Has.new _ _, MapOk.nil _⟩
    have hM4 := hM3.keep k4 (by simp)
    have z4 : (w3.alloc (.map #[] 0)).heap.size = w3.heap.size + 1 := by simp
    generalize w3.alloc (.map #[] 0) = w4 at *
    have k04 := k3.trans k4
    have zm1 : m1 < w3.heap.size := hM3.lt
    generalize hm2 : w3.heap.size = m2 at *
    -- the groups
    refine LoopC_of (σ := Int × Unit) (fun st w' => (st.1 = 0 ∧ w' = w4) ∨ (st.1 = 1 ∧ ∃ q2 c2, MapAt .u64 w' m2 (gE v (dn rs) (fst4 rs) rs q2 c2) ∧ (∀ n, dn rs = false → fst4 rs = some n → OwnL puLay w' m1 88 q2 (grp v (rs.take n)).length c2 (grp v (rs.take n))) ∧ Keep (fun _ => False) w w')) (fun st _ => (1 - st.1).toNat)
      (Or.inl ⟨rfl, rfl⟩) ?_
    rintro _ ⟨j, u⟩ w5 (⟨hj, rfl⟩ | ⟨hj, q5, c5, hG5, hO5, k5⟩)
    · simp only at hj ⊢
      subst hj
      refine (Cb_true (q := _)).2 ?_
      refine (h.keepB k04 (by simp)).ld0 (i := 0) (n := 1) (x := (q, ql, qc)) (v := .slice q ql qc) rfl (by omega) rfl rfl (OpS_slice.2 ?_)
      refine LoopC_of (σ := Int × Unit) (fun st w' => ∃ (i : Nat) (q2 : Option Addr) (c2 : Nat), st.1 = (i : Int) ∧ i ≤ ql ∧ MapAt .u64 w' m1 (if dn rs = true then [(v, .agg #[])] else []) ∧ MapAt .u64 w' m2 (gE v (dn rs) (fst4 (rs.take i)) rs q2 c2) ∧ (∀ n, dn rs = false → fst4 (rs.take i) = some n → OwnL puLay w' m1 88 q2 (grp v (rs.take n)).length c2 (grp v (rs.take n))) ∧ Keep (fun _ => False) w w') (fun st _ => ((ql : Int) - st.1).toNat)
        ⟨0, none, 0, rfl, by omega, hM4, by
          have : gE v (dn rs) (fst4 (rs.take 0)) rs none 0 = [] := by unfold gE; split <;> rfl
          rw [this]; exact hG4, fun n _ hn => (by cases hn), k04⟩ ?_
      rintro _ ⟨t, u⟩ w6 ⟨t', q6, c6, ht, htl, hM6, hG6, hO6, k6⟩
      simp only at ht ⊢
      subst ht
      refine Cb_of (fun hc => ?_) (fun hc => ?_)
      · have hc : t' < ql := by
          have : (t' : Int) < (ql : Int) := by simpa using hc
          omega
        have ek : IntKind.wrap .i64 ((t' : Int) + 1) = ((t' + 1 : Nat) : Int) := by rw [wrapI (by omega) (by omega)]; omega
        have hless : ((ql : Int) - IntKind.wrap .i64 ((t' : Int) + 1)).toNat < ((ql : Int) - (t' : Int)).toNat := by rw [ek]; omega
        obtain ⟨x, hx⟩ : ∃ x, rs[t']? = some x := ⟨_, List.getElem?_eq_getElem (by omega)⟩
        have hq6 := hq.keepB k6 (by simp)
        refine hq6.ldA (i := (t' : Int)) (n := 19) (x := x) rfl (by omega) (by rw [Int.toNat_natCast]; exact hx) ?_
        rw [rc_row]
        refine copy_of zc_rc rfl (one_recL x) fun w7 hb7 k7 z7 => ?_
        have hM7 := hM6.keep k7 (by simp)
        have hG7 := hG6.keep k7 (by simp)
        have hO7 : ∀ n, dn rs = false → fst4 (rs.take t') = some n → OwnL puLay w7 m1 88 q6 (grp v (rs.take n)).length c6 (grp v (rs.take n)) := fun n h1 h2 => (hO6 n h1 h2).keep k7 (by simp)
        have k07 := k6.trans k7
        have same : ∀ w8, Keep (fun _ => False) w7 w8 → fst4 (rs.take (t' + 1)) = fst4 (rs.take t') ∨ dn rs = true → ∃ m_1, m_1 < ((ql : Int) - (t' : Int)).toNat ∧ (∃ (i : Nat) (q2 : Option Addr) (c2 : Nat), IntKind.wrap .i64 ((t' : Int) + 1) = (i : Int) ∧ i ≤ ql ∧ MapAt .u64 w8 m1 (if dn rs = true then [(v, .agg #[])] else []) ∧ MapAt .u64 w8 m2 (gE v (dn rs) (fst4 (rs.take i)) rs q2 c2) ∧ (∀ n, dn rs = false → fst4 (rs.take i) = some n → OwnL puLay w8 m1 88 q2 (grp v (rs.take n)).length c2 (grp v (rs.take n))) ∧ Keep (fun _ => False) w w8) ∧ ((ql : Int) - IntKind.wrap .i64 ((t' : Int) + 1)).toNat = m_1 := by
          intro w8 k8 hs
          have hs' : gE v (dn rs) (fst4 (rs.take (t' + 1))) rs q6 c6 = gE v (dn rs) (fst4 (rs.take t')) rs q6 c6 := by
            rcases hs with hs | hs
            · rw [hs]
            · unfold gE; rw [if_pos hs, if_pos hs]
          refine ⟨_, hless, ⟨t' + 1, q6, c6, ek, by omega, hM7.keep k8 (by simp), by rw [hs']; exact hG7.keep k8 (by simp), fun n h1 h2 => ?_, k07.trans k8⟩, rfl⟩
          rcases hs with hs | hs
          · rw [hs] at h2; exact (hO7 n h1 h2).keep k8 (by simp)
          · rw [hs] at h1; cases h1
        refine LdV_has (v := .int .i64 x.kind) hb7 rfl (OpI_int.2 ?_)
        refine Cb_of (fun e4 => ?_) (fun e4 => ?_)
        · have e4 : ¬ x.kind = 4 := by simpa using e4
          refine same w7 (Keep.refl _ _) (Or.inl ?_)
          rw [fst4_succ hx, if_neg e4]
          cases fst4 (rs.take t') <;> rfl
        · have e4 : x.kind = 4 := by simpa using e4
          have hxv := hv x (List.mem_of_getElem? hx) (Or.inl e4)
          refine LdV_has (v := .int .u64 x.ver) hb7 rfl (OpI_int.2 ?_)
          rw [hxv]
          refine DoQ_of (fun d => run_lookup (P := Tryz.prog) under_done under_u64 (z := .agg #[]) (fun w => run_zeroValue (i := (Tryz.prog.info? 130).get (by kernel_rfl)) (by kernel_rfl) (by kernel_rfl)) (hM7.dr d) v true) ?_
          have hlk : mlook (if dn rs = true then [(v, Value.agg #[])] else []) v = if dn rs = true then some (.agg #[]) else none := by
            by_cases e : dn rs = true
            · rw [if_pos e, if_pos e, mlook_one]
            · rw [if_neg e, if_neg e]; rfl
          rw [hlk]
          refine T2_mk.2 ?_
          have hg0 : ((if dn rs = true then some (Value.agg #[]) else none).getD (.agg #[])) = .agg #[] := by split <;> rfl
          have hg1 : (if dn rs = true then some (Value.agg #[]) else none).isSome = dn rs := by cases dn rs <;> rfl
          rw [hg0, hg1]
          refine OpA_agg.2 ⟨rfl, OpB_bool.2 ?_⟩
          refine copy_of (by kernel_rfl) rfl (by intro v hv; cases hv) fun w8 hb8 k8 z8 => ?_
          have hb78 := k8.has hb7 (by simp)
          refine LdV_has (v := .int .u64 x.ver) hb78 rfl (OpI_int.2 ?_)
          rw [hxv]
          have hG8 := hG7.keep k8 (by simp)
          refine DoQ_of (fun d => run_lookup (P := Tryz.prog) under_grps under_u64 (z := .slice none 0 0) (fun w => run_zeroValue (i := (Tryz.prog.info? 75).get (by kernel_rfl)) (by kernel_rfl) (by kernel_rfl)) (hG8.dr d) v true) ?_
          obtain ⟨sp, sl, sc, hsl⟩ : ∃ sp sl sc, (mlook (gE v (dn rs) (fst4 (rs.take t')) rs q6 c6) v).getD (.slice none 0 0) = .slice sp sl sc := by
            unfold gE
            split
            · exact ⟨_, _, _, rfl⟩
            · split
              · exact ⟨_, _, _, rfl⟩
              · rw [mlook_one]; exact ⟨_, _, _, rfl⟩
          refine T2_mk.2 ?_
          rw [hsl]
          refine OpS_slice.2 (OpB_bool.2 ⟨by trivial, by trivial, ?_⟩)
          cases hd : dn rs with
          | true => exact (Cb_false (p := _)).2 (by have := same w8 k8 (Or.inr hd); rw [hd] at this; exact this)
          | false =>
            cases hF : fst4 (rs.take t') with
            | some n =>
              have : (mlook (gE v false (some n) rs q6 c6) v).isSome = true := by
                show (mlook [(v, Value.slice q6 (grp v (rs.take n)).length c6)] v).isSome = true
                rw [mlook_one]; rfl
              rw [this]
              exact (Cb_false (p := _)).2 (by have := same w8 k8 (Or.inl (by rw [fst4_succ hx, hF])); rw [hd] at this; exact this)
            | none =>
              have : (mlook (gE v false none rs q6 c6) v).isSome = false := rfl
              rw [this]
              refine (Cb_true (q := _)).2 ?_
              intro d
              have kd := Keep.drew (fun _ => False) w8 d
              have hb9 := kd.has hb78 (by simp)
              have k89 := k8.trans kd
              have hM9 := hM7.keep k89 (by simp)
              have hG9 : MapAt .u64 (w8.dr d) m2 [] := by
                have := hG8.keep kd (by simp)
                rw [hd, hF] at this
                exact this
              have k09 := k07.trans k89
              have hq9 := hq.keepB k09 (by simp)
              generalize w8.dr d = w9 at *
              generalize w6.heap.size = b6 at *
              refine ⟨fun w' => Has w' b6 (.cells (recV x) 246 (0, 0)), hb9, ?_⟩
              refine LdV_of (v := .int .u64 x.ver) (fun w' hw => ⟨_, _, _, hw, rfl⟩) (OpI_int.2 ?_)
              rw [hxv]
              refine Slc_hiN (hi := t') (by omega) ?_
              have hsub := hq9.sub (lo := 0) (hi := t') (m := qc) (by omega) (by omega) (by omega)
              rw [List.drop_zero] at hsub
              refine LdV_has (v := .int .u64 x.ver) hb9 rfl (OpI_int.2 ?_)
              rw [hxv]
              refine i_group hsub (by omega) (fun y hy => hlba y (List.mem_of_mem_take hy)) fun p' c' w10 o10 k10 => OpS_slice.2 ⟨k10.has hb9 (by simp), ?_⟩
              have hM10 := hM9.keep k10 (by simp)
              have hG10 := hG9.keep k10 (by simp)
              obtain ⟨arr, clk, hr11, ho11⟩ := run_mapUpdate (P := Tryz.prog) under_grps under_u64 hG10 v (.slice p' (grp v (rs.take t')).length c')
              refine ⟨_, hr11, ?_⟩
              rw [ins_nil] at ho11
              have ku := Keep.one w10 m2 (.map arr clk)
              obtain ⟨ar0, ck0, hH0, _⟩ := hG10
              have hb10 := k10.has hb9 (by simp)
              have h26 : b6 ≠ m2 := fun e => by
                have := hH0
                rw [← e] at this
                exact absurd (this.symm.trans hb10) (by simp)
              have zw9 : m1 ≤ w9.heap.size := by have := k09.size; omega
              have hF' : fst4 (rs.take (t' + 1)) = some t' := by rw [fst4_succ hx, hF, if_pos e4]
              refine ⟨ku.has hb10 h26, _, hless, ⟨t' + 1, p', c', ek, by omega, (by have := hM10.keep ku (by omega); rw [hd] at this; exact this), ?_, fun n _ hn => ?_, (k09.trans k10).trans' ku fun i hi e => by omega⟩, rfl⟩
              · rw [hF']
                exact ⟨arr, clk, Has.upd_same hH0 _, ho11⟩
              · rw [hF'] at hn
                cases hn
                have o10' := o10.rebase zw9
                refine o10'.keep ku fun k hk e => ?_
                rcases Own.cases o10' with ⟨h0, _⟩ | ⟨b', cur, h0, _, hg', _⟩
                · rw [h0] at hk; cases hk
                · rw [h0] at hk; cases hk
                  rw [e] at hg'
                  exact absurd (hg'.symm.trans hH0) (by simp)
      · have hc : t' = ql := by
          have : ¬ (t' : Int) < (ql : Int) := by simpa using hc
          omega
        rw [List.take_of_length_le (by omega)] at hG6 hO6
        exact ⟨_, by show (1 - IntKind.wrap .i64 ((0 : Int) + 1)).toNat < (1 - (0 : Int)).toNat; decide, Or.inr ⟨by first | rfl | trivial, q6, c6, hG6, hO6, k6⟩, rfl⟩
    · simp only at hj ⊢
      subst hj
      refine (Cb_false (p := _)).2 ?_
      obtain ⟨w6, hr6, hI6, k6⟩ := run_rangeM (P := Tryz.prog) under_grps hG5
      refine ⟨_, _, hr6, OpN_some.2 ?_⟩
      have hG6 := hG5.keep k6 (by simp)
      have k06 := k5.trans k6
      have hO6 : ∀ n, dn rs = false → fst4 rs = some n → OwnL puLay w6 m1 88 q5 (grp v (rs.take n)).length c5 (grp v (rs.take n)) := fun n h1 h2 => (hO5 n h1 h2).keep k6 (by simp)
      have z5 := k5.size
      have hm5 := hG5.lt
      have zri : w5.heap.size < w6.heap.size := hI6.lt.1
      generalize hri : w5.heap.size = ri at *
      -- the versions
      refine LoopC_of (σ := (Option Addr × Nat × Nat) × Unit) (fun st w' => Keep (fun _ => False) w w' ∧ MapAt .u64 w' m2 (gE v (dn rs) (fst4 rs) rs q5 c5) ∧ (∀ n, dn rs = false → fst4 rs = some n → OwnL puLay w' m1 88 q5 (grp v (rs.take n)).length c5 (grp v (rs.take n))) ∧ ((st.1 = (none, 0, 0) ∧ Iter .u64 w' ri m2 (gE v (dn rs) (fst4 rs) rs q5 c5)) ∨ (st.1.2.1 = 1 ∧ OwnL uLay w' (ri + 1) 39 st.1.1 1 st.1.2.2 [v] ∧ Iter .u64 w' ri m2 [] ∧ ∃ n, dn rs = false ∧ fst4 rs = some n))) (fun st _ => 1 - st.1.2.1)
        ⟨k06, hG6, hO6, Or.inl ⟨rfl, hI6⟩⟩ ?_
      rintro _ ⟨⟨op, ol, oc⟩, u⟩ w7 ⟨k7, hG7, hO7, hst⟩
      simp only at hst ⊢
      have hnx : ∃ left, Iter .u64 w7 ri m2 left ∧ ((left = gE v (dn rs) (fst4 rs) rs q5 c5 ∧ (op, ol, oc) = (none, 0, 0)) ∨ (left = [] ∧ ol = 1 ∧ OwnL uLay w7 (ri + 1) 39 op 1 oc [v] ∧ ∃ n, dn rs = false ∧ fst4 rs = some n)) := by
        rcases hst with ⟨e, hI⟩ | ⟨e, ho, hI, hn⟩
        · exact ⟨_, hI, Or.inl ⟨rfl, e⟩⟩
        · exact ⟨_, hI, Or.inr ⟨rfl, e, ho, hn⟩⟩
      obtain ⟨left, hI7, hcase⟩ := hnx
      rcases run_nextM (P := Tryz.prog) (ty := 0) hI7 with ⟨hnil, hr8⟩ | ⟨x, y, left', w8, hp8, hr8, hI8, hA8, k8⟩
      · refine ⟨_, _, hr8, Or.inr ⟨rfl, ?_⟩⟩
        have hol : ol ≤ 1 := by
          rcases hcase with ⟨_, e⟩ | ⟨_, e, _⟩
          · cases e; omega
          · omega
        refine sort_small hol ?_
        -- all of them
        rcases hcase with ⟨e1, e2⟩ | ⟨_, e2, ho, n, hn1, hn2⟩
        · cases e2
          have hp : pendL v rs = [] := by
            unfold pendL
            rw [hnil] at e1
            by_cases hd : dn rs = true
            · rw [if_pos hd]
            · rw [if_neg hd]
              unfold gE at e1
              rw [if_neg hd] at e1
              cases hF : fst4 rs with
              | none => rfl
              | some n => rw [hF] at e1; cases e1
          refine LoopC_of (σ := (Option Addr × Nat × Nat) × Int × Unit) (fun st w' => st = ((none, 0, 0), 0, ()) ∧ w' = w7) (fun _ _ => 0) ⟨rfl, rfl⟩ ?_
          rintro _ st w9 ⟨rfl, rfl⟩
          refine (Cb_false (p := _)).2 (Ret_nil.2 ?_)
          have hK' := hK none 0 w9
          rw [hp] at hK'
          exact hK' OwnL.nil k7
        · subst e2
          have hp : pendL v rs = grp v (rs.take n) := by
            unfold pendL
            rw [if_neg (by rw [hn1]; decide), hn2]
          have oG := hO7 n hn1 hn2
          have hgl : (grp v (rs.take n)).length ≤ 100000 := by
            have : (grp v (rs.take n)).length ≤ (rs.take n).length := by
              unfold grp
              rw [List.length_map]
              exact List.length_filter_le _ _
            rw [List.length_take] at this
            omega
          refine LoopC_of (σ := (Option Addr × Nat × Nat) × Int × Unit) (fun st w' => (st = ((none, 0, 0), 0, ()) ∧ w' = w7) ∨ (st.2.1 = 1 ∧ OwnL puLay w' m1 88 st.1.1 st.1.2.1 st.1.2.2 (pendL v rs) ∧ Keep (fun _ => False) w w')) (fun st _ => (1 - st.2.1).toNat) (Or.inl ⟨rfl, rfl⟩) ?_
          rintro _ ⟨⟨ap, al, ac⟩, t, u⟩ w9 (⟨e, rfl⟩ | ⟨e, o9, k9⟩)
          · cases e
            refine (Cb_true (q := _)).2 ?_
            refine ho.sl.ld0 (i := 0) (n := 1) (x := v) (v := .int .u64 v) rfl (by omega) rfl rfl (OpI_int.2 ?_)
            refine DoQ_of (fun d => run_lookup (P := Tryz.prog) under_grps under_u64 (z := .slice none 0 0) (fun w => run_zeroValue (i := (Tryz.prog.info? 75).get (by kernel_rfl)) (by kernel_rfl) (by kernel_rfl)) (hG7.dr d) v false) ?_
            have hlk : (mlook (gE v (dn rs) (fst4 rs) rs q5 c5) v).getD (.slice none 0 0) = .slice q5 (grp v (rs.take n)).length c5 := by
              rw [hn1, hn2]
              show (mlook [(v, Value.slice q5 (grp v (rs.take n)).length c5)] v).getD _ = _
              rw [mlook_one]; rfl
            show OpS ((mlook (gE v (dn rs) (fst4 rs) rs q5 c5) v).getD (.slice none 0 0)) _
            rw [hlk]
            refine OpS_slice.2 ?_
            have zw9 : m1 ≤ w9.heap.size := by have := k7.size; omega
            obtain ⟨p10, c10, w10, hr10, o10, k10⟩ := run_appendL puLayT (OwnL.nil (L := puLay) (w := w9) (base := m1) (e := 88)) oG.sl (ty := 75) (c2 := c5) (by omega) (by simp only [maxLen]; omega) zw9
            refine ⟨_, _, hr10, OpS_slice.2 ?_⟩
            rw [Nat.zero_add, List.nil_append] at o10
            refine ⟨_, by show (1 - IntKind.wrap .i64 ((0 : Int) + 1)).toNat < (1 - (0 : Int)).toNat; decide, Or.inr ⟨by first | rfl | trivial, ?_, k7.trans' k10 fun i hi e => by cases e⟩, rfl⟩
            show OwnL puLay w10 m1 88 p10 (0 + (grp v (rs.take n)).length) c10 (pendL v rs)
            rw [hp, Nat.zero_add]
            exact o10
          · simp only at e o9 ⊢
            subst e
            refine (Cb_false (p := _)).2 (Ret_nil.2 ?_)
            have e := o9.length
            subst e
            exact hK ap ac w9 o9 k9
      · rcases hcase with ⟨e1, e2⟩ | ⟨e1, _⟩
        · cases e2
          have hone : ∃ n, dn rs = false ∧ fst4 rs = some n ∧ x = v ∧ left' = [] := by
            rw [e1] at hp8
            unfold gE at hp8
            cases hd : dn rs with
            | true =>
              rw [hd, if_pos rfl] at hp8
              exact absurd hp8.length_eq (by simp)
            | false =>
              rw [hd, if_neg (by decide)] at hp8
              cases hF : fst4 rs with
              | none => rw [hF] at hp8; exact absurd hp8.length_eq (by simp)
              | some n =>
                rw [hF] at hp8
                have hl := hp8.length_eq
                have : left' = [] := List.eq_nil_of_length_eq_zero (by simpa using hl)
                subst this
                have hm := hp8.mem_iff (a := (x, y))
                have : (x, y) ∈ [(v, Value.slice q5 (grp v (rs.take n)).length c5)] := hm.2 (by simp)
                have e := List.mem_singleton.1 this
                exact ⟨n, rfl, rfl, by rw [Prod.mk.injEq] at e; exact e.1, rfl⟩
          obtain ⟨n, hn1, hn2, rfl, rfl⟩ := hone
          refine ⟨_, _, hr8, Or.inl ⟨_, _, rfl, ?_⟩⟩
          refine DoQ_of (fun d => run_entryM (hA8.keep (Keep.drew (fun _ => False) w8 d) (by simp) (by simp))) ?_
          refine T2_mk.2 (OpI_int.2 ?_)
          refine ⟨_, _, bsl_u1 _ w8, OpS_slice.2 ?_⟩
          have k9 := Keep.new (fun _ => False) w8 (.cells #[.int .u64 x] 39)
          have hb9 := Has.new w8 (.cells #[.int .u64 x] 39)
          generalize w8.alloc (.cells #[.int .u64 x] 39) = w9 at *
          have hI9 := hI8.keep k9 (by simp) (by simp)
          have zri8 : ri < w8.heap.size := hI8.lt.1
          obtain ⟨p10, c10, w10, hr10, o10, k10, _⟩ := run_appendF1 uLayT (OwnL.nil (L := uLay) (w := w9) (base := ri + 1) (e := 39)) (y := x) hb9 rfl (ty := 302) (by omega) (by simp only [maxLen]; omega) (by have := k9.size; omega) (c2 := 1)
          refine ⟨_, _, hr10, OpS_slice.2 ?_⟩
          have k10' : Keep (fun _ => False) w9 w10 := k10.mono fun k hk => by cases hk
          have k7_10 : Keep (fun i => i = ri) w7 w10 := k8.trans ((k9.trans k10').mono fun _ h => h.elim)
          have hri7 : m1 ≤ ri := by omega
          refine ⟨_, by show 1 - 1 < 1 - 0; decide, ⟨k7.trans' k7_10 fun i hi e => by omega, hG7.keep k7_10 (fun e => by have := hI7.ne; omega), fun n h1 h2 => ?_, Or.inr ⟨rfl, by simpa using o10, hI9.keep k10' (by simp) (by simp), n, hn1, hn2⟩⟩, rfl⟩
          refine (hO7 n h1 h2).keep k7_10 fun k hk e => ?_
          obtain ⟨since, seen, c0, arr, clk, es, g1, _⟩ := hI7
          rcases Own.cases (hO7 n h1 h2) with ⟨h0, _⟩ | ⟨b', cur, h0, _, hg', _⟩
          · rw [h0] at hk; cases hk
          · rw [h0] at hk; cases hk
            rw [e] at hg'
            exact absurd (hg'.symm.trans g1) (by simp)
        · rw [e1] at hp8
          exact absurd hp8.length_eq (by simp)
end calls
end Go.Proofs
