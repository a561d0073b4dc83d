/-
  THE JOURNAL: Pending of any lists, as far as their versions can be sorted; Redo.
-/
import Derived.Test.YthhimblbnnafkaaGreatIntQ
import Derived.Test.YthhimblbnnafkaaGreatRams
import Derived.Test.YthhimblbnnafkaaGreatRedoM
namespace Go.Proofs
open Go Go.Ev Go.RowKit
set_option linter.unusedSimpArgs false
set_option linter.unusedVariables false
set_option maxRecDepth 100000

def doneV (D : List Rec) (v : Int) : Bool := D.any fun x => x.kind == 5 && x.ver == v
def gStep (D pre : List Rec) (x : Rec) (G : List (Int × List PutS)) : List (Int × List PutS) :=
  if x.kind = 4 ∧ doneV D x.ver = false ∧ mlook G x.ver = none then ins G x.ver (grp x.ver pre) else G
def gList (D : List Rec) : List Rec → List Rec → List (Int × List PutS) → List (Int × List PutS)
  | _, [], G => G
  | pre, x :: xs, G => gList D (pre ++ [x]) xs (gStep D pre x G)
def gLists (D : List Rec) : List (List Rec) → List (Int × List PutS) → List (Int × List PutS)
  | [], G => G
  | l :: ls, G => gLists D ls (gList D [] l G)
def sortU (l : List Int) : List Int := l.mergeSort fun a b => decide (a ≤ b)
/-- the groups that are whole and not written -/
def pendG (LL : List (List Rec)) : List (Int × List PutS) := gLists LL.flatten LL []
/-- their cells, by rising versions -/
def pendS (LL : List (List Rec)) : List PutS := (sortU ((pendG LL).map (·.1))).flatMap fun v => (mlook (pendG LL) v).getD []
theorem sortU_perm (l : List Int) : (sortU l).Perm l := List.mergeSort_perm _ _
theorem sortU_up (l : List Int) : (sortU l).Pairwise (· ≤ ·) := by
  have := List.pairwise_mergeSort (le := fun a b : Int => decide (a ≤ b)) (fun a b c h1 h2 => by simp only [decide_eq_true_eq] at *; omega) (fun a b => by
    by_cases h : a ≤ b
    · simp [h]
    · have : b ≤ a := by omega
      simp [this]) l
  exact this.imp fun h => by simpa using h
theorem sortU_eq {a b : List Int} (h : a.Perm b) : sortU a = sortU b :=
  List.Perm.eq_of_pairwise (le := (· ≤ ·)) (fun x y _ _ h1 h2 => by omega) (sortU_up a) (sortU_up b) ((sortU_perm a).trans (h.trans (sortU_perm b).symm))
theorem doneV_succ {D : List Rec} {i : Nat} {x : Rec} (hx : D[i]? = some x) (v : Int) : doneV (D.take (i + 1)) v = (doneV (D.take i) v || (x.kind == 5 && x.ver == v)) := by
  unfold doneV
  rw [List.take_add_one, hx, List.any_append]
  simp
theorem gList_at {D l : List Rec} {i : Nat} {x : Rec} {G : List (Int × List PutS)} (hx : l[i]? = some x) : gList D (l.take i) (l.drop i) G = gList D (l.take (i + 1)) (l.drop (i + 1)) (gStep D (l.take i) x G) := by
  have hi : i < l.length := (List.getElem?_eq_some_iff.1 hx).1
  have e1 : l.drop i = x :: l.drop (i + 1) := by
    rw [List.drop_eq_getElem_cons hi]
    congr 1
    exact (List.getElem?_eq_some_iff.1 hx).2
  have e2 : l.take (i + 1) = l.take i ++ [x] := by rw [List.take_add_one, hx]; rfl
  rw [e1, e2]
  rfl
theorem ins_new {α : Type} {es : List (Int × α)} {x : Int} {v : α} (h : mlook es x = none) : ins es x v = es ++ [(x, v)] := by
  have : es.any (fun p => p.1 == x) = false := by
    unfold mlook at h
    cases hf : es.find? (fun p => p.1 == x) with
    | some p => rw [hf] at h; cases h
    | none =>
      rw [List.find?_eq_none] at hf
      rw [List.any_eq_false]
      exact hf
  unfold ins
  rw [this]
  rfl
/-- the library's sort of rows of at most N numbers -/
def SortTo (N : Nat) : Prop := ∀ (p : Option Addr) (l c base : Nat) (xs : List Int) (w : World) (R : Value → World → Prop), l ≤ N → OwnL uLay w base 39 p l c xs → (∀ x ∈ xs, 0 ≤ x ∧ x ≤ 18446744073709551615) →
  (∀ w', OwnL uLay w' base 39 p l c (sortU xs) → Keep (fun k => p = some ⟨k, 0, none⟩) w w' → R (.tuple #[]) w') → CallV Tryz.prog 203 #[.slice p l c] w R
theorem sort_to1 : SortTo 1 := fun p l c base xs w R hl o hx hK => by
  refine sort_small hl (hK w ?_ (Keep.refl _ _))
  have e : sortU xs = xs := by
    have hlen := o.length
    match xs, hlen with
    | [], _ => simp [sortU]
    | [x], _ => simp [sortU, List.mergeSort]
    | _ :: _ :: _, h => simp at h; omega
  rw [e]; exact o
theorem lists_of {w : World} {lp : Option Addr} {ll : Nat} {Q : List (Option Addr × Nat × Nat)} {LL : List (List Rec)} (h : SlL hLay w lp ll Q) (hQ : Q.length = LL.length) (hq : ∀ (i : Nat) (q : Option Addr × Nat × Nat) (rs : List Rec), Q[i]? = some q → LL[i]? = some rs → SlL rLay w q.1 q.2.1 rs) : Lists w lp ll LL := by
  have hl := h.1
  refine ⟨by omega, fun i => Q.getD i (none, 0, 0), fun i hi => ⟨rfl, ?_⟩, fun i hi => ?_⟩
  · have hlt : i < Q.length := by omega
    obtain ⟨b, o, hp, hc⟩ := h.2 i Q[i] (List.getElem?_eq_getElem hlt)
    have e : Q.getD i (none, 0, 0) = Q[i] := by rw [List.getD_eq_getElem?_getD, List.getElem?_eq_getElem hlt]; rfl
    exact ⟨b, o, hp, fun j hj => by show _ = [Value.slice (Q.getD i (none, 0, 0)).1 (Q.getD i (none, 0, 0)).2.1 (Q.getD i (none, 0, 0)).2.2][j]?; rw [e]; exact hc j hj⟩
  · have hlt : i < Q.length := by omega
    have hlt2 : i < LL.length := by omega
    have e : Q.getD i (none, 0, 0) = Q[i] := by rw [List.getD_eq_getElem?_getD, List.getElem?_eq_getElem hlt]; rfl
    have e2 : LL.getD i [] = LL[i] := by rw [List.getD_eq_getElem?_getD, List.getElem?_eq_getElem hlt2]; rfl
    show RecSl w (Q.getD i (none, 0, 0)).1 (Q.getD i (none, 0, 0)).2.1 (LL.getD i [])
    rw [e, e2]
    exact recSl_of (hq i _ _ (List.getElem?_eq_getElem hlt) (List.getElem?_eq_getElem hlt2))
/-- a group's row, and its cells -/
abbrev GH := (Option Addr × Nat × Nat) × List PutS
def hdrG (y : GH) : Value := .slice y.1.1 y.1.2.1 y.1.2.2
def RowsG (w : World) (H : List (Int × GH)) : Prop := ∀ e ∈ H, SlT puLay w 88 e.2.1.1 e.2.1.2.1 e.2.1.2.2 e.2.2 ∧ e.2.1.2.1 ≤ 100000
theorem RowsG.keep {w w' : World} {H : List (Int × GH)} {S : Nat → Prop} (h : RowsG w H) (k : Keep S w w') (hS : ∀ i cur, Has w i (.cells cur 88 (0, 0)) → ¬ S i) : RowsG w' H :=
  fun e he => ⟨(h e he).1.keepB k hS, (h e he).2⟩
theorem mlook_in {α : Type} {es : List (Int × α)} {x : Int} {e : α} (h : mlook es x = some e) : (x, e) ∈ es := by
  unfold mlook at h
  cases hf : es.find? (fun p => p.1 == x) with
  | none => rw [hf] at h; cases h
  | some p =>
    rw [hf] at h
    cases h
    have h1 := List.find?_some hf
    have h2 := List.mem_of_find?_eq_some hf
    have h3 : p.1 = x := by simpa using h1
    rw [← h3]
    exact h2
theorem in_mlook {α : Type} {es : List (Int × α)} {x : Int} (h : x ∈ es.map (·.1)) : ∃ e, mlook es x = some e := by
  unfold mlook
  cases hf : es.find? (fun p => p.1 == x) with
  | some p => exact ⟨_, rfl⟩
  | none =>
    obtain ⟨p, hp, hx⟩ := List.mem_map.1 h
    rw [List.find?_eq_none] at hf
    exact absurd (by simpa using hx) (hf p hp)
theorem grp_len {v : Int} {rs : List Rec} : (grp v rs).length ≤ rs.length := by
  unfold grp
  rw [List.length_map]
  exact List.length_filter_le _ _
section calls
variable {w : World} {R : Value → World → Prop}
theorem i_PendingG {N : Nat} (hs : SortTo N) {lp : Option Addr} {ll lc : Nat} {Q : List (Option Addr × Nat × Nat)} {LL : List (List Rec)} (h : SlL hLay w lp ll Q) (hQ : Q.length = LL.length)
    (hq : ∀ (i : Nat) (q : Option Addr × Nat × Nat) (rs : List Rec), Q[i]? = some q → LL[i]? = some rs → SlL rLay w q.1 q.2.1 rs ∧ q.2.1 ≤ q.2.2) (hll : ll ≤ 1000) (hl : LL.flatten.length ≤ 100000) (hlba : ∀ x ∈ LL.flatten, 0 ≤ x.lba ∧ x.lba ≤ 2147483647)
    (hver : ∀ x ∈ LL.flatten, 0 ≤ x.ver ∧ x.ver ≤ 18446744073709551615) (hN : (pendG LL).length ≤ N) (hN2 : N ≤ 1000)
    (hK : ∀ p' c' w', OwnL puLay w' w.heap.size 88 p' (pendS LL).length c' (pendS LL) → Keep (fun _ => False) w w' → R (.slice p' (pendS LL).length c') w') :
    CallV Tryz.prog 132 #[.slice lp ll lc] w R := by
  apply C_intent_Pending
  unfold F_intent_Pending
  have hlen := h.1
  have hmem : ∀ (i : Nat) (rs : List Rec), LL[i]? = some rs → ∀ x ∈ rs, x ∈ LL.flatten := fun i rs hi x hx => List.mem_flatten.2 ⟨rs, List.mem_of_getElem? hi, hx⟩
  have hsub : ∀ (i : Nat) (rs : List Rec), LL[i]? = some rs → rs.length ≤ 100000 := fun i rs hi => by
    have := (List.sublist_flatten_of_mem (List.mem_of_getElem? hi)).length_le
    omega
  refine ⟨_, _, run_makeMap, OpM_map.2 ?_⟩
  have k1 := Keep.new (fun _ => False) w (.map #[] 0)
  have hM1 : MapAt .u64 (w.alloc (.map #[] 0)) w.heap.size [] := ⟨_, _, Has.new _ _, MapOk.nil _⟩
  have z1 : (w.alloc (.map #[] 0)).heap.size = w.heap.size + 1 := by simp
  generalize w.alloc (.map #[] 0) = w1 at *
  generalize hm1 : w.heap.size = m1 at *
  refine concat_recs (lists_of (h.keepB k1 (by simp)) hQ fun i q rs h1 h2 => ((hq i q rs h1 h2).1).keepB k1 (by simp)) (by omega) (by show LL.flatten.length ≤ _; omega) fun p2 l2 c2 w2 o2 k2 => OpS_slice.2 ?_
  have o2 : OwnL rLay w2 w1.heap.size 246 p2 l2 c2 LL.flatten := o2
  have k02 := k1.trans k2
  have hl2 : l2 = LL.flatten.length := o2.length
  generalize hD : LL.flatten = D at *
  -- which are written
  refine LoopC_of (σ := Int × Unit) (fun st w' => ∃ (i : Nat) (E : List (Int × Value)), st.1 = (i : Int) ∧ i ≤ l2 ∧ MapAt .u64 w' m1 E ∧ (∀ v, mlook E v = if doneV (D.take i) v = true then some (.agg #[]) else none) ∧ OwnL rLay w' w1.heap.size 246 p2 l2 c2 D ∧ Keep (fun _ => False) w w') (fun st _ => ((l2 : Int) - st.1).toNat)
    ⟨0, [], rfl, by omega, hM1.keep k2 (by simp), fun v => by simp [doneV, mlook], o2, k02⟩ ?_
  rintro _ ⟨i, u⟩ w3 ⟨i', E, hi, hil, hM3, hE, o3, k3⟩
  simp only at hi ⊢
  subst hi
  refine Cb_of (fun hc => ?_) (fun hc => ?_)
  · have hc : i' < l2 := by
      have : (i' : Int) < (l2 : Int) := by simpa using hc
      omega
    have ek : IntKind.wrap .i64 ((i' : Int) + 1) = ((i' + 1 : Nat) : Int) := by rw [wrapI (by omega) (by omega)]; omega
    have hless : ((l2 : Int) - IntKind.wrap .i64 ((i' : Int) + 1)).toNat < ((l2 : Int) - (i' : Int)).toNat := by rw [ek]; omega
    obtain ⟨x, hx⟩ : ∃ x, D[i']? = some x := ⟨_, List.getElem?_eq_getElem (by omega)⟩
    refine o3.sl.ldA (i := (i' : Int)) (n := 19) (x := x) rfl (by omega) (by rw [Int.toNat_natCast]; exact hx) ?_
    rw [rc_row]
    refine copy_of zc_rc rfl (one_recL x) fun w4 hb4 k4 z4 => ?_
    have hM4 := hM3.keep k4 (by simp)
    have o4 := o3.keep k4 (by simp)
    refine LdV_has (v := .int .i64 x.kind) hb4 rfl (OpI_int.2 ?_)
    refine Cb_of (fun e5 => ?_) (fun e5 => ?_)
    · refine LdV_has (v := .int .u64 x.ver) hb4 rfl (OpI_int.2 ?_)
      refine DoQ_of (v := .agg #[]) (fun _ => run_build _ _ _ _ (by kernel_rfl)) (OpA_agg.2 ⟨rfl, ?_⟩)
      obtain ⟨arr, clk, hr5, ho5⟩ := run_mapUpdate (P := Tryz.prog) under_done under_u64 hM4 x.ver (.agg #[])
      refine ⟨_, hr5, ?_⟩
      have ku := Keep.one w4 m1 (.map arr clk)
      have hlt := hM4.lt
      obtain ⟨ar0, ck0, hH0, _⟩ := hM4
      refine ⟨_, hless, ⟨i' + 1, ins E x.ver (.agg #[]), ek, by omega, ⟨arr, clk, Has.upd_same hH0 _, ho5⟩, fun v => ?_, o4.keep ku fun k hk e => by have := (o4.lt hk).1; omega, ((k3.trans k4).trans' ku fun i hi e => by omega)⟩, rfl⟩
      rw [look_ins, doneV_succ hx, e5, Bool.true_and, hE]
      by_cases e : v = x.ver
      · subst e; simp
      · have : (x.ver == v) = false := beq_eq_false_iff_ne.2 fun h => e h.symm
        rw [if_neg e, this, Bool.or_false]
    · refine ⟨_, hless, ⟨i' + 1, E, ek, by omega, hM4, fun v => ?_, o4, k3.trans k4⟩, rfl⟩
      rw [doneV_succ hx, e5, Bool.false_and, Bool.or_false, hE]
  · have hc : i' = l2 := by
      have : ¬ (i' : Int) < (l2 : Int) := by simpa using hc
      omega
    rw [List.take_of_length_le (by omega)] at hE
    clear hc o3
    refine ⟨_, _, run_makeMap, OpM_map.2 ?_⟩
    have k4 := Keep.new (fun _ => False) w3 (.map #[] 0)
    have hG4 : MapAt .u64 (w3.alloc (.map #[] 0)) w3.heap.size [] := ⟨_, _, Has.new _ _, MapOk.nil _⟩
    have hM4 := hM3.keep k4 (by simp)
    have z4 : (w3.alloc (.map #[] 0)).heap.size = w3.heap.size + 1 := by simp
    generalize w3.alloc (.map #[] 0) = w4 at *
    have k04 := k3.trans k4
    have zm1 : m1 < w3.heap.size := hM3.lt
    generalize hm2 : w3.heap.size = m2 at *
    -- the groups
    refine LoopC_of (σ := Int × Unit) (fun st w' => ∃ (i : Nat) (H : List (Int × GH)), st.1 = (i : Int) ∧ i ≤ ll ∧ MapAt .u64 w' m1 E ∧ MapAt .u64 w' m2 (tag hdrG H) ∧ RowsG w' H ∧ gLists D (LL.drop i) (tag (fun y => y.2) H) = pendG LL ∧ Keep (fun _ => False) w w') (fun st _ => ((ll : Int) - st.1).toNat)
      ⟨0, [], rfl, by omega, hM4, hG4, fun e he => by simp at he, by rw [List.drop_zero]; unfold pendG; rw [hD]; rfl, k04⟩ ?_
    rintro _ ⟨j, u⟩ w5 ⟨j', H, hj, hjl, hM5, hG5, hR5, hgl, k5⟩
    simp only at hj ⊢
    subst hj
    refine Cb_of (fun hc => ?_) (fun hc => ?_)
    · have hc : j' < ll := by
        have : (j' : Int) < (ll : Int) := by simpa using hc
        omega
      have ekj : IntKind.wrap .i64 ((j' : Int) + 1) = ((j' + 1 : Nat) : Int) := by rw [wrapI (by omega) (by omega)]; omega
      have hlessj : ((ll : Int) - IntKind.wrap .i64 ((j' : Int) + 1)).toNat < ((ll : Int) - (j' : Int)).toNat := by rw [ekj]; omega
      obtain ⟨q, hqj⟩ : ∃ q, Q[j']? = some q := ⟨_, List.getElem?_eq_getElem (by omega)⟩
      obtain ⟨rs, hrs⟩ : ∃ rs, LL[j']? = some rs := ⟨_, List.getElem?_eq_getElem (by omega)⟩
      obtain ⟨hqs, hqc⟩ := hq j' q rs hqj hrs
      have hql := hqs.1
      have hrl := hsub j' rs hrs
      refine (h.keepB k5 (by simp)).ld0 (i := (j' : Int)) (n := 1) (x := q) (v := .slice q.1 q.2.1 q.2.2) rfl (by omega) (by rw [Int.toNat_natCast]; exact hqj) rfl (OpS_slice.2 ?_)
      have hdr : LL.drop j' = rs :: LL.drop (j' + 1) := by
        have hlt : j' < LL.length := (List.getElem?_eq_some_iff.1 hrs).1
        rw [List.drop_eq_getElem_cons hlt]
        congr 1
        exact (List.getElem?_eq_some_iff.1 hrs).2
      rw [hdr] at hgl
      have hgl : gLists D (LL.drop (j' + 1)) (gList D [] rs (tag (fun y => y.2) H)) = pendG LL := hgl
      refine LoopC_of (σ := Int × Unit) (fun st w' => ∃ (i : Nat) (H' : List (Int × GH)), st.1 = (i : Int) ∧ i ≤ q.2.1 ∧ MapAt .u64 w' m1 E ∧ MapAt .u64 w' m2 (tag hdrG H') ∧ RowsG w' H' ∧ gList D (rs.take i) (rs.drop i) (tag (fun y => y.2) H') = gList D [] rs (tag (fun y => y.2) H) ∧ Keep (fun _ => False) w w') (fun st _ => ((q.2.1 : Int) - st.1).toNat)
        ⟨0, H, rfl, by omega, hM5, hG5, hR5, rfl, k5⟩ ?_
      rintro _ ⟨t, u⟩ w6 ⟨t', H', ht, htl, hM6, hG6, hR6, hg6, k6⟩
      simp only at ht ⊢
      subst ht
      refine Cb_of (fun hc => ?_) (fun hc => ?_)
      · have hc : t' < q.2.1 := by
          have : (t' : Int) < (q.2.1 : Int) := by simpa using hc
          omega
        have ek : IntKind.wrap .i64 ((t' : Int) + 1) = ((t' + 1 : Nat) : Int) := by rw [wrapI (by omega) (by omega)]; omega
        have hless : ((q.2.1 : Int) - IntKind.wrap .i64 ((t' : Int) + 1)).toNat < ((q.2.1 : Int) - (t' : Int)).toNat := by rw [ek]; omega
        obtain ⟨x, hx⟩ : ∃ x, rs[t']? = some x := ⟨_, List.getElem?_eq_getElem (by omega)⟩
        rw [gList_at hx] at hg6
        refine (hqs.keepB k6 (by simp)).ldA (i := (t' : Int)) (n := 19) (x := x) rfl (by omega) (by rw [Int.toNat_natCast]; exact hx) ?_
        rw [rc_row]
        refine copy_of zc_rc rfl (one_recL x) fun w7 hb7 k7 z7 => ?_
        have hM7 := hM6.keep k7 (by simp)
        have hG7 := hG6.keep k7 (by simp)
        have hR7 := hR6.keep k7 (by simp)
        have k07 := k6.trans k7
        have same : ∀ w8, Keep (fun _ => False) w7 w8 → gStep D (rs.take t') x (tag (fun y => y.2) H') = tag (fun y => y.2) H' → ∃ m_1, m_1 < ((q.2.1 : Int) - (t' : Int)).toNat ∧ (∃ (i : Nat) (H'' : List (Int × GH)), IntKind.wrap .i64 ((t' : Int) + 1) = (i : Int) ∧ i ≤ q.2.1 ∧ MapAt .u64 w8 m1 E ∧ MapAt .u64 w8 m2 (tag hdrG H'') ∧ RowsG w8 H'' ∧ gList D (rs.take i) (rs.drop i) (tag (fun y => y.2) H'') = gList D [] rs (tag (fun y => y.2) H) ∧ Keep (fun _ => False) w w8) ∧ ((q.2.1 : Int) - IntKind.wrap .i64 ((t' : Int) + 1)).toNat = m_1 := by
          intro w8 k8 hst
          rw [hst] at hg6
          exact ⟨_, hless, ⟨t' + 1, H', ek, by omega, hM7.keep k8 (by simp), hG7.keep k8 (by simp), hR7.keep k8 (by simp), hg6, k07.trans k8⟩, rfl⟩
        refine LdV_has (v := .int .i64 x.kind) hb7 rfl (OpI_int.2 ?_)
        refine Cb_of (fun e4 => ?_) (fun e4 => ?_)
        · have e4 : ¬ x.kind = 4 := by simpa using e4
          exact same w7 (Keep.refl _ _) (by unfold gStep; rw [if_neg fun h => e4 h.1])
        · have e4 : x.kind = 4 := by simpa using e4
          refine LdV_has (v := .int .u64 x.ver) hb7 rfl (OpI_int.2 ?_)
          refine DoQ_of (fun d => run_lookup (P := Tryz.prog) under_done under_u64 (z := .agg #[]) (fun w => run_zeroValue (i := (Tryz.prog.info? 130).get (by kernel_rfl)) (by kernel_rfl) (by kernel_rfl)) (hM7.dr d) x.ver true) ?_
          rw [hE]
          refine T2_mk.2 ?_
          have hg0 : ((if doneV D x.ver = true then some (Value.agg #[]) else none).getD (.agg #[])) = .agg #[] := by split <;> rfl
          have hg1 : (if doneV D x.ver = true then some (Value.agg #[]) else none).isSome = doneV D x.ver := by cases doneV D x.ver <;> rfl
          rw [hg0, hg1]
          refine OpA_agg.2 ⟨rfl, OpB_bool.2 ?_⟩
          refine copy_of (by kernel_rfl) rfl (by intro v hv; cases hv) fun w8 hb8 k8 z8 => ?_
          have hb78 := k8.has hb7 (by simp)
          refine LdV_has (v := .int .u64 x.ver) hb78 rfl (OpI_int.2 ?_)
          have hG8 := hG7.keep k8 (by simp)
          refine DoQ_of (fun d => run_lookup (P := Tryz.prog) under_grps under_u64 (z := .slice none 0 0) (fun w => run_zeroValue (i := (Tryz.prog.info? 75).get (by kernel_rfl)) (by kernel_rfl) (by kernel_rfl)) (hG8.dr d) x.ver true) ?_
          rw [look_tag]
          refine T2_mk.2 ?_
          obtain ⟨sp, sl, sc, hsl⟩ : ∃ sp sl sc, ((mlook H' x.ver).map hdrG).getD (.slice none 0 0) = .slice sp sl sc := by
            cases mlook H' x.ver with
            | none => exact ⟨_, _, _, rfl⟩
            | some y => exact ⟨_, _, _, rfl⟩
          rw [hsl]
          refine OpS_slice.2 (OpB_bool.2 ⟨by trivial, by trivial, ?_⟩)
          cases hd : doneV D x.ver with
          | true => exact (Cb_false (p := _)).2 (same w8 k8 (by unfold gStep; rw [if_neg fun h => by rw [hd] at h; exact absurd h.2.1 (by decide)]))
          | false =>
            cases hF : mlook H' x.ver with
            | some y =>
              refine (Cb_false (p := _)).2 (same w8 k8 ?_)
              unfold gStep
              rw [if_neg fun h => ?_]
              rw [look_tag, hF] at h
              exact absurd h.2.2 (by simp)
            | none =>
              refine (Cb_true (q := _)).2 ?_
              intro d
              have kd := Keep.drew (fun _ => False) w8 d
              have hb9 := kd.has hb78 (by simp)
              have k89 := k8.trans kd
              have hM9 := hM7.keep k89 (by simp)
              have hG9 := hG8.keep kd (by simp)
              have hR9 := hR7.keep k89 (by simp)
              have k09 := k07.trans k89
              have hq9 := hqs.keepB k09 (by simp)
              generalize w8.dr d = w9 at *
              generalize w6.heap.size = b6 at *
              refine ⟨fun w' => Has w' b6 (.cells (recV x) 246 (0, 0)), hb9, ?_⟩
              refine LdV_of (v := .int .u64 x.ver) (fun w' hw => ⟨_, _, _, hw, rfl⟩) (OpI_int.2 ?_)
              refine Slc_hiN (hi := t') (by omega) ?_
              have hsub := hq9.sub (lo := 0) (hi := t') (m := q.2.2) (by omega) (by omega) (by omega)
              rw [List.drop_zero] at hsub
              refine LdV_has (v := .int .u64 x.ver) hb9 rfl (OpI_int.2 ?_)
              refine i_group hsub (by omega) (fun y hy => hlba y (hmem j' rs hrs y (List.mem_of_mem_take hy))) fun p' c' w10 o10 k10 => OpS_slice.2 ⟨k10.has hb9 (by simp), ?_⟩
              have hM10 := hM9.keep k10 (by simp)
              have hG10 := hG9.keep k10 (by simp)
              have hR10 := hR9.keep k10 (by simp)
              obtain ⟨arr, clk, hr11, ho11⟩ := run_mapUpdate (P := Tryz.prog) under_grps under_u64 hG10 x.ver (.slice p' (grp x.ver (rs.take t')).length c')
              refine ⟨_, hr11, ?_⟩
              have ku := Keep.one w10 m2 (.map arr clk)
              have hG10' := hG10
              obtain ⟨ar0, ck0, hH0, _⟩ := hG10
              have hb10 := k10.has hb9 (by simp)
              have h26 : b6 ≠ m2 := fun e => by
                have := hH0
                rw [← e] at this
                exact absurd (this.symm.trans hb10) (by simp)
              have zw9 : m1 ≤ w9.heap.size := by have := k09.size; omega
              have hput : ∀ k cur, Has w10 k (.cells cur 88 (0, 0)) → ¬ k = m2 := fun k cur hk e => by
                rw [e] at hk
                exact absurd (hk.symm.trans hH0) (by simp)
              have hnew : ins H' x.ver ((p', (grp x.ver (rs.take t')).length, c'), grp x.ver (rs.take t')) = H' ++ [(x.ver, ((p', (grp x.ver (rs.take t')).length, c'), grp x.ver (rs.take t')))] := ins_new hF
              refine ⟨ku.has hb10 h26, _, hless, ⟨t' + 1, ins H' x.ver ((p', (grp x.ver (rs.take t')).length, c'), grp x.ver (rs.take t')), ek, by omega, hM10.keep ku (by omega), ?_, ?_, ?_, (k09.trans k10).trans' ku fun i hi e => by omega⟩, rfl⟩
              · have := ins_tag hdrG H' x.ver ((p', (grp x.ver (rs.take t')).length, c'), grp x.ver (rs.take t'))
                rw [← this]
                exact ⟨arr, clk, Has.upd_same hH0 _, ho11⟩
              · rw [hnew]
                intro e he
                rcases List.mem_append.1 he with he | he
                · exact ⟨((hR10 e he).1).keepB ku hput, (hR10 e he).2⟩
                · rw [List.mem_singleton.1 he]
                  refine ⟨(SlT.of o10).keepB ku hput, ?_⟩
                  have := grp_len (v := x.ver) (rs := rs.take t')
                  rw [List.length_take] at this
                  show (grp x.ver (rs.take t')).length ≤ 100000
                  omega
              · have e1 := ins_tag (fun y : GH => y.2) H' x.ver ((p', (grp x.ver (rs.take t')).length, c'), grp x.ver (rs.take t'))
                rw [← e1, ← hg6]
                have : gStep D (rs.take t') x (tag (fun y => y.2) H') = ins (tag (fun y => y.2) H') x.ver (grp x.ver (rs.take t')) := by
                  unfold gStep
                  rw [if_pos ⟨e4, hd, by rw [look_tag, hF]; rfl⟩]
                rw [this]
      · have hc : t' = q.2.1 := by
          have : ¬ (t' : Int) < (q.2.1 : Int) := by simpa using hc
          omega
        have hdn : rs.drop t' = [] := List.drop_of_length_le (by omega)
        rw [hdn] at hg6
        have hg6 : tag (fun y => y.2) H' = gList D [] rs (tag (fun y => y.2) H) := hg6
        exact ⟨_, hlessj, ⟨j' + 1, H', ekj, by omega, hM6, hG6, hR6, by rw [hg6]; exact hgl, k6⟩, rfl⟩
    · have hc : j' = ll := by
        have : ¬ (j' : Int) < (ll : Int) := by simpa using hc
        omega
      rw [List.drop_of_length_le (by omega)] at hgl
      have hgl : tag (fun y => y.2) H = pendG LL := hgl
      clear hc
      obtain ⟨w6, hr6, hI6, k6⟩ := run_rangeM (P := Tryz.prog) under_grps hG5
      refine ⟨_, _, hr6, OpN_some.2 ?_⟩
      have hG6 := hG5.keep k6 (by simp)
      have hR6 := hR5.keep k6 (by simp)
      have k06 := k5.trans k6
      have z5 := k5.size
      have hm5 := hG5.lt
      have zri : w5.heap.size < w6.heap.size := hI6.lt.1
      generalize hri : w5.heap.size = ri at *
      have hHk : H.map (·.1) = (pendG LL).map (·.1) := by rw [← hgl]; simp [tag]
      have hHl : H.length = (pendG LL).length := by have := congrArg List.length hHk; simpa using this
      have hverH : ∀ x ∈ H.map (·.1), 0 ≤ x ∧ x ≤ 18446744073709551615 := by
        rw [hHk]
        have step : ∀ (pre : List Rec) (xs : List Rec) (G : List (Int × List PutS)), (∀ x ∈ xs, x ∈ D) → (∀ x ∈ G.map (·.1), 0 ≤ x ∧ x ≤ 18446744073709551615) → ∀ x ∈ (gList D pre xs G).map (·.1), 0 ≤ x ∧ x ≤ 18446744073709551615 := by
          intro pre xs
          induction xs generalizing pre with
          | nil => exact fun G _ h => h
          | cons y ys ih =>
            intro G hxs hG
            refine ih _ _ (fun x hx => hxs x (by simp [hx])) ?_
            unfold gStep
            split
            · rename_i hc
              rw [ins_new hc.2.2]
              intro x hx
              rw [List.map_append] at hx
              rcases List.mem_append.1 hx with hx | hx
              · exact hG x hx
              · have : x = y.ver := by simpa using hx
                rw [this]
                exact hver y (hxs y (by simp))
            · exact hG
        have steps : ∀ (ls : List (List Rec)) (G : List (Int × List PutS)), (∀ l ∈ ls, ∀ x ∈ l, x ∈ D) → (∀ x ∈ G.map (·.1), 0 ≤ x ∧ x ≤ 18446744073709551615) → ∀ x ∈ (gLists D ls G).map (·.1), 0 ≤ x ∧ x ≤ 18446744073709551615 := by
          intro ls
          induction ls with
          | nil => exact fun G _ h => h
          | cons l ls ih =>
            intro G hls hG
            exact ih _ (fun l' hl' => hls l' (by simp [hl'])) (step _ _ _ (hls l (by simp)) hG)
        unfold pendG
        rw [hD]
        exact steps LL [] (fun l hl x hx => by rw [← hD]; exact List.mem_flatten.2 ⟨l, hl, hx⟩) (by simp)
      -- the versions
      refine LoopC_of (σ := (Option Addr × Nat × Nat) × Unit) (fun st w' => ∃ (vs : List Int) (left : List (Int × Value)), Keep (fun _ => False) w w' ∧ Keep (fun k => ri ≤ k) w6 w' ∧ MapAt .u64 w' m2 (tag hdrG H) ∧ RowsG w' H ∧ Iter .u64 w' ri m2 left ∧ OwnL uLay w' (ri + 1) 39 st.1.1 st.1.2.1 st.1.2.2 vs ∧ (vs ++ left.map (·.1)).Perm (H.map (·.1))) (fun st _ => H.length - st.1.2.1)
        ⟨[], tag hdrG H, k06, Keep.refl _ _, hG6, hR6, hI6, OwnL.nil, by simp [tag, Function.comp_def]⟩ ?_
      rintro _ ⟨⟨op, ol, oc⟩, u⟩ w7 ⟨vs, left, k7, k67, hG7, hR7, hI7, o7, hp7⟩
      simp only at o7 ⊢
      have hlp := hp7.length_eq
      rw [List.length_append, List.length_map, List.length_map] at hlp
      have hol := o7.length
      rcases run_nextM (P := Tryz.prog) (ty := 0) hI7 with ⟨hnil, hr8⟩ | ⟨x, y, left', w8, hp8, hr8, hI8, hA8, k8⟩
      · refine ⟨_, _, hr8, Or.inr ⟨rfl, ?_⟩⟩
        subst hnil
        rw [List.map_nil, List.append_nil] at hp7
        refine hs op ol oc (ri + 1) vs w7 _ (by omega) o7 (fun x hx => hverH x (hp7.mem_iff.1 hx)) fun w8 o8 k8 => ?_
        have hsv : sortU vs = sortU ((pendG LL).map (·.1)) := sortU_eq (by rw [← hHk]; exact hp7)
        rw [hsv] at o8
        have ko8 : Keep (fun k => ri + 1 ≤ k) w7 w8 := k8.mono fun k hk => (o7.lt hk).1
        have hm2r : m2 < ri := by omega
        have hG8 := hG7.keep ko8 (by omega)
        have k08 : Keep (fun _ => False) w w8 := k7.trans' ko8 fun i hi e => by omega
        have hR8 : RowsG w8 H := hR7.keep k8 fun k cur hk e => by
          have h9 := o7
          rcases Own.cases h9 with ⟨h0, _⟩ | ⟨b', cur', h0, _, hg', _⟩
          · rw [h0] at e; cases e
          · rw [h0] at e; cases e
            have := hk.inj hg'
            simp only [Obj.cells.injEq] at this
            exact absurd this.2.1 (by decide)
        -- their cells
        generalize hVS : sortU ((pendG LL).map (·.1)) = VS at *
        have hVSp : VS.Perm (H.map (·.1)) := by rw [← hVS, hHk]; exact sortU_perm _
        have hVl : ol = VS.length := o8.length
        have hgr : ∀ v ∈ VS, ∃ y, mlook H v = some y := fun v hv => in_mlook (hVSp.mem_iff.1 hv)
        have hpend : ∀ v, (mlook (pendG LL) v).getD [] = ((mlook H v).map (fun y => y.2)).getD [] := fun v => by rw [← hgl, look_tag]
        refine LoopC_of (σ := (Option Addr × Nat × Nat) × Int × Unit) (fun st w' => ∃ i : Nat, st.2.1 = (i : Int) ∧ i ≤ ol ∧ OwnL puLay w' m1 88 st.1.1 st.1.2.1 st.1.2.2 ((VS.take i).flatMap fun v => (mlook (pendG LL) v).getD []) ∧ (∀ k, st.1.1 = some ⟨k, 0, none⟩ → w8.heap.size ≤ k) ∧ Keep (fun _ => False) w8 w') (fun st _ => ((ol : Int) - st.2.1).toNat)
          ⟨0, rfl, by omega, OwnL.nil, (fun k hk => by cases hk), Keep.refl _ _⟩ ?_
        rintro _ ⟨⟨ap, al, ac⟩, t, u⟩ w9 ⟨t', ht, htl, o9, hap, k9⟩
        simp only at ht o9 hap ⊢
        subst ht
        have hflat : ∀ n, ((VS.take n).flatMap fun v => (mlook (pendG LL) v).getD []).length ≤ n * 100000 := by
          intro n
          induction n with
          | zero => simp
          | succ n ih =>
            rw [List.take_add_one, List.flatMap_append, List.length_append]
            have : ((VS[n]?).toList.flatMap fun v => (mlook (pendG LL) v).getD []).length ≤ 100000 := by
              cases hv : VS[n]? with
              | none => simp
              | some v =>
                obtain ⟨y, hy⟩ := hgr v (List.mem_of_getElem? hv)
                have := (hR8 _ (mlook_in hy))
                simp only [Option.toList_some, List.flatMap_cons, List.flatMap_nil, List.append_nil]
                rw [hpend, hy]
                have h1 := this.1.len
                have h2 := this.2
                simp only at h1 h2
                simp only [Option.map_some, Option.getD_some]
                omega
            omega
        refine Cb_of (fun hc => ?_) (fun hc => ?_)
        · have hc : t' < ol := by
            have : (t' : Int) < (ol : Int) := by simpa using hc
            omega
          have ek : IntKind.wrap .i64 ((t' : Int) + 1) = ((t' + 1 : Nat) : Int) := by rw [wrapI (by omega) (by omega)]; omega
          obtain ⟨v, hv⟩ : ∃ v, VS[t']? = some v := ⟨_, List.getElem?_eq_getElem (by omega)⟩
          obtain ⟨y, hy⟩ := hgr v (List.mem_of_getElem? hv)
          refine (o8.sl.keepB k9 (by simp)).ld0 (i := (t' : Int)) (n := 1) (x := v) (v := .int .u64 v) rfl (by omega) (by rw [Int.toNat_natCast]; exact hv) rfl (OpI_int.2 ?_)
          refine DoQ_of (fun d => run_lookup (P := Tryz.prog) under_grps under_u64 (z := .slice none 0 0) (fun w => run_zeroValue (i := (Tryz.prog.info? 75).get (by kernel_rfl)) (by kernel_rfl) (by kernel_rfl)) ((hG8.keep k9 (by simp)).dr d) v false) ?_
          show OpS ((mlook (tag hdrG H) v).getD (.slice none 0 0)) _
          rw [look_tag, hy]
          refine OpS_slice.2 ?_
          have hy8 := hR8 _ (mlook_in hy)
          have hyl := hy8.1.len
          have hal := o9.length
          have hfl := hflat t'
          obtain ⟨p10, c10, w10, hr10, o10, k10, hw10⟩ := run_appendF puLayT o9 (hy8.1.sl.keepB k9 (by simp)) (ty := 75) (c2 := y.1.2.2) (by have := hy8.2; simp only at this; omega) (by have := hy8.2; simp only at this; simp only [maxLen]; omega) (by have := k9.size; have := k08.size; omega)
          refine ⟨_, _, hr10, OpS_slice.2 ?_⟩
          have k10' : Keep (fun k => w8.heap.size ≤ k) w9 w10 := k10.mono fun k hk => hap k hk
          refine ⟨_, by show ((ol : Int) - IntKind.wrap .i64 ((t' : Int) + 1)).toNat < ((ol : Int) - (t' : Int)).toNat; rw [ek]; omega, ⟨t' + 1, ek, by omega, ?_, ?_, k9.trans' k10' fun i hi e => by omega⟩, rfl⟩
          · have e : ((VS.take (t' + 1)).flatMap fun v => (mlook (pendG LL) v).getD []) = ((VS.take t').flatMap fun v => (mlook (pendG LL) v).getD []) ++ y.2 := by
              rw [List.take_add_one, hv, List.flatMap_append]
              simp only [Option.toList_some, List.flatMap_cons, List.flatMap_nil, List.append_nil]
              rw [hpend, hy]
              rfl
            show OwnL puLay w10 m1 88 p10 (al + y.1.2.1) c10 _
            rw [e]
            exact o10
          · intro k hk
            rcases hw10 with e | e
            · exact hap k (e ▸ hk)
            · have hk : p10 = some ⟨k, 0, none⟩ := hk
              rw [e] at hk
              cases hk
              exact k9.size
        · have hc : t' = ol := by
            have : ¬ (t' : Int) < (ol : Int) := by simpa using hc
            omega
          refine Ret_nil.2 ?_
          rw [List.take_of_length_le (by omega)] at o9
          have e : (VS.flatMap fun v => (mlook (pendG LL) v).getD []) = pendS LL := by unfold pendS; rw [hVS]
          rw [e] at o9
          have e9 := o9.length
          subst e9
          exact hK ap ac w9 o9 (k08.trans k9)
      · refine ⟨_, _, hr8, Or.inl ⟨_, _, rfl, ?_⟩⟩
        refine DoQ_of (fun d => run_entryM (hA8.keep (Keep.drew (fun _ => False) w8 d) (by simp) (by simp))) ?_
        refine T2_mk.2 (OpI_int.2 ?_)
        refine ⟨_, _, bsl_u1 _ w8, OpS_slice.2 ?_⟩
        have k9 := Keep.new (fun _ => False) w8 (.cells #[.int .u64 x] 39)
        have hb9 := Has.new w8 (.cells #[.int .u64 x] 39)
        have zri8 : ri < w8.heap.size := hI8.lt.1
        generalize w8.alloc (.cells #[.int .u64 x] 39) = w9 at *
        have hI9 := hI8.keep k9 (by simp) (by simp)
        have hrow8 : ∀ k, op = some ⟨k, 0, none⟩ → ¬ k = ri := fun k hk e => by have := (o7.lt hk).1; omega
        have o9 : OwnL uLay w9 (ri + 1) 39 op ol oc vs := (o7.keep k8 hrow8).keep k9 (by simp)
        have hplen := hp8.length_eq
        simp only [List.length_cons] at hplen
        obtain ⟨p10, c10, w10, hr10, o10, k10, _⟩ := run_appendF1 uLayT o9 (y := x) hb9 rfl (ty := 302) (by omega) (by simp only [maxLen]; omega) (by have := k9.size; omega) (c2 := 1)
        refine ⟨_, _, hr10, OpS_slice.2 ?_⟩
        have k10' : Keep (fun k => ri + 1 ≤ k) w9 w10 := k10.mono fun k hk => (o9.lt hk).1
        have k7_10 : Keep (fun i => ri ≤ i) w7 w10 := ((k8.mono fun k e => by omega).trans (k9.mono fun _ h => h.elim)).trans (k10'.mono fun k e => by omega)
        have hm2r : m2 < ri := by omega
        refine ⟨_, by show H.length - (ol + 1) < H.length - ol; omega, ⟨vs ++ [x], left', k7.trans' k7_10 fun i hi e => by omega, k67.trans k7_10, hG7.keep k7_10 (by omega), ?_, ?_, o10, ?_⟩, rfl⟩
        · refine ((hR7.keep k8 fun k cur hk e => ?_).keep k9 (by simp)).keep k10 fun k cur hk e => ?_
          · obtain ⟨since, seen, c0, arr, clk, es, g1, _⟩ := hI7
            rw [e] at hk
            exact absurd (hk.symm.trans g1) (by simp)
          · rcases Own.cases o9 with ⟨h0, _⟩ | ⟨b', cur', h0, _, hg', _⟩
            · rw [h0] at e; cases e
            · rw [h0] at e; cases e
              have := hk.inj hg'
              simp only [Obj.cells.injEq] at this
              exact absurd this.2.1 (by decide)
        · exact hI9.keep k10' (by omega) (by omega)
        · refine List.Perm.trans ?_ hp7
          rw [List.append_assoc]
          exact List.Perm.append_left _ (by simpa using (hp8.map (·.1)).symm)
theorem i_RedoG {N : Nat} (hs : SortTo N) {g : Geo} {m : Nat} {bks : List (Nat × Nat)} {s : SS} {base : Nat} {dp : Option Addr} {dc : Nat} (hS : SetAt w ⟨m, g, bks⟩ s) (hDk : OwnL dLay w base 111 dp g.d.toNat dc (bks.map Prod.fst)) {ep : Int} {lp : Option Addr} {ll lc : Nat} {Q : List (Option Addr × Nat × Nat)} {LL : List (List Rec)} (h : SlL hLay w lp ll Q) (hQ : Q.length = LL.length)
    (hq : ∀ (i : Nat) (q : Option Addr × Nat × Nat) (rs : List Rec), Q[i]? = some q → LL[i]? = some rs → SlL rLay w q.1 q.2.1 rs ∧ q.2.1 ≤ q.2.2) (hll : ll ≤ 1000) (hl : LL.flatten.length ≤ 100000) (hlba : ∀ x ∈ LL.flatten, 0 ≤ x.lba ∧ x.lba ≤ 2147483647)
    (hver : ∀ x ∈ LL.flatten, 0 ≤ x.ver ∧ x.ver ≤ 18446744073709551615) (hN : (pendG LL).length ≤ N) (hN2 : N ≤ 1000) (hP : (pendS LL).length ≤ 1000000)
    (hK : ∀ w', SetAt w' ⟨m, g, bks⟩ (applyS g s (pendS LL) ep).2 → Keep (SFoot ⟨m, g, bks⟩) w w' → R (.int .i64 (applyS g s (pendS LL) ep).1) w') :
    CallV Tryz.prog 61 #[.agg (setV g dp g.d.toNat dc), .int .u32 ep, .slice lp ll lc] w R := by
  apply C_intent_Redo
  unfold F_intent_Redo
  refine alc_fresh fun w1 hb1 k1 z1 => ?_
  refine LdA_all hb1 rfl ?_
  refine st_Check (hS.keep0 k1) (hDk.keep k1 (by simp)).sl hDk.cap.1 fun w2 k2 => OpI_int.2 ((Cb_false (p := _)).2 ?_)
  have k02 := k1.trans k2
  have hb2 := k2.has hb1 (by simp)
  refine ⟨fun st' w' => SetAt w' ⟨m, g, bks⟩ (applyS g s (pendS LL) ep).2 ∧ Keep (SFoot ⟨m, g, bks⟩) w w' ∧ st'.1 = (applyS g s (pendS LL) ep).1, ?_, ?_⟩
  · intro d
    have kd := k02.trans (Keep.drew (fun _ => False) w2 d)
    have hb3 := hb2.dr d
    generalize w2.dr d = w3 at *
    refine ⟨fun w' => Has w' w.heap.size (.cells (setV g dp g.d.toNat dc) 51 (0, 0)), hb3, ?_⟩
    refine LdA_of (cs := setV g dp g.d.toNat dc) rfl (fun w' hw => ⟨_, _, _, hw, Nat.le_refl 4, rfl⟩) ?_
    refine i_PendingG hs (h.keepB kd (by simp)) hQ (fun i q rs h1 h2 => ⟨((hq i q rs h1 h2).1).keepB kd (by simp), (hq i q rs h1 h2).2⟩) hll hl hlba hver hN hN2 fun p' c' w4 o4 k4 => OpS_slice.2 ⟨k4.has hb3 (by simp), ?_⟩
    have k04 := kd.trans k4
    have hb4 := k4.has hb3 (by simp)
    have hS4 := hS.keep0 k04
    have hD4 := hDk.keep k04 (by simp)
    refine st_Apply hS4 hD4.sl hD4.cap.1 (fun b o e hb => ?_) o4.sl hP (fun b o e hb => ?_) fun w5 hS5 k5 => OpI_int.2 ⟨k5.has hb4 (hS4.typ hb4 (by decide) (by decide) (by decide)), hS5, ((k04.mono fun _ h => h.elim).trans k5), rfl⟩
    · obtain ⟨_, cur, hh⟩ := own_has hD4 b o e
      exact hS4.typ hh (by decide) (by decide) (by decide) hb
    · obtain ⟨_, cur, hh⟩ := own_has o4 b o e
      exact hS4.typ hh (by decide) (by decide) (by decide) hb
  · rintro _ ⟨n, u⟩ w3 ⟨h1, h2, h3⟩
    simp only at h3 ⊢
    subst h3
    exact Ret_nil.2 (hK w3 h1 h2)
end calls
end Go.Proofs
