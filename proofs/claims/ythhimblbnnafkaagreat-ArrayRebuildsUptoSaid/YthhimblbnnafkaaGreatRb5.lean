/-
  SEVERAL TEXTS IN ONE, what is not leaned on left out: ListC, Next, Pair2, After, ArrO, ArrF, WholeP, FailM, WholeX, WholeW, RowsP, StI, ArrQ, ArrQ2, FScrub, ScrubM, Law16M, FDisk2, ReplM, RebV, ArrV, ArrQ3, ArrRW, ArrS, FLaw20.
-/
import Derived.Test.YthhimblbnnafkaaGreatRb4
import Derived.Shelf.SlSortCmp.NoneTotal
import Derived.Test.YthhimblbnnafkaaGreatChecked
namespace Go.Proofs
open Go Go.Ev Go.Sort
set_option linter.unusedSimpArgs false
set_option linter.unusedVariables false
set_option maxRecDepth 100000

/-- the comparison, to the world -/
theorem cmp_list (r s : Rec) (w : World) : Calls Tryz.prog 286 #[.agg (recV r), .agg (recV s)] w fun e w' => e = .returned (.int .i64 (cmpR r s)) ∧ ∃ q os, w' = grow (w.drewN q) os := by
  have key : CallV Tryz.prog 286 #[.agg (recV r), .agg (recV s)] w fun v w' => v = .int .i64 (cmpR r s) ∧ ∃ q os, w' = grow (w.drewN q) os := by
    apply C_cache_Cache_List_1
    unfold F_cache_Cache_List_1
    rw [Alc_iff, Alc_iff]
    have ha := (Has.new w (.cells (recV r) 246)).alloc (y := .cells (recV s) 246)
    have hb := Has.new (w.alloc (.cells (recV r) 246)) (.cells (recV s) 246)
    have hg : ∃ q : Nat, ∀ d, w.drawn ≤ d → ((w.alloc (.cells (recV r) 246)).alloc (.cells (recV s) 246)).dr d = grow (w.drewN (d - w.drawn)) #[.cells (recV r) 246, .cells (recV s) 246] := by
      refine ⟨0, fun d hd => ?_⟩
      have : w.drawn + (d - w.drawn) = d := by omega
      unfold World.dr World.alloc grow World.drewN
      simp only [this]
      congr 1
    obtain ⟨_, hg⟩ := hg
    generalize hw2 : (w.alloc (.cells (recV r) 246)).alloc (.cells (recV s) 246) = w2 at *
    have hdr : w2.drawn = w.drawn := by rw [← hw2]; rfl
    intro d hd
    rw [hdr] at hd
    refine LdV_has (v := .int .u64 r.ver) (ha.dr d) rfl ?_
    simp only [OpI_int]
    refine LdV_has (v := .int .u64 s.ver) (hb.dr d) rfl ?_
    simp only [OpI_int]
    refine ⟨.int .i64 (cmpI r.ver s.ver), ?_, ?_⟩
    · exact Calls.mono (compare_u64 (R := fun v w' => v = .int .i64 (cmpI r.ver s.ver) ∧ w' = w2.dr d) r.ver s.ver (w2.dr d) ⟨rfl, rfl⟩) fun e w' ⟨v, he, hv, hw⟩ => by subst hv; exact ⟨he, hw⟩
    simp only [OpI_int]
    refine LdV_has (v := .int .i64 r.lba) (ha.dr d) rfl ?_
    simp only [OpI_int]
    refine LdV_has (v := .int .i64 s.lba) (hb.dr d) rfl ?_
    simp only [OpI_int]
    refine ⟨.int .i64 (cmpI r.lba s.lba), ?_, ?_⟩
    · exact Calls.mono (compare_int (R := fun v w' => v = .int .i64 (cmpI r.lba s.lba) ∧ w' = w2.dr d) r.lba s.lba (w2.dr d) ⟨rfl, rfl⟩) fun e w' ⟨v, he, hv, hw⟩ => by subst hv; exact ⟨he, hw⟩
    simp only [OpI_int]
    refine ⟨_, _, run_buildSlice (w2.dr d) 69 3 2 _ #[.int .i64 (cmpI r.ver s.ver), .int .i64 (cmpI r.lba s.lba)] ((Tryz.prog.info? 3).get (by kernel_rfl)) (.int .i64 0) (by kernel_rfl) (by kernel_rfl) (by kernel_rfl) (by decide +kernel) (by decide +kernel) (by kernel_rfl), ?_⟩
    simp only [OpS_slice]
    refine or_int _ _ _ _ _ (Has.new _ _) ?_
    simp only [OpI_int, Ret_nil]
    refine ⟨rfl, d - w.drawn, #[.cells (recV r) 246, .cells (recV s) 246, .cells #[.int .i64 (cmpI r.ver s.ver), .int .i64 (cmpI r.lba s.lba)] 3], ?_⟩
    rw [hg d hd, alloc_eq_grow, grow_grow]
    rfl
  exact Calls.mono key fun e w' ⟨v, he, hv, hw⟩ => by subst hv; exact ⟨he, hw⟩

/-- the record of an entry -/
def recOf (p : Int × Ent) : Rec := ⟨1, p.2.2, p.1, p.2.1⟩
/-- the records by rising versions -/
def ByVer (rs : List Rec) : Prop := rs.Pairwise fun r s => ¬ cmpR s r < 0

def numOf : Option Value → Int
  | some (.int _ n) => n
  | _ => 0
def unEnt (v : Value) : Ent := (fun i => numOf v.cells[i.val]?, numOf v.cells[16]?)
theorem un_entV (e : Ent) : unEnt (entV e) = e := by
  obtain ⟨f, n⟩ := e
  refine Prod.ext ?_ rfl
  funext i
  match i with
  | ⟨0, _⟩ => rfl | ⟨1, _⟩ => rfl | ⟨2, _⟩ => rfl | ⟨3, _⟩ => rfl | ⟨4, _⟩ => rfl | ⟨5, _⟩ => rfl | ⟨6, _⟩ => rfl | ⟨7, _⟩ => rfl
  | ⟨8, _⟩ => rfl | ⟨9, _⟩ => rfl | ⟨10, _⟩ => rfl | ⟨11, _⟩ => rfl | ⟨12, _⟩ => rfl | ⟨13, _⟩ => rfl | ⟨14, _⟩ => rfl | ⟨15, _⟩ => rfl
  | ⟨n + 16, hn⟩ => exact absurd hn (by omega)
/-- taking one out of tagged entries -/
theorem tag_out {α : Type} {f : α → Value} {g : Value → α} (hg : ∀ e, g (f e) = e) {l : List (Int × α)} {x : Int} {v : Value} {r : List (Int × Value)} (h : (tag f l).Perm ((x, v) :: r)) :
    ∃ e l', v = f e ∧ r = tag f l' ∧ l.Perm ((x, e) :: l') := by
  have hmem : ∀ p ∈ (x, v) :: r, ∃ e, p.2 = f e := by
    intro p hp
    have := h.symm.subset hp
    obtain ⟨q, _, rfl⟩ := List.mem_map.1 this
    exact ⟨q.2, rfl⟩
  obtain ⟨e, he⟩ := hmem (x, v) (by simp)
  have hr : r = tag f (r.map fun p => (p.1, g p.2)) := by
    unfold tag
    rw [List.map_map]
    conv => lhs; rw [← List.map_id r]
    apply List.map_congr_left
    intro p hp
    obtain ⟨e', he'⟩ := hmem p (by simp [hp])
    simp only [Function.comp, he', hg, id]
    rw [← he']
  refine ⟨e, _, he, hr, ?_⟩
  have h2 := h.map fun p : Int × Value => (p.1, g p.2)
  have h3 : (tag f l).map (fun p : Int × Value => (p.1, g p.2)) = l := by
    unfold tag
    rw [List.map_map]
    conv => rhs; rw [← List.map_id l]
    apply List.map_congr_left
    intro p _
    simp [hg]
  rw [h3] at h2
  simpa [show v = f e from he, hg] using h2

/-- sorting a row that may be nil -/
theorem sort_row {g : Nat} (hg : ∀ (r s : Rec) (w : World), Calls Tryz.prog g #[.agg (recV r), .agg (recV s)] w fun e w' => e = .returned (.int .i64 (cmpR r s)) ∧ ∃ q os, w' = grow (w.drewN q) os)
    (eg : ∀ args w, (callFunc g args).run Tryz.prog w = .ok (.enter g args) w) {w : World} {base : Nat} {T : TypeId} {p : Option Addr} {l c : Nat} {rs : List Rec} (h : Own w base T 19 p l c (rs.flatMap recL)) (hsz : l < 4611686018427387904)
    {R : Value → World → Prop} (hK : ∀ (rs' : List Rec) (w' : World), rs'.Perm rs → ByVer rs' → Own w' base T 19 p l c (rs'.flatMap recL) → Keep (fun k => p = some ⟨k, 0, none⟩) w w' → R (.tuple #[]) w') :
    CallV Tryz.prog 231 #[.slice p l c, .func (.func g) #[] #[]] w R := by
  rcases h.cases with ⟨rfl, rfl, rfl, h0⟩ | ⟨b, cur, rfl, _⟩
  · have hrs : rs = [] := by
      cases rs with
      | nil => rfl
      | cons r rs => simp [recL] at h0
    subst hrs
    exact Calls.mono (AnyF.slices_SortFunc_none Tryz.sortRec none 0 (.func (.func g) #[] #[]) w) fun e w' ⟨he, hw⟩ => ⟨_, he, by subst hw; exact hK [] _ (List.Perm.refl _) List.Pairwise.nil h (Keep.refl _ _)⟩
  · exact sort_recs hg eg h hsz fun rs' w' hp hs ho hk => hK rs' w' hp hs ho (hk.mono fun k hk => by rw [hk])

theorem bld_rec (k v l : Int) (f : Sec) (w : World) : (Instr.build 246 #[(0, .int .i64 k), (1, .int .u64 v), (2, .int .i64 l), (3, .agg (secV f))]).run Tryz.prog w = .ok (.agg (recV ⟨k, v, l, f⟩)) w := run_build _ _ _ _ (by kernel_rfl)
theorem bsl_rec (r : Rec) (w : World) : (Instr.buildSlice 113 1 #[(0, .agg (recV r))]).run Tryz.prog w = .ok (.slice (some ⟨w.heap.size, 0, none⟩) 1 1) (w.alloc (.cells (recV r) 246)) :=
  run_buildSlice w 113 246 1 _ (recV r) ((Tryz.prog.info? 246).get (by kernel_rfl)) ((((Tryz.prog.info? 246).get (by kernel_rfl)).zero).get (by kernel_rfl)) (by kernel_rfl) (by kernel_rfl) (by kernel_rfl) (by decide +kernel) (by decide +kernel) (by kernel_rfl)
/-- one record more -/
theorem app_rec {w : World} {base : Nat} {p : Option Addr} {l c : Nat} {rs : List Rec} (h : Own w base 246 19 p l c (rs.flatMap recL)) {a : Nat} {r : Rec} (ha : Has w a (.cells (recV r) 246 (0, 0))) (hl : l ≤ 1000000000) (hbase : base ≤ w.heap.size) :
    ∃ p' c' w', (Builtin.append_ #[113, 113] 113 #[.slice p l c, .slice (some ⟨a, 0, none⟩) 1 1]).run Tryz.prog w = .ok (.slice p' (l + 1) c') w' ∧
      Own w' base 246 19 p' (l + 1) c' ((rs ++ [r]).flatMap recL) ∧ Keep (fun k => p = some ⟨k, 0, none⟩) w w' := by
  have := run_appendOwn (P := Tryz.prog) (t := 113) (ty := 113) (i := ((Tryz.prog.info? 246).get (by kernel_rfl))) (z := ((((Tryz.prog.info? 246).get (by kernel_rfl)).zero).get (by kernel_rfl))) (size := 19) (bytes := 40) (by kernel_rfl) (by kernel_rfl) (by kernel_rfl) (by kernel_rfl) (by kernel_rfl) (by kernel_rfl) (by decide) h
      (a := ⟨a, 0, none⟩) (m := 1) (c2 := 1) (news := recL r) rfl (fun jj u hu => by
        have : Addr.add ⟨a, 0, none⟩ jj = ⟨a, jj, none⟩ := by unfold Addr.add; split <;> simp_all
        rw [this, cell_of ha]
        simpa [recV] using hu) (one_recL' r) (by omega) (by simp [maxLen]; omega) hbase
  simpa using this

theorem cache_List {c m : Nat} {room : Int} {es : List (Int × Ent)} {w : World} {R : Value → World → Prop} (h : CacheAt w c m room es) (hlen : es.length ≤ 1000000)
    (hK : ∀ (p : Option Addr) (l cp : Nat) (rs : List Rec) (w' : World), rs.Perm (es.map recOf) → ByVer rs → Own w' w.heap.size 246 19 p l cp (rs.flatMap recL) → Keep (fun _ => False) w w' → R (.slice p l cp) w') :
    CallV Tryz.prog 262 #[.pointer (some ⟨c, 0, none⟩)] w R := by
  apply C_cache_Cache_List
  unfold F_cache_Cache_List
  refine LdV_has (v := .map (some m)) h.1 rfl ?_
  simp only [OpM_map]
  obtain ⟨w1, hr, hI, k1⟩ := run_rangeM (P := Tryz.prog) under_map h.2
  refine ⟨_, _, hr, ?_⟩
  simp only [OpN_some]
  have hm : m < w.heap.size := h.2.lt
  refine LoopC_of (σ := (Option Addr × Nat × Nat) × Unit) (fun s w' => ∃ (left done : List (Int × Ent)), Iter .i64 w' w.heap.size m (tag entV left) ∧ (done ++ left).Perm es ∧
      Own w' (w.heap.size + 1) 246 19 s.1.1 s.1.2.1 s.1.2.2 ((done.map recOf).flatMap recL) ∧ s.1.2.1 = done.length ∧ Keep (fun _ => False) w w' ∧ w.heap.size + 1 ≤ w'.heap.size) (fun s w' => es.length - s.1.2.1)
    ⟨es, [], hI, by simp, Own.nil _ _ _ _, rfl, k1, by have := hI.lt.1; omega⟩ ?_
  intro _ s w2 hs
  obtain ⟨⟨p, l, cp⟩, u⟩ := s
  obtain ⟨left, done, hI2, hperm, ho, hl, k2, hsz⟩ := hs
  simp only at ho hl ⊢
  have hln : done.length + left.length = es.length := by have := hperm.length_eq; simpa using this
  rcases run_nextM (P := Tryz.prog) (ty := 0) hI2 with ⟨hnil, hr2⟩ | ⟨x, v, left', w3, hp3, hr2, hI3, hA3, k3⟩
  · refine ⟨_, _, hr2, Or.inr ⟨rfl, ?_⟩⟩
    have hleft : left = [] := by
      cases left with
      | nil => rfl
      | cons a b => simp [tag] at hnil
    subst hleft
    rw [List.append_nil] at hperm
    have eg : ∀ args w, (callFunc 286 args).run Tryz.prog w = .ok (.enter 286 args) w := enters_of Tryz.func286 (by kernel_rfl) rfl
    refine sort_row cmp_list eg ho (by omega) fun rs w4 hrp hrs ho4 k4 => ?_
    simp only [Ret_nil]
    have k4' : Keep (fun _ => False) w w4 := k2.trans' k4 (fun k hk e => by have := (ho.lt e).1; omega)
    refine hK p l cp rs w4 (hrp.trans (hperm.map _)) hrs ?_ k4'
    rcases ho4.cases with ⟨rfl, rfl, rfl, h0⟩ | ⟨b, cur, rfl, hb, hg, hle, hmx, hss, ht⟩
    · rw [h0]; exact Own.nil _ _ _ _
    · exact Own.mk (by omega) hg hle hmx hss ht
  · obtain ⟨e, left2, rfl, rfl, hp2⟩ := tag_out un_entV hp3
    refine ⟨_, _, hr2, Or.inl ⟨_, _, rfl, ?_⟩⟩
    refine DoQ_of (fun d => run_entryM (hA3.keep (Keep.drew (fun _ => False) w3 d) (by simp) (by simp))) ?_
    simp only [T2_mk, OpI_int, entV, OpA_agg]
    refine ⟨rfl, ?_⟩
    have k23 : Keep (fun _ => False) w w3 := k2.trans' k3 (fun k hk e => by omega)
    have ho3 := ho.keep k3 (fun k hp => by have := (ho.lt hp).1; omega)
    have hsz3 : w.heap.size + 1 ≤ w3.heap.size := by have := k3.size; omega
    rw [Alc_iff]
    have hb1 := Has.new w3 (.cells (zc Tryz.prog 354) 354)
    have k4 := Keep.new (fun _ => False) w3 (.cells (zc Tryz.prog 354) 354)
    generalize hw4 : w3.alloc (.cells (zc Tryz.prog 354) 354) = w4 at *
    refine StA_all hb1 rfl (by rw [zc_ent]; rfl) ?_ ?_
    · intro v hv
      simp only [List.mem_cons, List.not_mem_nil, or_false] at hv
      rcases hv with rfl | rfl | rfl | rfl | rfl | rfl | rfl | rfl | rfl | rfl | rfl | rfl | rfl | rfl | rfl | rfl | rfl <;> rfl
    generalize hcs : (#[Value.int IntKind.u8 _, _, _, _, _, _, _, _, _, _, _, _, _, _, _, _, _] : Array Value) = cs
    have hb2 := hb1.upd_same (.cells cs 354)
    have k5 := Keep.one w4 w3.heap.size (.cells cs 354)
    have hI5 := (hI3.keep k4 (by simp) (by simp)).keep k5 (by have := hI3.lt.1; omega) (by have := hI3.lt.2; omega)
    have ho5 := (ho3.keep k4 (by simp)).keep k5 (fun k hp => by have := (ho3.lt hp).2; omega)
    have k25 : Keep (fun _ => False) w (w4.upd w3.heap.size (.cells cs 354)) := (k23.trans k4).trans' k5 (fun k hk e => by omega)
    have hsz5 : w.heap.size + 1 ≤ (w4.upd w3.heap.size (.cells cs 354)).heap.size := by have := k4.size; simp; omega
    generalize hw5 : w4.upd w3.heap.size (.cells cs 354) = w5 at *
    subst hcs
    refine LdV_has (v := .int .u64 e.2) hb2 rfl ?_
    simp only [OpI_int]
    refine LdA_has (cs := secV e.1) hb2 (by simp) rfl ?_
    refine DoQ_of (fun d => bld_rec _ _ _ _ _) ?_
    simp only [OpA_agg]
    refine ⟨rfl, _, _, bsl_rec _ _, ?_⟩
    simp only [OpS_slice]
    have ha := Has.new w5 (.cells (recV ⟨1, e.2, x, e.1⟩) 246)
    have k6 := Keep.new (fun _ => False) w5 (.cells (recV ⟨1, e.2, x, e.1⟩) 246)
    have ho6 := ho5.keep k6 (by simp)
    have hI6 := hI5.keep k6 (by simp) (by simp)
    have hlt : left.length = left2.length + 1 := by have := hp2.length_eq; simpa using this
    obtain ⟨p', c', w7, hr7, ho7, k7⟩ := app_rec ho6 ha (by omega) (by have := k6.size; omega)
    refine ⟨_, _, hr7, ?_⟩
    simp only [OpS_slice]
    have k67 := k25.trans k6
    refine ⟨_, by omega, ⟨left2, done ++ [(x, e)], hI6.keep k7 (fun hp => ?_) (fun hp => ?_), ?_, by simpa [recOf] using ho7, by simp [hl], k67.trans' k7 (fun k hk hp => by have := (ho6.lt hp).1; omega), by have := k7.size; have := k6.size; omega⟩, rfl⟩
    · have := (ho6.lt hp).1; omega
    · have := (ho6.lt hp).1; omega
    · have h9 : (done ++ left).Perm (done ++ (x, e) :: left2) := hp2.append_left done
      have := h9.symm.trans hperm
      simpa using this
end Go.Proofs

namespace Go.Proofs
open Go Go.Ev
set_option linter.unusedSimpArgs false
set_option linter.unusedVariables false
set_option maxRecDepth 100000

def rec00 : Rec := ⟨0, 0, 0, sec []⟩
theorem zc_rec' : zc Tryz.prog 246 = recV rec00 := by kernel_rfl
theorem bld_rec00 (w : World) : (Instr.build 246 #[]).run Tryz.prog w = .ok (.agg (recV rec00)) w := run_build _ _ _ _ (by kernel_rfl)
theorem one_recV' (r : Rec) : ∀ v ∈ (recV r).toList, oneV v = true := by intro v hv; exact one_recL r v (by simpa [recV] using hv)
/-- a record of a row of one's own, loaded -/
theorem LdA_row {w : World} {base : Nat} {T : TypeId} {p : Option Addr} {l c : Nat} {rs : List Rec} (h : Own w base T 19 p l c (rs.flatMap recL)) {i : Int} {r : Rec} (h0 : 0 ≤ i) (hi : rs[i.toNat]? = some r) {K : Array Value → Prop} (hK : K (recV r)) :
    IdxS p l i 19 fun b o => LdA 19 b o (At w) K := by
  have hlr : l = rs.length := by
    have := h
    rw [flatMap_rows] at this
    simpa using this.count (rows_len rs) (by decide)
  have hlt := (List.getElem?_eq_some_iff.1 hi).1
  have h2 := h
  rw [flatMap_rows] at h2
  obtain ⟨b, rfl, hc⟩ := h2.at (rows_len rs) (by decide) (i := i.toNat) (r := recL r) (by simp [hi])
  refine ⟨b, 0, rfl, h0, by omega, recV r, rfl, ?_, hK⟩
  rintro w' ⟨d, rfl⟩ j hj
  rw [Nat.zero_add]
  have := hc j hj
  rw [show (w.dr d).cell? ⟨b, i.toNat * 19 + j, none⟩ = w.cell? ⟨b, i.toNat * 19 + j, none⟩ from rfl, this]
  simp [recV]

theorem cache_Next {c m : Nat} {room : Int} {es : List (Int × Ent)} {w : World} {R : Value → World → Prop} (h : CacheAt w c m room es) (hlen : es.length ≤ 1000000)
    (h0 : ∀ w', es = [] → Keep (fun _ => False) w w' → R (.tuple #[.agg (recV rec00), .int .i64 10]) w')
    (h1 : ∀ p w', p ∈ es → (∀ q ∈ es, ¬ cmpR (recOf q) (recOf p) < 0) → Keep (fun _ => False) w w' → R (.tuple #[.agg (recV (recOf p)), .int .i64 0]) w') :
    CallV Tryz.prog 227 #[.pointer (some ⟨c, 0, none⟩)] w R := by
  apply C_cache_Cache_Next
  unfold F_cache_Cache_Next
  rw [Alc_iff]
  have hb := Has.new w (.cells (zc Tryz.prog 246) 246)
  have k0 := Keep.new (fun _ => False) w (.cells (zc Tryz.prog 246) 246)
  have hC := h.keep k0 (by simp) (by simp)
  generalize w.alloc (.cells (zc Tryz.prog 246) 246) = w0 at *
  refine cache_List hC hlen fun p l cp rs w1 hrp hrs ho k1 => ?_
  simp only [OpS_slice]
  have hlr : l = rs.length := by
    have := ho
    rw [flatMap_rows] at this
    simpa using this.count (rows_len rs) (by decide)
  have hle : rs.length = es.length := by have := hrp.length_eq; simpa using this
  have hb1 := k1.has hb (by simp)
  have k01 := k0.trans k1
  cases rs with
  | nil =>
    have hes : es = [] := List.eq_nil_of_length_eq_zero (by rw [← hle]; rfl)
    subst hlr
    rw [show ((((([] : List Rec).length : Nat) : Int)) == 0) = true from rfl, Cb_true]
    refine DoQ_of (fun d => bld_rec00 _) ?_
    simp only [OpA_agg]
    refine ⟨rfl, StA_all hb1 rfl (by rw [zc_rec']; rfl) (one_recV' _) ?_⟩
    refine LdA_all (hb1.upd_same _) rfl ?_
    simp only [Ret_nil]
    exact h0 _ hes (k01.upd (by omega) _)
  | cons r rs =>
    have hz : (((l : Nat) : Int) == 0) = false := by simp [hlr]; omega
    rw [hz, Cb_false]
    refine LdA_row ho (by decide) (r := r) rfl ?_
    refine StA_all hb1 rfl (by rw [zc_rec']; rfl) (one_recV' _) ?_
    refine LdA_all (hb1.upd_same _) rfl ?_
    simp only [Ret_nil]
    have hr : r ∈ es.map recOf := hrp.subset (by simp)
    obtain ⟨q, hq, rfl⟩ := List.mem_map.1 hr
    refine h1 q _ hq (fun q' hq' => ?_) (k01.upd (by omega) _)
    have : recOf q' ∈ recOf q :: rs := hrp.symm.subset (List.mem_map.2 ⟨q', hq', rfl⟩)
    rcases List.mem_cons.1 this with e | hm
    · rw [e, cmpR_lt]; omega
    · exact (List.pairwise_cons.1 hrs).1 _ hm

/-- what Clean answers -/
def cleanE (es : List (Int × Ent)) (lba version : Int) : Int := match mlook es lba with
  | none => 10
  | some e => if e.2 > version then 12 else 0
theorem cache_Clean {c m : Nat} {room lba version : Int} {es : List (Int × Ent)} {w : World} {R : Value → World → Prop} (h : CacheAt w c m room es)
    (hK : ∀ w', Keep (fun k => k = m) w w' → CacheAt w' c m room (if cleanE es lba version = 0 then del es lba else es) → R (.int .i64 (cleanE es lba version)) w') :
    CallV Tryz.prog 228 #[.pointer (some ⟨c, 0, none⟩), .int .i64 lba, .int .u64 version] w R := by
  apply C_cache_Cache_Clean
  unfold F_cache_Cache_Clean
  refine cache_Get h fun w1 k1 => ?_
  have go : ∀ (f : Sec), ∃ w2, (w1.alloc (.cells (zc Tryz.prog 37) 37)).upd w1.heap.size (.cells (secV f) 37) = w2 ∧ Keep (fun _ => False) w w2 := by
    intro f
    exact ⟨_, rfl, (k1.alloc _).upd (by have := k1.size; omega) _⟩
  cases hl : mlook es lba with
  | none =>
    have e : cleanE es lba version = 10 := by simp [cleanE, hl]
    rw [e] at hK
    simp only [T3_mk, OpA_agg, OpI_int]
    refine ⟨rfl, ?_⟩
    rw [Alc_iff]
    refine StA_all (Has.new _ _) rfl (by rw [zc_sec]; rfl) (one_secV _) ?_
    obtain ⟨w2, hw, k2⟩ := go (sec [])
    rw [hw, show ((10 : Int) != 0) = true from rfl, Cb_true]
    simp only [Ret_nil]
    exact hK w2 (k2.mono fun _ h => h.elim) (by simpa using h.keep k2 (by simp) (by simp))
  | some e =>
    simp only [T3_mk, OpA_agg, OpI_int]
    refine ⟨rfl, ?_⟩
    rw [Alc_iff]
    refine StA_all (Has.new _ _) rfl (by rw [zc_sec]; rfl) (one_secV _) ?_
    obtain ⟨w2, hw, k2⟩ := go e.1
    rw [hw, show ((0 : Int) != 0) = false from rfl, Cb_false]
    have h2 := h.keep k2 (by simp) (by simp)
    refine Cb_of (fun hv => ?_) (fun hv => ?_)
    · have hv' : e.2 > version := by simpa using hv
      have ec : cleanE es lba version = 12 := by simp only [cleanE, hl]; rw [if_pos hv']
      rw [ec] at hK
      simp only [Ret_nil]
      exact hK w2 (k2.mono fun _ h => h.elim) (by simpa using h2)
    · have hv' : ¬ e.2 > version := by simpa using hv
      have ec : cleanE es lba version = 0 := by simp only [cleanE, hl]; rw [if_neg hv']
      rw [ec] at hK
      refine LdV_has (v := .map (some m)) h2.1 rfl ?_
      simp only [OpM_map]
      obtain ⟨arr, clk, hr, ho⟩ := run_delete (P := Tryz.prog) (ty := 0) under_map under_int h2.2 lba
      refine ⟨_, _, hr, ?_⟩
      rw [del_tag] at ho
      simp only [Ret_nil]
      obtain ⟨arr0, clk0, hm, _⟩ := h2.2
      have k3 : Keep (fun k => k = m) w w2 := k2.mono fun _ h => h.elim
      refine hK _ (k3.upd (k := m) (fun _ => rfl) _) ?_
      rw [if_pos rfl]
      exact ⟨h2.1.upd (h2.1.ne hm (by simp)), arr, clk, hm.upd_same _, ho⟩
end Go.Proofs

namespace Go.Proofs
open Go Go.Ev
set_option linter.unusedSimpArgs false
set_option linter.unusedVariables false
set_option maxRecDepth 100000

/-! ### sorted lists -/
section calls
variable {w : World} {q : PB} {s : PS} {R : Value → World → Prop}
/-! ### Load at a side -/
/-! ### Stamp, Leave, Join, Compact -/
def stampP (sz : Int) (s : PS) (ep : Int) : Int × PS :=
  let r := eachP sz ⟨6, IntKind.wrap .u64 ep, 0, sec []⟩ false s
  if r.1 ≠ 0 then (r.1, r.2) else (0, { r.2 with epoch := ep })
def downS (s : PS) (f : Bool) (v : Bool) : PS := { s with ua := cond f s.ua v, ub := cond f v s.ub }
def leaveP (s : PS) (f : Bool) : Int × PS := if s.ua = false ∨ s.ub = false then (13, s) else (0, downS s f false)
end calls

/-! ### the references' SameRecords -/
end Go.Proofs

namespace Go.Proofs
open Go Go.Ev
set_option linter.unusedSimpArgs false
set_option linter.unusedVariables false
set_option maxRecDepth 100000
def sideOk (n : Int) : Prop := n = 0 ∨ n = 1
instance (n : Int) : Decidable (sideOk n) := inferInstanceAs (Decidable (_ ∨ _))
theorem side0 : sideOk 0 := Or.inl rfl
theorem side1 : sideOk 1 := Or.inr rfl
def afterS (e side : Int) : Int × Int :=
  if ¬ sideOk side then (0, 2) else
    let x := if (e + 1) % 2 = side then e + 1 else e + 2
    if 4294967295 < x then (0, 14) else (x, 0)
end Go.Proofs

namespace Go.Proofs
open Go Go.Ev
set_option linter.unusedSimpArgs false
set_option linter.unusedVariables false
set_option maxRecDepth 100000

/-- what Flushed answers, and the pair behind it -/
def flushP (sz : Int) (s : PS) (lba v : Int) : Int × PS :=
  if (getV s.es lba).2.2 ≠ 0 then ((getV s.es lba).2.2, s) else if v < (getV s.es lba).2.1 then (12, s)
  else
    let r := eachP sz ⟨2, v, lba, sec []⟩ false s
    if r.1 ≠ 0 then r else (cleanE s.es lba v, { r.2 with es := if cleanE s.es lba v = 0 then del s.es lba else s.es })
section calls
variable {w : World} {q : PB} {s : PS} {R : Value → World → Prop}
theorem PairAt.ofCache {w' : World} {es : List (Int × Ent)} (h : PairAt w q s) (hc : CacheAt w' q.c q.mp q.room es) (k : Keep (fun k => k = q.mp) w w') : PairAt w' q { s with es := es } := by
  obtain ⟨pa, la, ca, pb, lb, cb, ha, hb, hne⟩ := h.rams
  have nm : ∀ {k : Nat} {cs : Array Value} {t : TypeId} {f : Nat × Nat}, Has w k (.cells cs t f) → ¬ k = q.mp := by
    intro k cs t f h1 e
    obtain ⟨_, arr, clk, hm, _⟩ := h.cache
    subst e
    cases h1.inj hm
  have rw_ : ∀ {p : Option Addr} {l c : Nat} {bs : List Int}, OwnL byLay w q.base 5 p l c bs → ∀ k, p = some ⟨k, 0, none⟩ → ¬ k = q.mp := by
    intro p l c bs ho k hk
    rcases Own.cases ho with ⟨h0, _⟩ | ⟨b', cur, h0, hb', hg, _⟩
    · rw [h0] at hk; cases hk
    · rw [h0] at hk; cases hk; exact nm hg
  exact ⟨k.has h.cells (nm h.cells), hc, k.has (show Has w _ _ from h.main) (nm h.main), ⟨pa, la, ca, pb, lb, cb, ha.keep k (nm ha.cells) (rw_ ha.row), hb.keep k (nm hb.cells) (rw_ hb.row), hne⟩, h.ne, h.fit, h.form, h.low⟩
theorem pr_Next (h : PairAt w q s) (hlen : s.es.length ≤ 1000000) (h0 : ∀ w', s.es = [] → Keep (fun _ => False) w w' → R (.tuple #[.agg (recV rec00), .int .i64 10]) w')
    (h1 : ∀ p w', p ∈ s.es → (∀ q ∈ s.es, ¬ cmpR (recOf q) (recOf p) < 0) → Keep (fun _ => False) w w' → R (.tuple #[.agg (recV (recOf p)), .int .i64 0]) w') :
    CallV Tryz.prog 157 #[.pointer (some ⟨q.p, 0, none⟩)] w R := by
  apply C_mirror_Pair_Next
  unfold F_mirror_Pair_Next
  refine alc_fresh fun w1 hb1 k1 z1 => ?_
  have p1 := h.keep k1
  refine LdV_has (v := .pointer (some ⟨q.c, 0, none⟩)) p1.cells rfl (OpN_some.2 ?_)
  have fin : ∀ {w2 : World} {r : Rec} {n : Int} {K : Value → World → Prop}, Keep (fun _ => False) w1 w2 → (∀ w', Keep (fun _ => False) w w' → K (.tuple #[.agg (recV r), .int .i64 n]) w') → StA 19 w.heap.size 0 (recV r) w2 fun w3 => LdA 19 w.heap.size 0 (At w3) fun cs1 => Ret [] (K (.tuple #[.agg cs1, .int .i64 n]) w3) := fun k2 hh => by
    have hb2 := k2.has hb1 (by simp)
    refine StA_all hb2 rfl (by rw [zc_rec']; rfl) (one_recV' _) (LdA_all (hb2.upd_same _) rfl (Ret_nil.2 (hh _ ((k1.trans k2).upd (fun hi => absurd hi (by omega)) _))))
  refine cache_Next p1.cache hlen (fun w2 he k2 => ?_) (fun p w2 hp hm k2 => ?_)
  · exact T2_mk.2 (OpA_agg.2 ⟨rfl, OpI_int.2 (fin k2 fun w' k' => h0 w' he k')⟩)
  · exact T2_mk.2 (OpA_agg.2 ⟨rfl, OpI_int.2 (fin k2 fun w' k' => h1 p w' hp hm k')⟩)
theorem pr_Flushed (h : PairAt w q s) {lba v : Int} (h0 : 0 ≤ lba) (h1 : lba ≤ 2147483647) (hK : ∀ w', PairAt w' q (flushP q.sz s lba v).2 → Keep (PFoot q w) w w' → R (.int .i64 (flushP q.sz s lba v).1) w') :
    CallV Tryz.prog 160 #[.pointer (some ⟨q.p, 0, none⟩), .int .i64 lba, .int .u64 v] w R := by
  apply C_mirror_Pair_Flushed
  unfold F_mirror_Pair_Flushed
  unfold flushP at hK
  refine pr_Get h fun w1 k1 => T3_mk.2 (OpA_agg.2 ⟨rfl, OpI_int.2 (OpI_int.2 ?_)⟩)
  refine copy_of (by rw [zc_sec]; rfl) rfl (one_secV _) fun w2 hb2 k2 z2 => ?_
  have k02 := k1.trans k2
  have p2 := h.keep k02
  refine Cb_of (fun hc => ?_) (fun hc => ?_)
  · have hc : (getV s.es lba).2.2 ≠ 0 := by simpa using hc
    rw [if_pos hc] at hK
    exact Ret_nil.2 (hK w2 p2 (PFoot.none k02))
  have hc : ¬ (getV s.es lba).2.2 ≠ 0 := by simpa using hc
  rw [if_neg hc] at hK
  refine Cb_of (fun hv => ?_) (fun hv => ?_)
  · have hv : v < (getV s.es lba).2.1 := by simpa using hv
    rw [if_pos hv] at hK
    exact Ret_nil.2 (hK w2 p2 (PFoot.none k02))
  have hv : ¬ v < (getV s.es lba).2.1 := by simpa using hv
  rw [if_neg hv] at hK
  refine DoQ_of (v := .agg (recV ⟨2, v, lba, sec []⟩)) (fun _ => run_build _ _ _ _ (by kernel_rfl)) (OpA_agg.2 ⟨rfl, ?_⟩)
  have hg : recGood ⟨2, v, lba, sec []⟩ = true := by
    unfold recGood
    simp only [Bool.and_eq_true, decide_eq_true_eq]
    omega
  refine pr_each p2 false hg fun w3 p3 k3 => OpI_int.2 ?_
  have hes : (eachP q.sz ⟨2, v, lba, sec []⟩ false s).2.es = s.es := (eachP_same s).1
  generalize eachP q.sz ⟨2, v, lba, sec []⟩ false s = r at *
  have k03 := PFoot.trans (PFoot.none k02) k3
  simp only at hK
  refine Cb_of (fun hr => ?_) (fun hr => ?_)
  · have hr : r.1 ≠ 0 := by simpa using hr
    rw [if_pos hr] at hK
    exact Ret_nil.2 (hK w3 p3 k03)
  have hr : ¬ r.1 ≠ 0 := by simpa using hr
  rw [if_neg hr] at hK
  refine LdV_has (v := .pointer (some ⟨q.c, 0, none⟩)) p3.cells rfl (OpN_some.2 ?_)
  have hca : CacheAt w3 q.c q.mp q.room s.es := by rw [← hes]; exact p3.cache
  refine cache_Clean hca fun w4 k4 hc4 => OpI_int.2 (Ret_nil.2 ?_)
  exact hK w4 (p3.ofCache hc4 k4) (k03.trans' k4 fun i hi e => Or.inr (Or.inl e))
end calls

/-! ### the array, by its set and its memories -/
def AB.mb (q : AB) : MB := ⟨q.pb.m, q.pb.a, q.pb.b, q.pb.base, q.pb.sz⟩
section plain
variable {w w' : World} {q : AB} {lk : Int} {s : AS}
theorem ArAt.stm (h : ArAt w q lk s) : StmAt w q.mb q.g q.bks q.pb.base q.sp q.sc s.ss s.ps.xa s.ps.xb := ⟨h.set, h.disks, ⟨h.pair.main, h.pair.rams, h.pair.ne, h.pair.fit, h.pair.form, h.pair.hb⟩⟩
theorem WFoot.arF {i : Nat} (e : WFoot q.mb q.g q.bks w i) : ArF q w i := by
  rcases e with (e | e | e | e) | e
  · exact Or.inr (Or.inr (Or.inr (Or.inr (Or.inl e))))
  · exact Or.inr (Or.inr (Or.inr (Or.inr (Or.inr (Or.inl e)))))
  · exact Or.inr (Or.inr (Or.inr (Or.inr (Or.inr (Or.inr (Or.inl e))))))
  · exact Or.inr (Or.inr (Or.inr (Or.inr (Or.inr (Or.inr (Or.inr e))))))
  · exact Or.inr (Or.inl e)
theorem ArAt.ofStm (h : ArAt w q lk s) {s' : SS} {xa xb : List Int} (hs : StmAt w' q.mb q.g q.bks q.pb.base q.sp q.sc s' xa xb) (k : Keep (WFoot q.mb q.g q.bks w) w w') : ArAt w' q lk { s with ds := s'.ds, ps := { s.ps with pw := s'.pw, xa := xa, xb := xb } } := by
  have st := h.stm
  have nmap : ¬ WFoot q.mb q.g q.bks w q.pb.mp := fun e => by
    obtain ⟨_, arr, clk, hm, _⟩ := h.pair.cache
    obtain ⟨_, _, _, _, _, _, ha, hb, _⟩ := h.pair.rams
    have no : ∀ {k : Nat} {cs : Array Value} {t : TypeId} {f : Nat × Nat}, Has w k (.cells cs t f) → k ≠ q.pb.mp := fun h1 e => by subst e; cases h1.inj hm
    rcases e with (e | e | e | ⟨_, cs, hc⟩) | e
    · exact no (show Has w _ _ from h.pair.main) e.symm
    · exact no ha.cells e.symm
    · exact no hb.cells e.symm
    · exact no hc rfl
    · obtain ⟨cs, t, hc⟩ := h.set.blk e
      exact no hc rfl
  refine ⟨WFoot.has st k h.cells (by decide) (by decide) (by decide) (by decide) (by decide), hs.set, hs.disks,
    ⟨WFoot.has st k h.pair.cells (by decide) (by decide) (by decide) (by decide) (by decide), h.pair.cache.keep k (WFoot.not st h.pair.cache.1 (by decide) (by decide) (by decide) (by decide) (by decide)) nmap, hs.mems.main, hs.mems.rams, h.pair.ne, hs.mems.fit, h.pair.form, h.pair.low⟩,
    WFoot.has st k (show Has w _ _ from h.desk) (by decide) (by decide) (by decide) (by decide) (by decide), h.marks.keep k fun b hb => ?_⟩
  obtain ⟨_, cur, hh⟩ := own_has h.marks b 0 hb
  exact WFoot.not st hh (by decide) (by decide) (by decide) (by decide) (by decide)
theorem PFoot.arF {i : Nat} (e : PFoot q.pb w i) : ArF q w i := Or.inr (Or.inr e)
end plain

/-! ### out -/
/-- a sector has gone out: the answer, and the array behind it -/
def outB (q : AB) (s : AS) (f : Bool) (p : Int × Ent) (s2 : PS) : Int × AS :=
  let r := writeM q.pb.sz q.g (upS s2 f) s2.last p.1 p.2.1 (epA s f) ⟨s.ds, s2.pw⟩ s2.xa s2.xb
  let s3 : PS := { s2 with pw := r.2.1.pw, xa := r.2.2.1, xb := r.2.2.2 }
  if r.1 ≠ 0 then (r.1, { s with ds := r.2.1.ds, ps := s3 })
  else ((flushP q.pb.sz s3 p.1 p.2.2).1, { s with ds := r.2.1.ds, ps := (flushP q.pb.sz s3 p.1 p.2.2).2 })
def outA (q : AB) (s : AS) (f : Bool) (p : Int × Ent) : Int × AS := outB q s f p { s.ps with last := IntKind.wrap .u64 (s.ps.last + 1) }
theorem ramMB (q : AB) (f : Bool) : ramM q.mb f = ramB q.pb f := by cases f <;> rfl
section calls
variable {w : World} {q : AB} {lk : Int} {s : AS} {R : Value → World → Prop}
theorem ar_out0 (h : ArAt w q lk s) (hok : ∀ D ∈ s.ds, DskOk D) (f : Bool) (hlen : s.ps.es.length ≤ 1000) (hne : s.ps.es ≠ []) (hes : ∀ e ∈ s.ps.es, 0 ≤ e.1 ∧ e.1 < (q.g.d - 2) * q.g.c * q.g.s ∧ SecOk e.2.1)
    (hr : ∀ f, upA s f = true → 64 ≤ (q.pb.sz - ((xsA s.ps f).length : Int)) / 37)
    (hK : ∀ p w', p ∈ s.ps.es → (∀ x ∈ s.ps.es, ¬ cmpR (recOf x) (recOf p) < 0) → ArAt w' q lk (outA q s f p).2 → Keep (ArF q w) w w' → R (.int .i64 (outA q s f p).1) w') :
    CallV Tryz.prog 84 #[.pointer (some ⟨q.a, 0, none⟩), .int .i64 (sideN f)] w R := by
  apply C_array_Array_out
  unfold F_array_Array_out
  have hcap : 2 ≤ (q.g.d - 2) * q.g.c * q.g.s ∧ (q.g.d - 2) * q.g.c * q.g.s ≤ 15360 := h.set.geo.cap
  refine LdV_has (v := .pointer (some ⟨q.pb.p, 0, none⟩)) h.cells rfl (OpN_some.2 ?_)
  refine pr_Next h.pair (by omega) (fun w1 he => absurd he hne) fun p w1 hp hmin k1 => T2_mk.2 (OpA_agg.2 ⟨rfl, OpI_int.2 ?_⟩)
  obtain ⟨hp0, hp1, hp2⟩ := hes p hp
  refine copy_of (by rw [zc_rec']; rfl) rfl (one_recV' _) fun w2 hb2 k2 z2 => (Cb_false (p := _)).2 ?_
  have k02 := k1.trans k2
  refine ar_shorten0 (h.keep0 k02) hr fun w3 k3 => OpI_int.2 ((Cb_false (p := _)).2 ?_)
  have h3 := h.keep0 (k02.trans k3)
  have hb3 := k3.has hb2 (by simp)
  have k03 := k02.trans k3
  refine LdV_has (v := .pointer (some ⟨q.pb.p, 0, none⟩)) h3.cells rfl (OpN_some.2 ?_)
  refine pr_Take h3.pair fun w4 p4 k4 => OpI_int.2 ?_
  have h4 := h3.ofPair p4 k4
  have hb4 := PFoot.has k4 hb3 (by decide) h3.pair (by decide) (by decide) (by decide)
  have k04 : Keep (ArF q w) w w4 := ArF.trans (ArF.none k03) (k4.mono fun i e => PFoot.arF e)
  generalize hs2 : ({ s.ps with last := IntKind.wrap .u64 (s.ps.last + 1) } : PS) = s2 at *
  have hv : IntKind.wrap .u64 (s.ps.last + 1) = s2.last := by rw [← hs2]
  rw [hv]
  intro d
  have kd := Keep.drew (fun _ => False) w4 d
  have h5 := h4.keep0 kd
  have hb5 : Has (w4.dr d) w1.heap.size _ := hb4
  have k05 := ArF.trans k04 (ArF.none kd)
  generalize w4.dr d = w5 at *
  generalize hs5 : ({ s with ps := s2 } : AS) = s5 at h5
  have e5 : s5.ps = s2 ∧ s5.ss = ⟨s.ds, s2.pw⟩ ∧ epA s5 f = epA s f := by rw [← hs5]; exact ⟨rfl, rfl, by cases f <;> rfl⟩
  refine ⟨fun w' => Has w' q.a (.cells (arC q lk s5) 143 (0, 0)) ∧ Has w' w1.heap.size (.cells (recV (recOf p)) 246 (0, 0)), ⟨h5.cells, hb5⟩, ?_⟩
  refine LdA_of (cs := setV q.g q.sp q.g.d.toNat q.sc) rfl (fun w' hw => ⟨_, _, _, hw.1, by show 3 + 4 ≤ 21; decide, arC_set q lk s5⟩) ?_
  refine LdV_of (v := .pointer (some ⟨q.pb.p, 0, none⟩)) (fun w' hw => ⟨_, _, _, hw.1, rfl⟩) (OpN_some.2 ?_)
  refine LdV_of (v := .int .i64 p.1) (fun w' hw => ⟨_, _, _, hw.2, rfl⟩) (OpI_int.2 ?_)
  refine LdA_of (cs := secV p.2.1) rfl (fun w' hw => ⟨_, _, _, hw.2, by show 3 + 16 ≤ 19; decide, by
    apply Array.ext'
    simp only [Array.toList_extract, List.extract_eq_take_drop]
    rfl⟩) ⟨side_rng f, ?_⟩
  refine LdV_of (v := .int .u32 (epA s5 f)) (fun w' hw => ⟨_, _, _, hw.1, by cases f <;> rfl⟩) (OpI_int.2 ?_)
  refine pr_Up h5.pair f fun rp rl rc w6 o6 k6 => OpS_slice.2 ⟨⟨k6.has h5.cells (by simp), k6.has hb5 (by simp)⟩, ?_⟩
  have h6 := h5.keep0 k6
  have hl6 := o6.length
  have hlu : (upS s5.ps f).length ≤ 2 := Nat.le_trans (List.length_filter_le _ _) (by simp)
  have sl6 : SlT dLay w6 104 rp rl rc ((upS s5.ps f).map (ramM q.mb)) := by
    have : (upS s5.ps f).map (ramM q.mb) = (upS s5.ps f).map (ramB q.pb) := List.map_congr_left fun g _ => ramMB q g
    rw [this]
    exact SlT.of o6
  have hds : s5.ss.ds = s.ds := by rw [e5.2.1]
  refine i_WriteM (q := q.mb) h6.stm (by rw [hds]; exact hok) sl6 (by rw [hl6, List.length_map]; omega) hp0 hp1 hp2 fun w7 st7 k7 => OpI_int.2 ?_
  have h7 := h6.ofStm st7 k7
  have hb7 := WFoot.has h6.stm k7 (k6.has hb5 (by simp)) (by decide) (by decide) (by decide) (by decide) (by decide)
  have k07 := ArF.trans (ArF.trans k05 (ArF.none k6)) (k7.mono fun i e => WFoot.arF e)
  refine ⟨⟨WFoot.has h6.stm k7 h6.cells (by decide) (by decide) (by decide) (by decide) (by decide), hb7⟩, ?_⟩
  have hW := hK p
  unfold outA at hW
  rw [hs2] at hW
  unfold outB at hW
  simp only at hW
  have hsz : q.mb.sz = q.pb.sz := rfl
  rw [e5.1, e5.2.1, e5.2.2, hsz] at h7 ⊢
  generalize writeM q.pb.sz q.g (upS s2 f) s2.last p.1 p.2.1 (epA s f) ⟨s.ds, s2.pw⟩ s2.xa s2.xb = r at h7 hW ⊢
  clear st7 k7
  subst hs5
  refine Cb_of (fun hc => ?_) (fun hc => ?_)
  · have hc : r.1 ≠ 0 := by simpa using hc
    rw [if_pos hc] at hW
    exact Ret_nil.2 (hW w7 hp hmin h7 k07)
  have hc : ¬ r.1 ≠ 0 := by simpa using hc
  rw [if_neg hc] at hW
  intro d
  have kd := Keep.drew (fun _ => False) w7 d
  have h8 := h7.keep0 kd
  have hb8 : Has (w7.dr d) w1.heap.size _ := hb7
  have k08 := ArF.trans k07 (ArF.none kd)
  generalize w7.dr d = w8 at *
  refine ⟨fun _ => True, trivial, ?_⟩
  refine LdV_has (v := .pointer (some ⟨q.pb.p, 0, none⟩)) h8.cells rfl (OpN_some.2 ?_)
  refine LdV_has (v := .int .i64 p.1) hb8 rfl (OpI_int.2 ?_)
  refine LdV_has (v := .int .u64 p.2.2) hb8 rfl (OpI_int.2 ?_)
  refine pr_Flushed h8.pair hp0 (by omega) fun w9 p9 k9 => OpI_int.2 ⟨trivial, Ret_nil.2 ?_⟩
  exact hW w9 hp hmin (h8.ofPair p9 k9) (ArF.trans k08 (k9.mono fun i e => PFoot.arF e))

/-! ### alone -/
def setUpA (s : AS) (f v : Bool) : AS := { s with ua := cond f s.ua v, ub := cond f v s.ub }
def setEpA (s : AS) (f : Bool) (e : Int) : AS := { s with ea := cond f s.ea e, eb := cond f e s.eb }
def aloneA (q : AB) (s : AS) (f : Bool) : Int × AS :=
  let s1 := setUpA { s with ps := (leaveP s.ps (!f)).2 } (!f) false
  let a := afterS (max (epA s f) (keyS s.ss)) (sideN f)
  if a.2 ≠ 0 then (a.2, s1)
  else
    let r := stampP q.pb.sz s1.ps a.1
    if r.1 ≠ 0 then (r.1, { s1 with ps := r.2 })
    else (0, setEpA { s1 with ps := r.2, ds := (fenceS ⟨s1.ds, r.2.pw⟩ a.1).2.ds } f a.1)
theorem fence_pw (s : SS) (e : Int) : (fenceS s e).2.pw = s.pw := by unfold fenceS; split <;> rfl
theorem ArAt.ofSet {w' : World} (h : ArAt w q lk s) {s' : SS} (hs : SetAt w' q.sb s') (k : Keep (SFoot q.sb) w w') : ArAt w' q lk { s with ds := s'.ds, ps := { s.ps with pw := s'.pw } } :=
  h.ofStm (h.stm.ofSet hs k) (k.mono fun i e => Or.inr e)
end calls
end Go.Proofs

namespace Go.Proofs
open Go Go.Ev
set_option linter.unusedSimpArgs false
set_option linter.unusedVariables false
set_option maxRecDepth 100000
section calls
variable {w : World} {q : AB} {lk : Int} {s : AS} {R : Value → World → Prop}
theorem ar_disk (h : ArAt w q lk s) (hon : s.ps.pw.on = true) {n : Nat} {b r : Nat} (hb : q.bks[n]? = some (b, r)) (hK : R (.tuple #[.pointer (some ⟨b, 0, none⟩), .int .i64 0]) w) : CallV Tryz.prog 86 #[.pointer (some ⟨q.a, 0, none⟩), .int .i64 (n : Int)] w R := by
  apply C_array_Array_disk
  unfold F_array_Array_disk
  have hlen : q.bks.length = q.g.d.toNat := by have := h.disks.length; rw [List.length_map] at this; exact this.symm
  have hn : n < q.g.d.toNat := by rw [← hlen]; exact (List.getElem?_eq_some_iff.1 hb).1
  refine ar_on h (ma_On h.pair.main (OpB_bool.2 ?_))
  rw [hon]
  refine (Cb_false (p := _)).2 ?_
  rw [decide_eq_false (by omega)]
  refine (Cb_false (p := _)).2 ?_
  refine LdV_has (v := .slice q.sp q.g.d.toNat q.sc) h.cells rfl (OpS_slice.2 ?_)
  rw [decide_eq_false (by omega)]
  refine (Cb_false (p := _)).2 ?_
  refine LdV_has (v := .slice q.sp q.g.d.toNat q.sc) h.cells rfl (OpS_slice.2 ?_)
  refine h.disks.ld0 (x := b) rfl (by omega) (by rw [Int.toNat_natCast, List.getElem?_map, hb]; rfl) rfl (OpN_some.2 (Ret_nil.2 hK))
def failA (s : AS) (n : Nat) : AS := { s with ds := s.ds.set n { s.ds.getD n dsk0 with dead := true } }
theorem ar_Fail0 (h : ArAt w q lk s) (hon : s.ps.pw.on = true) {n : Nat} (hn : n < s.ds.length) (hal : (s.ds.getD n dsk0).dead = false) (hother : ∃ i : Nat, i < s.ds.length ∧ i ≠ n ∧ (s.ds.getD i dsk0).dead = false)
    (hK : ∀ w', ArAt w' q lk (failA s n) → Keep (ArF q w) w w' → R (.int .i64 0) w') : CallV Tryz.prog 20 #[.pointer (some ⟨q.a, 0, none⟩), .int .i64 (n : Int)] w R := by
  apply C_array_Array_Fail
  unfold F_array_Array_Fail
  obtain ⟨b, r, D, hb, hD, hdk, hdl⟩ := h.set.get (show n < s.ss.ds.length from hn)
  have hlen : q.bks.length = q.g.d.toNat := by have := h.disks.length; rw [List.length_map] at this; exact this.symm
  have hlen2 : s.ds.length = q.g.d.toNat := by rw [← hlen]; exact h.set.len.symm
  have hgd := h.set.geo.d
  have hgd : q.g.d ≤ 32 := hgd.2
  have hDg : s.ds.getD n dsk0 = D := by
    have hD : s.ds[n]? = some D := hD
    rw [List.getD_eq_getElem?_getD, hD]; rfl
  refine ar_disk h hon hb (T2_mk.2 (OpP_some.2 (OpI_int.2 ((Cb_false (p := _)).2 ?_))))
  refine d_Alive hdk (OpB_bool.2 ?_)
  rw [← hDg, hal]
  refine (Cb_false (p := _)).2 ?_
  refine LdV_has (v := .slice q.sp q.g.d.toNat q.sc) h.cells rfl (OpS_slice.2 ?_)
  refine LoopC_of (σ := Int × Unit) (fun st w' => w' = w ∧ ∃ k : Nat, st.1 = (k : Int) ∧ k ≤ q.g.d.toNat ∧ ∀ i : Nat, i < k → i ≠ n → (s.ds.getD i dsk0).dead = true) (fun st _ => ((q.g.d.toNat : Int) - st.1).toNat) ⟨rfl, 0, rfl, by omega, fun i hi => absurd hi (by omega)⟩ ?_
  rintro _ ⟨j, u⟩ w2 ⟨rfl, k, hj, hk, hd⟩
  simp only at hj ⊢
  subst hj
  have nx : (∀ i : Nat, i < k + 1 → i ≠ n → (s.ds.getD i dsk0).dead = true) → k < q.g.d.toNat → ∃ m, m < ((q.g.d.toNat : Int) - (k : Int)).toNat ∧ ((w2 = w2 ∧ ∃ k' : Nat, IntKind.wrap .i64 ((k : Int) + 1) = (k' : Int) ∧ k' ≤ q.g.d.toNat ∧ ∀ i : Nat, i < k' → i ≠ n → (s.ds.getD i dsk0).dead = true) ∧ ((q.g.d.toNat : Int) - IntKind.wrap .i64 ((k : Int) + 1)).toNat = m) := fun hh hlt => by
    rw [wrapI (by omega) (by omega)]
    exact ⟨_, by omega, ⟨rfl, k + 1, by omega, hlt, hh⟩, rfl⟩
  refine Cb_of (fun hc => ?_) (fun hc => ?_)
  · have hc : k < q.g.d.toNat := by simp at hc; omega
    obtain ⟨b2, r2, D2, hb2, hD2, hdk2, _⟩ := h.set.get (show k < s.ss.ds.length by show k < s.ds.length; omega)
    have hb2 : q.bks[k]? = some (b2, r2) := hb2
    have hDg2 : s.ds.getD k dsk0 = D2 := by
      have hD2 : s.ds[k]? = some D2 := hD2
      rw [List.getD_eq_getElem?_getD, hD2]; rfl
    refine h.disks.ld0 (x := b2) rfl (by omega) (by rw [Int.toNat_natCast, List.getElem?_map, hb2]; rfl) rfl (OpN_some.2 ?_)
    refine Cb_of (fun hne => ?_) (fun hne => ?_)
    · have hne : k ≠ n := by simp at hne; omega
      refine d_Alive hdk2 (OpB_bool.2 ?_)
      rw [← hDg2]
      refine Cb_of (fun ha => ?_) (fun ha => ?_)
      · refine d_Fail hdk fun w3 hd3 k3 => Ret_nil.2 ?_
        have hs := h.set.upd hb (k3.mono fun i e => Or.inr (Or.inl e)) hd3 hdl (k3.has (show Has w2 _ _ from h.set.main) fun e => (hdk.nem h.set.main).1 e.symm)
        have hsf : Keep (SFoot q.sb) w2 w3 := k3.mono fun i e => Or.inr (Or.inl (by rw [e]; exact List.mem_map.2 ⟨(b, r), List.mem_of_getElem? hb, rfl⟩))
        have h3 := h.ofSet hs hsf
        have e : ({ s with ds := s.ds.set n { D with dead := true }, ps := { s.ps with pw := s.ss.pw } } : AS) = failA s n := by unfold failA; rw [hDg]; rfl
        have h3 : ArAt w3 q lk { s with ds := s.ds.set n { D with dead := true }, ps := { s.ps with pw := s.ss.pw } } := h3
        rw [e] at h3
        exact hK w3 h3 (hsf.mono fun i e => Or.inr (Or.inl e))
      · have ha : (s.ds.getD k dsk0).dead = true := by simpa using ha
        exact nx (fun i hi hin => by
          by_cases hik : i = k
          · rw [hik]; exact ha
          · exact hd i (by omega) hin) hc
    · have hne : k = n := by simp at hne; omega
      obtain ⟨m, m1, ⟨_, m2⟩, m3⟩ := nx (fun i hi hin => hd i (by omega) hin) hc
      exact ⟨m, m1, ⟨by trivial, m2⟩, m3⟩
  · have hc : ¬ k < q.g.d.toNat := by simp at hc; omega
    obtain ⟨i, hi, hin, hia⟩ := hother
    rw [hd i (by omega) hin] at hia
    cases hia
end calls
end Go.Proofs

namespace Go.Proofs
open Go Go.Ev Go.RowKit
set_option linter.unusedSimpArgs false
set_option linter.unusedVariables false
set_option maxRecDepth 100000

/-! ### records in a memory -/
/-- what a memory keeps: whole records, and less than one behind them -/
def KeptB (bs : List Int) (L : List Rec) : Prop := (∀ r ∈ L, RcOk r) ∧ ∃ t : List Int, t.length < 37 ∧ By t ∧ bs = L.flatMap packB ++ t
theorem KeptB.mk {L : List Rec} (h : ∀ r ∈ L, RcOk r) : KeptB (L.flatMap packB) L := ⟨h, [], by decide, fun x hx => by simp at hx, by simp⟩
/-- just the whole records -/
def WholeB (bs : List Int) (L : List Rec) : Prop := (∀ r ∈ L, RcOk r) ∧ bs = L.flatMap packB
theorem WholeB.app {bs : List Int} {L : List Rec} (h : WholeB bs L) {r : Rec} (hr : RcOk r) : WholeB (bs ++ packB r) (L ++ [r]) := by
  obtain ⟨h1, rfl⟩ := h
  refine ⟨fun x hx => ?_, by simp⟩
  rcases List.mem_append.1 hx with hx | hx
  · exact h1 x hx
  · rw [List.mem_singleton.1 hx]; exact hr
theorem WholeB.len {bs : List Int} {L : List Rec} (h : WholeB bs L) : (bs.length : Int) = 37 * (L.length : Int) := by
  obtain ⟨h1, rfl⟩ := h
  rw [recs_len]; omega
/-! ### what is pending -/
theorem pendS_nil {LL : List (List Rec)} (h : pendG LL = []) : pendS LL = [] := by unfold pendS; rw [h]; simp [sortU]
def recsW (v : Int) (P : List PutS) : List Rec := recsI v P ++ [recK 5 v]
theorem recsW_len (v : Int) (P : List PutS) : (recsW v P).length = P.length + 2 := by unfold recsW recsI; simp
theorem grp_append {v : Int} (a b : List Rec) : grp v (a ++ b) = grp v a ++ grp v b := by unfold grp; simp
/-! ### a write with the power going at any step -/
theorem planS_seal {g : Geo} {s : SS} (hs : SsOk g s) {now : Int → Sec} (hi : Inv g s now) (hn : ∀ l, SecOk (now l)) (hon : s.pw.on = true) {lba : Int} (h0 : 0 ≤ lba) (h1 : lba < (g.d - 2) * g.c * g.s) {data : Sec} (hd : SecOk data) (hlost : lostN (colsS g s (spotP g lba).1 (spotP g lba).2.2) ≤ 2) :
    (planS g s lba data).2 = 0 ∧ ∀ x ∈ (planS g s lba data).1, Sealed g s x ∧ sealP x = x := by
  have hg := hs.geo
  obtain ⟨pst, pco, pof⟩ := spotP_ok hg h0 h1
  have hrow := hi.rowR hg hn pst pof hlost
  have hplan : planS g s lba data = (planL g s (spotP g lba).1 (spotP g lba).2.2 (rowW (Go.Proofs.rowR (colsS g s (spotP g lba).1 (spotP g lba).2.2)) (spotP g lba).2.1.toNat data) [(spotP g lba).2.1, g.d - 2, g.d - 1], 0) := by
    unfold planS
    simp only
    rw [if_neg (by rw [hon]; decide), if_pos hlost]
  rw [hplan, hrow]
  have hd' := hg.d
  have hls := lbaP_spot hg lba
  generalize spotP g lba = x at *
  rw [rowW_full (by rw [len_rowT]; omega), ← rowT_upd_same hg pst.1 pof pco, hls]
  refine ⟨rfl, fun y hy => ?_⟩
  have hfull := fullT_ok (rowT_ok (g := g) (upd_ok hn hd lba) x.1 x.2.2)
  have hpo := planL_ok hg pst pof y hy
  unfold planL at hy
  obtain ⟨k, hk, hyk⟩ := List.mem_filterMap.1 hy
  unfold planK at hyk
  split at hyk
  · cases hyk
  · rename_i hal
    cases hyk
    refine ⟨⟨hpo, ?_, rfl, ?_⟩, rfl⟩
    · show SecOk ((fullT (rowT g (upd now lba data) x.1 x.2.2)).getD k.toNat (sec []))
      rw [List.getD_eq_getElem?_getD]
      cases hx : (fullT (rowT g (upd now lba data) x.1 x.2.2))[k.toNat]? with
      | none => exact sec0_ok
      | some f => exact hfull f (List.mem_of_getElem? hx)
    · unfold deadS
      show (s.ds.getD (plcP g x.1 x.2.2 k).dk.toNat dsk0).dead = false
      simpa using hal
theorem seal_inR {g : Geo} {s : SS} {x : PutS} (hg : GeoOk g) (h : Sealed g s x) : InR x := by
  obtain ⟨⟨⟨a1, a2⟩, a3, a4⟩, _⟩ := h
  have h1 := hg.d
  have h2 := hg.c
  have h3 := hg.s
  have : g.c * g.s ≤ 8 * 64 := Int.mul_le_mul h2.2 h3.2 (by omega) (by omega)
  exact ⟨⟨a1, by omega⟩, a3, by omega⟩
theorem badPut_in {x : PutS} (h : InR x) : badPut x = false := by
  obtain ⟨⟨a1, a2⟩, a3, a4⟩ := h
  unfold badPut
  rw [decide_eq_false (by omega), decide_eq_false (by omega), decide_eq_false (by omega), decide_eq_false (by omega)]
  rfl
end Go.Proofs

namespace Go.Proofs
open Go Go.Ev
set_option linter.unusedSimpArgs false
set_option linter.unusedVariables false
set_option maxRecDepth 100000

/-- a disk fails -/
def failS (s : SS) (i : Int) : SS := ⟨s.ds.set i.toNat { (s.ds.getD i.toNat dsk0) with dead := true }, s.pw⟩
theorem failS_get {s : SS} {i : Int} (hi : i.toNat < s.ds.length) (j : Nat) : (failS s i).ds.getD j dsk0 = if i.toNat = j then { (s.ds.getD i.toNat dsk0) with dead := true } else s.ds.getD j dsk0 := by
  unfold failS
  exact getD_setS hi _ _
theorem failS_dead {s : SS} {i j : Int} (h0 : 0 ≤ i) (hi : i.toNat < s.ds.length) (hj : 0 ≤ j) : deadS (failS s i) j = true ↔ (j = i ∨ deadS s j = true) := by
  unfold deadS
  rw [failS_get hi]
  by_cases e : i.toNat = j.toNat
  · rw [if_pos e]
    have : j = i := by omega
    simp [this]
  · rw [if_neg e]
    have : ¬ j = i := fun h => e (by rw [h])
    simp [this]
theorem failS_key {s : SS} {i : Int} (hi : i.toNat < s.ds.length) (j : Nat) : ((failS s i).ds.getD j dsk0).key = (s.ds.getD j dsk0).key := by
  rw [failS_get hi]
  by_cases e : i.toNat = j
  · rw [if_pos e, ← e]
  · rw [if_neg e]
theorem failS_view {s : SS} {i j a : Int} (h0 : 0 ≤ i) (hi : i.toNat < s.ds.length) (hj : 0 ≤ j) : viewS (failS s i) j a = if j = i then none else viewS s j a := by
  unfold viewS
  rw [failS_get hi]
  by_cases e : i.toNat = j.toNat
  · rw [if_pos e, if_pos (by omega)]
    unfold cellD
    rw [if_pos rfl]
  · rw [if_neg e, if_neg (fun h => e (by rw [h]))]
theorem failS_ok {g : Geo} {s : SS} (h : SsOk g s) {i : Int} (h0 : 0 ≤ i) (hi : i < g.d) : SsOk g (failS s i) := by
  have hm := h.get h0 hi
  refine ⟨h.geo, by unfold failS; simpa using h.num, fun D hD => ?_, fun D hD => ?_⟩
  · unfold failS at hD
    rcases List.mem_or_eq_of_mem_set hD with hD | rfl
    · exact h.len D hD
    · exact h.len (s.ds.getD i.toNat dsk0) hm
  · unfold failS at hD
    rcases List.mem_or_eq_of_mem_set hD with hD | rfl
    · exact h.ok D hD
    · exact h.ok (s.ds.getD i.toNat dsk0) hm
theorem failS_inv {g : Geo} {s : SS} {now : Int → Sec} (hs : SsOk g s) (h : Inv g s now) {i : Int} (h0 : 0 ≤ i) (hi : i < g.d) : Inv g (failS s i) now := by
  have hn := hs.num
  intro st off hst hof k hk f hv
  obtain ⟨pk1, pk2⟩ := plcP_ok hs.geo hst hof (k : Int)
  rw [failS_view h0 (by omega) pk1.1] at hv
  split at hv
  · cases hv
  · exact h st off hst hof k hk f hv
/-- what is lost of a set lies on disks that have failed; these are two at most -/
structure TwoS (g : Geo) (s : SS) (X Y : Int) : Prop where
  cells : ∀ i a, 0 ≤ i ∧ i < g.d → 0 ≤ a ∧ a < g.c * g.s → viewS s i a = none → deadS s i = true
  dead : ∀ i, 0 ≤ i → deadS s i = true → i = X ∨ i = Y
theorem TwoS.lost {g : Geo} (hg : GeoOk g) {s : SS} {X Y : Int} (h : TwoS g s X Y) {st off : Int} (hst : 0 ≤ st ∧ st < g.s) (hof : 0 ≤ off ∧ off < g.c) : lostN (colsS g s st off) ≤ 2 :=
  lost_two hg hst hof X Y fun k hk hv => by
    obtain ⟨pk1, pk2⟩ := plcP_ok hg hst hof (k : Int)
    exact h.dead _ pk1.1 (h.cells _ _ pk1 pk2 hv)
theorem TwoS.fail {g : Geo} {s : SS} {X Y : Int} (hs : SsOk g s) (h : TwoS g s X Y) {i : Int} (h0 : 0 ≤ i) (hi : i < g.d) (hX : i = X ∨ i = Y) : TwoS g (failS s i) X Y := by
  have hn := hs.num
  refine ⟨fun j a hj ha hv => ?_, fun j hj hd => ?_⟩
  · rw [failS_dead h0 (by omega) hj.1]
    rw [failS_view h0 (by omega) hj.1] at hv
    split at hv
    · exact Or.inl ‹_›
    · exact Or.inr (h.cells j a hj ha hv)
  · rcases (failS_dead h0 (by omega) hj).1 hd with e | e
    · rw [e]; exact hX
    · exact h.dead j hj e
theorem TwoS.write {g : Geo} {s s' : SS} {X Y lba : Int} {now : Int → Sec} {data : Sec} (h : TwoS g s X Y) (hw : Written g s s' now lba data) : TwoS g s' X Y :=
  ⟨fun j a hj ha hv => by
    rw [hw.dead]
    rcases hw.view j a hj.1 ha.1 hv with e | e
    · exact h.cells j a hj ha e
    · exact e, fun j hj hd => h.dead j hj (by rw [← hw.dead]; exact hd)⟩
section calls
variable {w0 w : World} {g : Geo} {b2 b3 m : Nat} {bks : List (Nat × Nat)} {p : Option Addr} {c : Nat} {pr : Option Addr} {cr : Nat} {xs : List (Nat × Nat × Nat)}
end calls
end Go.Proofs

namespace Go.Proofs
open Go Go.Ev Go.RowKit
set_option linter.unusedSimpArgs false
set_option linter.unusedVariables false
set_option maxRecDepth 100000

theorem StmAt.pow {w w1 : World} {q : MB} {g : Geo} {bks : List (Nat × Nat)} {base : Nat} {dp : Option Addr} {dc : Nat} {s : SS} {xa xb : List Int} {pw : Pow} (h : StmAt w q g bks base dp dc s xa xb) (k : Keep (fun k => k = q.m) w w1) (hm : MaAt w1 q.m pw) : StmAt w1 q g bks base dp dc ⟨s.ds, pw⟩ xa xb :=
  h.ofMems (s' := ⟨pw, xa, xb⟩) (h.mems.pow k (fun i _ e => e) hm) (k.mono fun i e => Or.inl e)
/-- the set, the memories, and what the law has in memory -/
structure WhI (w0 w : World) (q : MB) (g : Geo) (bks : List (Nat × Nat)) (b1 b2 b3 b5 : Nat) (old now : Sec) (rp : Option Addr) (dp : Option Addr) (dc : Nat) (s : SS) (xa xb : List Int) : Prop where
  stm : StmAt w q g bks w0.heap.size dp dc s xa xb
  set : Has w b5 (.cells (setV g dp g.d.toNat dc) 51 (0, 0))
  geo : Has w b3 (.cells (geoV g) 24 (0, 0))
  o : Has w b1 (.cells (secV old) 37 (0, 0))
  n : Has w b2 (.cells (secV now) 37 (0, 0))
  r : SlT dLay w 104 rp 2 2 ([false, true].map (ramM q))
  lowS : ∀ i, SFoot ⟨q.m, g, bks⟩ i → w0.heap.size ≤ i
  lowM : w0.heap.size ≤ q.a ∧ w0.heap.size ≤ q.b ∧ q.base = w0.heap.size
  k : Keep (fun _ => False) w0 w
section inv
variable {w0 w w1 : World} {q : MB} {g : Geo} {bks : List (Nat × Nat)} {b1 b2 b3 b5 : Nat} {old now : Sec} {rp dp : Option Addr} {dc : Nat} {s s' : SS} {xa xb xa' xb' : List Int}
theorem WhI.to (h : WhI w0 w q g bks b1 b2 b3 b5 old now rp dp dc s xa xb) (hs : StmAt w1 q g bks w0.heap.size dp dc s' xa' xb') (k : Keep (WFoot q g bks w) w w1) : WhI w0 w1 q g bks b1 b2 b3 b5 old now rp dp dc s' xa' xb' :=
  ⟨hs, WFoot.has h.stm k h.set (by decide) (by decide) (by decide) (by decide) (by decide), WFoot.has h.stm k h.geo (by decide) (by decide) (by decide) (by decide) (by decide), WFoot.has h.stm k h.o (by decide) (by decide) (by decide) (by decide) (by decide),
    WFoot.has h.stm k h.n (by decide) (by decide) (by decide) (by decide) (by decide), WFoot.slt h.stm k h.r (by decide) (by decide) (by decide) (by decide) (by decide), h.lowS, h.lowM, h.k.trans' k fun i hi hf => by
      have hl := h.lowM
      have hm := h.lowS q.m (Or.inl rfl)
      rcases hf with (e | e | e | ⟨hb, _⟩) | e
      · omega
      · omega
      · omega
      · omega
      · have := h.lowS i e; omega⟩
theorem WhI.keep0 (h : WhI w0 w q g bks b1 b2 b3 b5 old now rp dp dc s xa xb) (k : Keep (fun _ => False) w w1) : WhI w0 w1 q g bks b1 b2 b3 b5 old now rp dp dc s xa xb := h.to (h.stm.keep0 k) (WFoot.none k)
theorem WhI.pow {pw : Pow} (h : WhI w0 w q g bks b1 b2 b3 b5 old now rp dp dc s xa xb) (k : Keep (fun k => k = q.m) w w1) (hm : MaAt w1 q.m pw) : WhI w0 w1 q g bks b1 b2 b3 b5 old now rp dp dc ⟨s.ds, pw⟩ xa xb :=
  h.to (h.stm.pow k hm) (k.mono fun i e => Or.inl (Or.inl e))
end inv
end Go.Proofs

namespace Go.Proofs
open Go Go.Ev Go.RowKit
set_option linter.unusedSimpArgs false
set_option linter.unusedVariables false
set_option maxRecDepth 100000

theorem putV_none : ∀ (xs : List PutS) {v : Int → Int → Option Sec} {i a : Int}, putV xs v i a = none → v i a = none
  | [], _, _, _, h => h
  | x :: xs, v, i, a, h => by
    have : (if i = x.plc.dk ∧ a = x.plc.at_ then some x.cel.data else v i a) = none := putV_none xs h
    split at this
    · cases this
    · exact this
theorem planS_pw {g : Geo} {ds : List Dsk} {p p' : Pow} (h : p.on = true) (h' : p'.on = true) (lba : Int) (data : Sec) : planS g ⟨ds, p⟩ lba data = planS g ⟨ds, p'⟩ lba data := by
  unfold planS
  rw [show ({ ds := ds, pw := p } : SS).pw.on = true from h, show ({ ds := ds, pw := p' } : SS).pw.on = true from h']
  rfl
theorem TwoS.cut {g : Geo} {s s' : SS} {X Y : Int} {xs : List PutS} (h : TwoS g s X Y) (k : CutS g s s' xs) : TwoS g s' X Y :=
  ⟨fun i a hi ha hv => by
    rw [k.dead]
    rw [k.view i a hi.1 ha.1] at hv
    exact h.cells i a hi ha (putV_none xs hv), fun i hi hd => h.dead i hi (by rw [← k.dead]; exact hd)⟩
theorem SsOk.pw {g : Geo} {s : SS} (h : SsOk g s) (p : Pow) : SsOk g ⟨s.ds, p⟩ := ⟨h.geo, h.num, h.len, h.ok⟩
/-- behind all of the cells of a write the set holds what was written -/
theorem CutS.inv {g : Geo} {s s' : SS} (hs : SsOk g s) {now : Int → Sec} (hi : Inv g s now) (hn : ∀ l, SecOk (now l)) (hon : s.pw.on = true) {lba : Int} (h0 : 0 ≤ lba) (h1 : lba < (g.d - 2) * g.c * g.s) {data : Sec} (hd : SecOk data) (hlost : lostN (colsS g s (spotP g lba).1 (spotP g lba).2.2) ≤ 2)
    (hk : ∀ i : Nat, (s.ds.getD i dsk0).key ≤ 0) (k : CutS g s s' (planS g s lba data).1) : Inv g s' (upd now lba data) := by
  have hss := hs.pw ⟨true, 0, 0⟩
  have hinv : Inv g ⟨s.ds, ⟨true, 0, 0⟩⟩ now := hi
  obtain ⟨hp2, hps⟩ := planS_seal hs hi hn hon h0 h1 hd hlost
  obtain ⟨-, s2, e2, w2⟩ := hinv.write (ep := 0) hss hn ⟨rfl, rfl⟩ h0 h1 hd hk hlost
  have ep : planS g ⟨s.ds, ⟨true, 0, 0⟩⟩ lba data = planS g s lba data := planS_pw (p := ⟨true, 0, 0⟩) (p' := s.pw) rfl hon lba data
  rw [ep] at e2
  obtain ⟨j, c1, c2, c3, c4⟩ := applyS_cut (ep := 0) (xs := (planS g s lba data).1) hss rfl (fun x hx => (hps x hx).1) hk
  have hj : j = (planS g s lba data).1.length := by
    rcases c3 with ⟨_, e, _⟩ | ⟨e, _⟩
    · exact e
    · rw [(c4 rfl).1] at e; cases e
  rw [hj, List.take_length, e2] at c2
  exact w2.inv.see hs.geo fun i a hi' ha => by rw [k.view i a hi' ha]; exact (c2.view i a hi' ha).symm
end Go.Proofs

/-
  THE LAWS OF STRIPE: sectors that are hurt. Plain, and the call.
-/
namespace Go.Proofs
open Go Go.Ev
set_option linter.unusedSimpArgs false
set_option linter.unusedVariables false
set_option maxRecDepth 100000

/-- a sector of a disk is hurt -/
def hurtS (s : SS) (i a : Int) : SS := ⟨s.ds.set i.toNat (hurtD (s.ds.getD i.toNat dsk0) a), s.pw⟩
theorem hurtD_cell {D : Dsk} {a b : Int} (ha : 0 ≤ a ∧ a < (D.secs.length : Int)) (hb : 0 ≤ b) : cellD (hurtD D a) b = if b = a then none else cellD D b := by
  unfold hurtD
  rw [if_pos ha]
  by_cases hd : D.dead = true
  · rw [if_pos hd]
    unfold cellD
    rw [if_pos hd]
    split <;> rfl
  · rw [if_neg hd]
    show (if D.dead = true then none else if ((D.secs.set a.toNat { (D.secs.getD a.toNat sct0) with good := false }).getD b.toNat sct0).good = false then none else if ((D.secs.set a.toNat { (D.secs.getD a.toNat sct0) with good := false }).getD b.toNat sct0).cel.sum = sumS b ((D.secs.set a.toNat { (D.secs.getD a.toNat sct0) with good := false }).getD b.toNat sct0).cel.data then some ((D.secs.set a.toNat { (D.secs.getD a.toNat sct0) with good := false }).getD b.toNat sct0).cel.data else none) = _
    rw [if_neg hd, getD_setS (by omega)]
    by_cases e : b = a
    · subst e
      rw [if_pos rfl, if_pos rfl, if_pos rfl]
    · rw [if_neg (show ¬ a.toNat = b.toNat by omega), if_neg e]
      unfold cellD
      rw [if_neg hd]
theorem hurtS_get {s : SS} {i a : Int} (hi : i.toNat < s.ds.length) (j : Nat) : (hurtS s i a).ds.getD j dsk0 = if i.toNat = j then hurtD (s.ds.getD i.toNat dsk0) a else s.ds.getD j dsk0 := by
  unfold hurtS
  exact getD_setS hi _ _
theorem hurtS_view {g : Geo} {s : SS} (h : SsOk g s) {i a : Int} (hi : 0 ≤ i ∧ i < g.d) (ha : 0 ≤ a ∧ a < g.c * g.s) {j b : Int} (hj : 0 ≤ j) (hb : 0 ≤ b) : viewS (hurtS s i a) j b = if j = i ∧ b = a then none else viewS s j b := by
  have hn := h.num
  have hl := h.len _ (h.get hi.1 hi.2)
  unfold viewS
  rw [hurtS_get (by omega)]
  by_cases e : i.toNat = j.toNat
  · have e' : j = i := by omega
    rw [if_pos e, hurtD_cell (by rw [hl]; exact ha) hb]
    by_cases e2 : b = a
    · rw [if_pos e2, if_pos ⟨e', e2⟩]
    · rw [if_neg e2, if_neg (fun h => e2 h.2), e]
  · rw [if_neg e, if_neg (fun h => e (by rw [h.1]))]
section calls
variable {w0 w : World} {g : Geo} {b2 b3 m : Nat} {bks : List (Nat × Nat)} {p : Option Addr} {c : Nat} {pr : Option Addr} {cr : Nat} {xs : List (Nat × Nat × Nat)} {R : Value → World → Prop}
end calls
end Go.Proofs

/-
  StripeRows, plain: how many columns are lost.
-/
namespace Go.Proofs
open Go Go.Ev
set_option linter.unusedSimpArgs false
set_option linter.unusedVariables false
set_option maxRecDepth 100000

theorem lost_mem {g : Geo} {s : SS} {st off : Int} {k : Nat} (hk : k < g.d.toNat) (hv : viewS s (plcP g st off (k : Int)).dk (plcP g st off (k : Int)).at_ = none) : (k : Int) ∈ goneL (colsS g s st off) := by
  have := colsS_view (g := g) (s := s) (st := st) (off := off) hk
  rw [hv] at this
  exact gone_mem this
end Go.Proofs

/-
  A SET THAT IS USED: what stands, and its calls, each at once.
-/
namespace Go.Proofs
open Go Go.Ev
set_option linter.unusedSimpArgs false
set_option linter.unusedVariables false
set_option maxRecDepth 100000

/-- a set whose power is on and whose keys are noughts, that holds what was written -/
structure StI (w : World) (base : Nat) (g : Geo) (m : Nat) (bks : List (Nat × Nat)) (p : Option Addr) (c : Nat) (s : SS) (now : Int → Sec) : Prop where
  set : SetAt w ⟨m, g, bks⟩ s
  disks : OwnL dLay w base 111 p g.d.toNat c (bks.map Prod.fst)
  ss : SsOk g s
  lit : Lit0 s.pw
  key : ∀ i : Nat, (s.ds.getD i dsk0).key ≤ 0
  inv : Inv g s now
  nok : ∀ l, SecOk (now l)
section calls
variable {w w' : World} {base : Nat} {g : Geo} {m : Nat} {bks : List (Nat × Nat)} {p : Option Addr} {c : Nat} {s : SS} {now : Int → Sec} {R : Value → World → Prop}
theorem StI.keep0 (h : StI w base g m bks p c s now) (k : Keep (fun _ => False) w w') : StI w' base g m bks p c s now :=
  ⟨h.set.keep0 k, h.disks.keep k (by simp), h.ss, h.lit, h.key, h.inv, h.nok⟩
theorem StI.keep {S : Nat → Prop} (h : StI w base g m bks p c s now) (k : Keep S w w') (hS : ∀ b, SFoot ⟨m, g, bks⟩ b → ¬ S b) (hD : ∀ b, p = some ⟨b, 0, none⟩ → ¬ S b) : StI w' base g m bks p c s now :=
  ⟨h.set.keep k hS, h.disks.keep k hD, h.ss, h.lit, h.key, h.inv, h.nok⟩
theorem StI.off (h : StI w base g m bks p c s now) : ∀ b o, p = some ⟨b, o, none⟩ → ¬ SFoot ⟨m, g, bks⟩ b := fun b o hb hi => by
  rcases Own.cases h.disks with ⟨h0, _⟩ | ⟨b', cur, h0, _, hg, _⟩
  · rw [h0] at hb; cases hb
  · rw [h0] at hb; cases hb
    exact h.set.typ hg (by decide) (by decide) (by decide) hi
theorem StI.disks' (h : StI w base g m bks p c s now) (k : Keep (SFoot ⟨m, g, bks⟩) w w') : OwnL dLay w' base 111 p g.d.toNat c (bks.map Prod.fst) :=
  h.disks.keep k fun b hb => h.off b 0 hb
theorem StI.plan (h : StI w base g m bks p c s now) {lba : Int} (h0 : 0 ≤ lba) (h1 : lba < (g.d - 2) * g.c * g.s) {data : Sec} (hdat : SecOk data) (hlost : lostN (colsS g s (spotP g lba).1 (spotP g lba).2.2) ≤ 2)
    (hK : ∀ p' n c' w', n = (planS g s lba data).1.length → n ≤ 3 → OwnL puLay w' w.heap.size 88 p' n c' (planS g s lba data).1 → Keep (fun _ => False) w w' → R (.tuple #[.slice p' n c', .int .i64 0]) w') :
    CallV Tryz.prog 35 #[.agg (setV g p g.d.toNat c), .int .i64 lba, .agg (secV data)] w R := by
  obtain ⟨hp2, -⟩ := h.inv.write (ep := 0) h.ss h.nok h.lit h0 h1 hdat h.key hlost
  refine st_Plan h.set h.disks.sl h.disks.cap.1 h.ss.ok h0 h1 hdat fun p' c' w' o k => ?_
  have hp2' : (planS (SB.mk m g bks).g s lba data).2 = 0 := hp2
  rw [hp2']
  have hlen : (planS g s lba data).1.length ≤ 3 := by
    have : planS g s lba data = (planL g s (spotP g lba).1 (spotP g lba).2.2 (rowW (rowR (colsS g s (spotP g lba).1 (spotP g lba).2.2)) (spotP g lba).2.1.toNat data) [(spotP g lba).2.1, g.d - 2, g.d - 1], 0) := by
      unfold planS
      simp only
      rw [if_neg (by rw [h.lit.1]; decide), if_pos hlost]
    rw [this]
    exact Nat.le_trans (List.length_filterMap_le _ _) (by simp)
  exact hK p' _ c' w' rfl hlen o k
theorem StI.apply (h : StI w base g m bks p c s now) {lba : Int} (h0 : 0 ≤ lba) (h1 : lba < (g.d - 2) * g.c * g.s) {data : Sec} (hdat : SecOk data) (hlost : lostN (colsS g s (spotP g lba).1 (spotP g lba).2.2) ≤ 2)
    {pb : Nat} {pp : Option Addr} {pl pc : Nat} (hpl : pl ≤ 3) (o : OwnL puLay w pb 88 pp pl pc (planS g s lba data).1)
    (hK : ∀ w' s', applyS g s (planS g s lba data).1 0 = (0, s') → Written g s s' now lba data → StI w' base g m bks p c s' (upd now lba data) → Keep (SFoot ⟨m, g, bks⟩) w w' → R (.int .i64 0) w') :
    CallV Tryz.prog 38 #[.agg (setV g p g.d.toNat c), .slice pp pl pc, .int .u32 0] w R := by
  obtain ⟨-, s', hap, hw⟩ := h.inv.write (ep := 0) h.ss h.nok h.lit h0 h1 hdat h.key hlost
  refine st_Apply h.set h.disks.sl h.disks.cap.1 h.off o.sl (by omega) (fun b' o' hb' hi => ?_) fun w3 hS3 k3 => ?_
  · rcases Own.cases o with ⟨e0, _⟩ | ⟨b'', cur, e0, _, hg', _⟩
    · rw [e0] at hb'; cases hb'
    · rw [e0] at hb'; cases hb'
      exact h.set.typ hg' (by decide) (by decide) (by decide) hi
  have hap' : applyS (SB.mk m g bks).g s (planS g s lba data).1 0 = (0, s') := hap
  rw [hap'] at hS3 ⊢
  exact hK w3 s' hap hw ⟨hS3, h.disks' k3, hw.ss, hw.lit, fun i => by rw [hw.key]; exact h.key i, hw.inv, upd_ok h.nok hdat lba⟩ k3
theorem StI.read (h : StI w base g m bks p c s now) {lba : Int} (h0 : 0 ≤ lba) (h1 : lba < (g.d - 2) * g.c * g.s)
    (hK : ∀ w', Keep (fun _ => False) w w' → R (.tuple #[.agg (secV (readS g s lba).1), .int .i64 (readS g s lba).2]) w') : CallV Tryz.prog 29 #[.agg (setV g p g.d.toNat c), .int .i64 lba] w R :=
  st_Read h.set h.disks.sl h.disks.cap.1 h.ss.ok h0 h1 hK
end calls

/-! ### which cells are lost -/
def Whole (g : Geo) (s : SS) : Prop := ∀ i a, 0 ≤ i ∧ i < g.d → 0 ≤ a ∧ a < g.c * g.s → viewS s i a ≠ none
theorem Whole.lost {g : Geo} (hg : GeoOk g) {s : SS} (h : Whole g s) {st off : Int} (hst : 0 ≤ st ∧ st < g.s) (hof : 0 ≤ off ∧ off < g.c) : lostN (colsS g s st off) = 0 := lost_none hg hst hof h
theorem Whole.write {g : Geo} {s s' : SS} {now : Int → Sec} {lba : Int} {data : Sec} (h : Whole g s) (hw : Written g s s' now lba data) : Whole g s' := fun i a hi ha hv => by
  rcases hw.view i a hi.1 ha.1 hv with e | e
  · exact h i a hi ha e
  · exact h i a hi ha (view_dead e)
theorem newS_whole {g : Geo} (hg : GeoOk g) (pw : Pow) : Whole g (newS g pw) := fun i a hi ha => by rw [newS_view hg hi ha]; simp
/-- the cells at a place are lost on some disks, all others are there -/
def GoneAt (g : Geo) (s : SS) (z : Int) (l : List Int) : Prop := ∀ j a, 0 ≤ j ∧ j < g.d → 0 ≤ a ∧ a < g.c * g.s → (viewS s j a = none ↔ a = z ∧ j ∈ l)
theorem Whole.gone {g : Geo} {s : SS} (h : Whole g s) (z : Int) : GoneAt g s z [] := fun j a hj ha => ⟨fun e => absurd e (h j a hj ha), fun e => absurd e.2 (by simp)⟩
theorem GoneAt.hurt {g : Geo} {s : SS} (hs : SsOk g s) {z : Int} (hz : 0 ≤ z ∧ z < g.c * g.s) {l : List Int} (h : GoneAt g s z l) {i : Int} (hi : 0 ≤ i ∧ i < g.d) : GoneAt g (hurtS s i z) z (i :: l) := fun j a hj ha => by
  rw [hurtS_view hs hi hz hj.1 ha.1]
  have := h j a hj ha
  split
  · rename_i e
    exact ⟨fun _ => ⟨e.2, by rw [e.1]; exact List.mem_cons_self ..⟩, fun _ => rfl⟩
  · rename_i e
    rw [this]
    constructor
    · exact fun ⟨a1, a2⟩ => ⟨a1, List.mem_cons_of_mem _ a2⟩
    · intro ⟨a1, a2⟩
      rcases List.mem_cons.1 a2 with a3 | a3
      · exact absurd ⟨a3, a1⟩ e
      · exact ⟨a1, a3⟩
end Go.Proofs

/-
  A WRITE AND ITS PLAN, where all disks live.
-/
namespace Go.Proofs
open Go Go.Ev
set_option linter.unusedSimpArgs false
set_option linter.unusedVariables false
set_option maxRecDepth 100000

/-- the plan of a write, where all disks live -/
theorem planS_alive {g : Geo} {s : SS} {now : Int → Sec} (hs : SsOk g s) (h : Inv g s now) (hn : ∀ l, SecOk (now l)) (hl : Lit0 s.pw) {lba : Int} (h0 : 0 ≤ lba) (h1 : lba < (g.d - 2) * g.c * g.s) {data : Sec} (hdat : SecOk data)
    (hlost : lostN (colsS g s (spotP g lba).1 (spotP g lba).2.2) ≤ 2) (hal : ∀ i, deadS s i = false) :
    (planS g s lba data).1 = [(spotP g lba).2.1, g.d - 2, g.d - 1].map (putK g (spotP g lba).1 (spotP g lba).2.2 (fullT (rowT g (upd now lba data) (spotP g lba).1 (spotP g lba).2.2))) := by
  have hg := hs.geo
  obtain ⟨pst, pco, pof⟩ := spotP_ok hg h0 h1
  have hls := lbaP_spot hg lba
  have hrow := h.rowR hg hn pst pof hlost
  have hplan : planS g s lba data = (planL g s (spotP g lba).1 (spotP g lba).2.2 (rowW (Go.Proofs.rowR (colsS g s (spotP g lba).1 (spotP g lba).2.2)) (spotP g lba).2.1.toNat data) [(spotP g lba).2.1, g.d - 2, g.d - 1], 0) := by
    unfold planS
    simp only
    rw [if_neg (by rw [hl.1]; decide), if_pos hlost]
  rw [hplan, hrow]
  generalize spotP g lba = x at *
  rw [rowW_full (by rw [len_rowT]; omega), ← rowT_upd_same hg pst.1 pof pco, hls]
  exact planL_alive hal _
theorem putK_sealed {g : Geo} (hg : GeoOk g) {s : SS} (hal : ∀ i, deadS s i = false) {st off : Int} (hst : 0 ≤ st ∧ st < g.s) (hof : 0 ≤ off ∧ off < g.c) {row : List Sec} (hrow : ∀ f ∈ row, SecOk f) (k : Int) : Sealed g s (putK g st off row k) := by
  refine ⟨plcP_ok hg hst hof k, ?_, rfl, hal _⟩
  show SecOk (row.getD k.toNat (sec []))
  rw [List.getD_eq_getElem?_getD]
  cases hx : row[k.toNat]? with
  | none => exact sec0_ok
  | some f => exact hrow f (List.mem_of_getElem? hx)
/-- a write where all disks live: three steps, and just these cells are changed -/
theorem write_alive {g : Geo} {s s' : SS} {now : Int → Sec} (hs : SsOk g s) (h : Inv g s now) (hn : ∀ l, SecOk (now l)) (hl : Lit0 s.pw) {lba : Int} (h0 : 0 ≤ lba) (h1 : lba < (g.d - 2) * g.c * g.s) {data : Sec} (hdat : SecOk data) {ep : Int} (hep : ∀ i : Nat, (s.ds.getD i dsk0).key ≤ ep)
    (hlost : lostN (colsS g s (spotP g lba).1 (spotP g lba).2.2) ≤ 2) (hal : ∀ i, deadS s i = false) (hs0 : 0 ≤ s.pw.steps) (hs1 : s.pw.steps < 1000000000000) (happ : applyS g s (planS g s lba data).1 ep = (0, s')) :
    (planS g s lba data).1.length = 3 ∧ s'.pw.steps = s.pw.steps + 3 ∧ (∀ i, deadS s' i = false) ∧ viewS s' (plcP g (spotP g lba).1 (spotP g lba).2.2 (spotP g lba).2.1).dk (plcP g (spotP g lba).1 (spotP g lba).2.2 (spotP g lba).2.1).at_ = some data ∧
    ∀ i a, 0 ≤ i → 0 ≤ a → (∀ k ∈ [(spotP g lba).2.1, g.d - 2, g.d - 1], ¬ (i = (plcP g (spotP g lba).1 (spotP g lba).2.2 k).dk ∧ a = (plcP g (spotP g lba).1 (spotP g lba).2.2 k).at_)) → viewS s' i a = viewS s i a := by
  have hg := hs.geo
  have hd := hg.d
  obtain ⟨pst, pco, pof⟩ := spotP_ok hg h0 h1
  have hls := lbaP_spot hg lba
  rw [planS_alive hs h hn hl h0 h1 hdat hlost hal] at happ ⊢
  generalize spotP g lba = x at *
  have hrow := fullT_ok (rowT_ok (g := g) (upd_ok hn hdat lba) x.1 x.2.2)
  obtain ⟨s2, a1, a2, a3, a4, a5, a6, a7⟩ := applyS_ok (ep := ep) hs hl hs0 (xs := [x.2.1, g.d - 2, g.d - 1].map (putK g x.1 x.2.2 (fullT (rowT g (upd now lba data) x.1 x.2.2)))) (by simp; omega) (fun y hy => by
    obtain ⟨k, _, rfl⟩ := List.mem_map.1 hy
    exact putK_sealed hg hal pst pof hrow k) hep
  rw [happ] at a1
  cases a1
  refine ⟨rfl, by rw [a4]; simp, fun i => by rw [a5, hal], ?_, fun i a hi ha hne => ?_⟩
  · obtain ⟨pk1, pk2⟩ := plcP_ok hg pst pof x.2.1
    rw [a7 _ _ pk1.1 pk2.1]
    rw [List.map_cons, putV_cons, putV_other _ fun y hy he => ?_]
    · rw [if_pos ⟨rfl, rfl⟩]
      show some ((fullT (rowT g (upd now lba data) x.1 x.2.2)).getD x.2.1.toNat (sec [])) = _
      unfold fullT
      rw [List.getD_eq_getElem?_getD, List.getElem?_append_left (by rw [len_rowT]; omega), rowT_at (by omega), show ((x.2.1.toNat : Nat) : Int) = x.2.1 by omega, hls]
      unfold upd
      rw [if_pos rfl]; rfl
    · obtain ⟨k, hk, rfl⟩ := List.mem_map.1 hy
      simp only [List.mem_cons, List.not_mem_nil, or_false] at hk
      have := plcP_inj hg pst pof pst pof (k := x.2.1) (k2 := k) (by omega) (by omega) he.1 he.2
      omega
  · rw [a7 i a hi ha]
    refine putV_other _ fun y hy => ?_
    obtain ⟨k, hk, rfl⟩ := List.mem_map.1 hy
    exact hne k hk
end Go.Proofs

namespace Go.Proofs
open Go Go.Ev
set_option linter.unusedSimpArgs false
set_option linter.unusedVariables false
set_option maxRecDepth 100000

theorem appP_lit {sz : Int} {x : Rec} {pw : Pow} {bs : List Int} (h : Lit0 pw) (hr : 37 ≤ sz - (bs.length : Int)) : appP pw sz bs x = (0, (stepP pw).2, bs ++ packB x) := by
  unfold appP
  rw [if_neg (by rw [h.1]; decide), if_neg (by omega), if_neg (by rw [(lit_step h).1]; decide)]
/-- records to sides while the power holds and there is room -/
structure LitM (sz n : Int) (s s' : MS) : Prop where
  lit : Lit0 s'.pw
  steps : s'.pw.steps = s.pw.steps + n
  a : (s'.xa.length : Int) ≤ (s.xa.length : Int) + 37 * n
  b : (s'.xb.length : Int) ≤ (s.xb.length : Int) + 37 * n
theorem eachM_lit {sz : Int} {x : Rec} : ∀ (fs : List Bool) (s : MS), Lit0 s.pw → 0 ≤ s.pw.steps → s.pw.steps + (fs.length : Int) < 1000000000000000 → 37 * (fs.length : Int) ≤ sz - (s.xa.length : Int) → 37 * (fs.length : Int) ≤ sz - (s.xb.length : Int) →
    (eachM sz x fs s).1 = 0 ∧ LitM sz (fs.length : Int) s (eachM sz x fs s).2
  | [], s, h, _, _, _, _ => ⟨rfl, h, by simp [eachM], by simp [eachM], by simp [eachM]⟩
  | f :: fs, s, h, h0, h1, ha, hb => by
    simp only [List.length_cons] at h1 ha hb
    have hap : (appM sz x f s).1 = 0 ∧ Lit0 (appM sz x f s).2.pw ∧ (appM sz x f s).2.pw.steps = s.pw.steps + 1 ∧ ((appM sz x f s).2.xa.length : Int) ≤ (s.xa.length : Int) + 37 ∧ ((appM sz x f s).2.xb.length : Int) ≤ (s.xb.length : Int) + 37 := by
      have hp : (packB x).length = 37 := rfl
      have hs := steps_wrap h h0 (by omega)
      cases f
      · have e := appP_lit (sz := sz) (x := x) (bs := s.xa) h (by omega)
        simp only [appM, e]
        refine ⟨by trivial, (lit_step h).2, hs, ?_, by omega⟩
        rw [List.length_append, hp]; omega
      · have e := appP_lit (sz := sz) (x := x) (bs := s.xb) h (by omega)
        simp only [appM, e]
        refine ⟨by trivial, (lit_step h).2, hs, by omega, ?_⟩
        rw [List.length_append, hp]; omega
    obtain ⟨p1, p2, p3, p4, p5⟩ := hap
    have e : eachM sz x (f :: fs) s = eachM sz x fs (appM sz x f s).2 := by
      show (if _ then _ else _) = _
      rw [if_neg (by simp [p1])]
    rw [e]
    generalize (appM sz x f s).2 = t at *
    obtain ⟨i1, i2, i3, i4, i5⟩ := eachM_lit (sz := sz) (x := x) fs t p2 (by omega) (by omega) (by omega) (by omega)
    refine ⟨i1, i2, ?_, ?_, ?_⟩ <;> simp only [List.length_cons] <;> omega
theorem eachA_lit {sz : Int} {fs : List Bool} (hfs : fs.length ≤ 2) : ∀ (rs : List Rec) (s : MS), Lit0 s.pw → 0 ≤ s.pw.steps → s.pw.steps + 2 * (rs.length : Int) < 100000000000000 → 74 * (rs.length : Int) ≤ sz - (s.xa.length : Int) → 74 * (rs.length : Int) ≤ sz - (s.xb.length : Int) →
    (eachA sz fs rs s).1 = 0 ∧ LitM sz ((rs.length : Int) * (fs.length : Int)) s (eachA sz fs rs s).2
  | [], s, h, _, _, _, _ => ⟨rfl, h, by simp [eachA], by simp [eachA], by simp [eachA]⟩
  | r :: rs, s, h, h0, h1, ha, hb => by
    simp only [List.length_cons] at h1 ha hb
    obtain ⟨j1, j2, j3, j4, j5⟩ := eachM_lit (sz := sz) (x := r) fs s h h0 (by omega) (by omega) (by omega)
    have e : eachA sz fs (r :: rs) s = eachA sz fs rs (eachM sz r fs s).2 := by
      show (if _ then _ else _) = _
      rw [if_neg (by simp [j1])]
    rw [e]
    generalize (eachM sz r fs s).2 = t at *
    obtain ⟨i1, i2, i3, i4, i5⟩ := eachA_lit (sz := sz) hfs rs t j2 (by omega) (by omega) (by omega) (by omega)
    have em : ((rs.length + 1 : Nat) : Int) * (fs.length : Int) = (rs.length : Int) * (fs.length : Int) + (fs.length : Int) := by
      rw [Int.natCast_add, Int.add_mul]; simp
    refine ⟨i1, i2, ?_, ?_, ?_⟩ <;> simp only [List.length_cons] <;> rw [em] <;> omega
theorem eachS_eq {sz : Int} {x : Rec} : ∀ (fs : List Bool) (s : PS), eachS sz x fs s = ((eachM sz x fs ⟨s.pw, s.xa, s.xb⟩).1, { s with pw := (eachM sz x fs ⟨s.pw, s.xa, s.xb⟩).2.pw, xa := (eachM sz x fs ⟨s.pw, s.xa, s.xb⟩).2.xa, xb := (eachM sz x fs ⟨s.pw, s.xa, s.xb⟩).2.xb })
  | [], s => rfl
  | f :: fs, s => by
    have e : app1 sz x f s = ((appM sz x f ⟨s.pw, s.xa, s.xb⟩).1, { s with pw := (appM sz x f ⟨s.pw, s.xa, s.xb⟩).2.pw, xa := (appM sz x f ⟨s.pw, s.xa, s.xb⟩).2.xa, xb := (appM sz x f ⟨s.pw, s.xa, s.xb⟩).2.xb }) := by cases f <;> rfl
    show (if (app1 sz x f s).1 ≠ 0 then app1 sz x f s else eachS sz x fs (app1 sz x f s).2) = _
    have e2 : eachM sz x (f :: fs) ⟨s.pw, s.xa, s.xb⟩ = if (appM sz x f ⟨s.pw, s.xa, s.xb⟩).1 ≠ 0 then appM sz x f ⟨s.pw, s.xa, s.xb⟩ else eachM sz x fs (appM sz x f ⟨s.pw, s.xa, s.xb⟩).2 := rfl
    rw [e2, e]
    simp only
    split
    · rfl
    · rw [eachS_eq fs]
theorem len_upS (s : PS) (f : Bool) : (upS s f).length ≤ 2 := Nat.le_trans (List.length_filter_le _ _) (by simp)
theorem mem_look {es : List (Int × Ent)} (hn : (es.map (·.1)).Nodup) {p : Int × Ent} (hp : p ∈ es) : mlook es p.1 = some p.2 := by
  induction es with
  | nil => cases hp
  | cons e es ih =>
    simp only [List.map_cons, List.nodup_cons] at hn
    unfold mlook
    rw [List.find?_cons]
    by_cases h : e.1 = p.1
    · rw [show (e.1 == p.1) = true by simpa using h]
      rcases List.mem_cons.1 hp with rfl | h'
      · rfl
      · exact absurd (List.mem_map.2 ⟨p, h', h.symm⟩) hn.1
    · rw [show (e.1 == p.1) = false by simpa using h]
      rcases List.mem_cons.1 hp with rfl | h'
      · exact absurd rfl h
      · exact ih hn.2 h'
theorem look_new {es : List (Int × Ent)} {x : Int} (h : mlook es x = none) (v : Ent) : ins es x v = es ++ [(x, v)] := by
  unfold ins
  rw [if_neg]
  intro hh
  obtain ⟨p, hp, he⟩ := List.any_eq_true.1 hh
  unfold mlook at h
  rw [Option.map_eq_none_iff, List.find?_eq_none] at h
  exact h p hp he
theorem del_lt {es : List (Int × Ent)} {p : Int × Ent} (h : p ∈ es) : (del es p.1).length < es.length := by
  unfold del
  exact List.length_filter_lt_length_iff_exists.2 ⟨p, h, by simp⟩
def capG20 (g : Geo) : Int := (g.d - 2) * g.c * g.s
/-- an array on which the power holds and whose disks are sound: each sector holds what fin says, in the cache or on the disks -/
structure Qt (q : AB) (s : AS) (fin : Int → Sec) (ep : Int) : Prop where
  ss : SsOk q.g s.ss
  lit : Lit0 s.ps.pw
  stp : 0 ≤ s.ps.pw.steps
  now : ∃ now, Inv q.g s.ss now ∧ (∀ l, SecOk (now l)) ∧ ∀ l, mlook s.ps.es l = none → now l = fin l
  es : ∀ l e, mlook s.ps.es l = some e → (0 ≤ l ∧ l < capG20 q.g) ∧ e.1 = fin l ∧ 0 ≤ e.2 ∧ e.2 ≤ s.ps.last
  nd : (s.ps.es.map (·.1)).Nodup
  last : 0 ≤ s.ps.last
  fok : ∀ l, SecOk (fin l)
  key : ∀ i : Nat, (s.ds.getD i dsk0).key ≤ ep
  alive : ∀ i, deadS s.ss i = false
  view : ∀ i a, (0 ≤ i ∧ i < q.g.d) → (0 ≤ a ∧ a < q.g.c * q.g.s) → viewS s.ss i a ≠ none
theorem Qt.lost {q : AB} {s : AS} {fin : Int → Sec} {ep : Int} (h : Qt q s fin ep) {st off : Int} (hst : 0 ≤ st ∧ st < q.g.s) (hof : 0 ≤ off ∧ off < q.g.c) : lostN (colsS q.g s.ss st off) = 0 := lost_none h.ss.geo hst hof h.view
theorem Qt.read {q : AB} {s : AS} {fin : Int → Sec} {ep : Int} (h : Qt q s fin ep) {l : Int} (h0 : 0 ≤ l) (h1 : l < capG20 q.g) : readA q s l = (fin l, 0) := by
  unfold readA getV
  cases hl : mlook s.ps.es l with
  | some e => simp only [if_pos]; rw [(h.es l e hl).2.1]
  | none =>
    simp only
    rw [if_neg (by decide)]
    obtain ⟨now, hi, hn, hf⟩ := h.now
    obtain ⟨pst, pco, pof⟩ := spotP_ok h.ss.geo h0 h1
    rcases hi.read h.ss.geo hn h.lit.1 h0 h1 with e | ⟨_, e, _⟩
    · rw [e, hf l hl]
    · rw [h.lost pst pof] at e
      exact absurd (by omega) e
/-- what a call has done to the memories' lengths and the steps -/
structure Cost (s s' : AS) (n m : Int) : Prop where
  steps : s'.ps.pw.steps = s.ps.pw.steps + n
  a : (s'.ps.xa.length : Int) ≤ (s.ps.xa.length : Int) + m
  b : (s'.ps.xb.length : Int) ≤ (s.ps.xb.length : Int) + m
  last : s'.ps.last = s.ps.last + 1
  up : s'.ps.ua = s.ps.ua ∧ s'.ps.ub = s.ps.ub
/-- a put -/
theorem Qt.put {q : AB} {s : AS} {fin : Int → Sec} {ep : Int} (h : Qt q s fin ep) {f : Bool} {lba : Int} {d : Sec} (hd : SecOk d) (h0 : 0 ≤ lba) (h1 : lba < capG20 q.g) (hup : (cond f s.ps.ub s.ps.ua) = true)
    (hroom : mlook s.ps.es lba = none → (s.ps.es.length : Int) < q.pb.room) (hst : s.ps.pw.steps < 10000000000000) (hla : s.ps.last < 1000000000000) (ha : 100 ≤ q.pb.sz - (s.ps.xa.length : Int)) (hb : 100 ≤ q.pb.sz - (s.ps.xb.length : Int)) (hcap : capG20 q.g ≤ 100000) :
    (putP q.pb.room q.pb.sz s.ps f lba d).1.2 = 0 ∧ Qt q { s with ps := (putP q.pb.room q.pb.sz s.ps f lba d).2 } (upd fin lba d) ep ∧ Cost s { s with ps := (putP q.pb.room q.pb.sz s.ps f lba d).2 } ((upS s.ps f).length : Int) 74 ∧
      (putP q.pb.room q.pb.sz s.ps f lba d).2.es = ins s.ps.es lba (d, s.ps.last + 1) := by
  have hlu := len_upS s.ps f
  have hv : IntKind.wrap .u64 (s.ps.last + 1) = s.ps.last + 1 := wrapU64 (by have := h.last; omega) (by omega)
  have hl0 := h.last
  have hpe : putE q.pb.room s.ps.es lba (s.ps.last + 1) = 0 := by
    unfold putE
    rw [if_neg (by omega)]
    cases hm : mlook s.ps.es lba with
    | none => simp only; rw [if_neg (by have := hroom hm; omega)]
    | some e => simp only; rw [if_neg (by have := (h.es lba e hm).2.2; omega)]
  obtain ⟨m1, m2, m3, m4, m5⟩ := eachM_lit (sz := q.pb.sz) (x := ⟨1, s.ps.last + 1, lba, d⟩) (upS s.ps f) ⟨s.ps.pw, s.ps.xa, s.ps.xb⟩ h.lit h.stp (by show s.ps.pw.steps + _ < _; omega) (by show _ ≤ q.pb.sz - (s.ps.xa.length : Int); omega) (by show _ ≤ q.pb.sz - (s.ps.xb.length : Int); omega)
  have hput : putP q.pb.room q.pb.sz s.ps f lba d = ((s.ps.last + 1, 0), { s.ps with last := s.ps.last + 1, pw := (eachM q.pb.sz ⟨1, s.ps.last + 1, lba, d⟩ (upS s.ps f) ⟨s.ps.pw, s.ps.xa, s.ps.xb⟩).2.pw, xa := (eachM q.pb.sz ⟨1, s.ps.last + 1, lba, d⟩ (upS s.ps f) ⟨s.ps.pw, s.ps.xa, s.ps.xb⟩).2.xa, xb := (eachM q.pb.sz ⟨1, s.ps.last + 1, lba, d⟩ (upS s.ps f) ⟨s.ps.pw, s.ps.xa, s.ps.xb⟩).2.xb, es := ins s.ps.es lba (d, s.ps.last + 1) }) := by
    unfold putP
    rw [if_neg (by omega), if_neg (by rw [hup]; decide), if_neg (by rintro ⟨e1, e2⟩; have := hroom e1; omega)]
    simp only [hv]
    unfold eachP
    rw [eachS_eq]
    have hu : upS { s.ps with last := s.ps.last + 1 } f = upS s.ps f := rfl
    rw [hu]
    simp only [m1, hpe]
    rfl
  rw [hput]
  generalize eachM q.pb.sz ⟨1, s.ps.last + 1, lba, d⟩ (upS s.ps f) ⟨s.ps.pw, s.ps.xa, s.ps.xb⟩ = M at *
  have m3 : M.2.pw.steps = s.ps.pw.steps + ((upS s.ps f).length : Int) := m3
  have m4 : (M.2.xa.length : Int) ≤ (s.ps.xa.length : Int) + 37 * ((upS s.ps f).length : Int) := m4
  have m5 : (M.2.xb.length : Int) ≤ (s.ps.xb.length : Int) + 37 * ((upS s.ps f).length : Int) := m5
  have hs0 := h.stp
  obtain ⟨now, hi, hn, hf⟩ := h.now
  refine ⟨rfl, ⟨⟨h.ss.geo, h.ss.num, h.ss.len, h.ss.ok⟩, m2, by show 0 ≤ M.2.pw.steps; omega, ⟨now, hi.see h.ss.geo (fun _ _ _ _ => rfl), hn, fun l hl => ?_⟩, fun l e hl => ?_, keys_nodup_ins h.nd _ _, by show 0 ≤ s.ps.last + 1; omega, fun l => upd_ok h.fok hd lba |> fun hh => hh l, h.key, h.alive, h.view⟩, ⟨m3, by show (M.2.xa.length : Int) ≤ _; omega, by show (M.2.xb.length : Int) ≤ _; omega, rfl, rfl, rfl⟩, rfl⟩
  · have hl : mlook (ins s.ps.es lba (d, s.ps.last + 1)) l = none := hl
    rw [look_ins] at hl
    split at hl
    · cases hl
    · rename_i hne
      unfold upd
      rw [if_neg hne, hf l hl]
  · have hl : mlook (ins s.ps.es lba (d, s.ps.last + 1)) l = some e := hl
    rw [look_ins] at hl
    unfold upd
    split at hl
    · rename_i he
      cases hl
      subst he
      exact ⟨⟨h0, h1⟩, by rw [if_pos rfl], by show 0 ≤ s.ps.last + 1; omega, by show s.ps.last + 1 ≤ s.ps.last + 1; omega⟩
    · rename_i hne
      obtain ⟨e1, e2, e3, e4⟩ := h.es l e hl
      exact ⟨e1, by rw [if_neg hne]; exact e2, e3, by show e.2 ≤ s.ps.last + 1; omega⟩
end Go.Proofs

namespace Go.Proofs
open Go Go.Ev
set_option linter.unusedSimpArgs false
set_option linter.unusedVariables false
set_option maxRecDepth 100000

structure WrLit (g : Geo) (s : SS) (now : Int → Sec) (lba : Int) (data : Sec) (n : Int) (xa xb : List Int) (r : Int × SS × List Int × List Int) : Prop where
  ok : r.1 = 0
  ss : SsOk g r.2.1
  lit : Lit0 r.2.1.pw
  steps : r.2.1.pw.steps = s.pw.steps + (5 * n + 3)
  inv : Inv g r.2.1 (upd now lba data)
  alive : ∀ i, deadS r.2.1 i = false
  key : ∀ i : Nat, (r.2.1.ds.getD i dsk0).key = (s.ds.getD i dsk0).key
  view : ∀ i a, (0 ≤ i ∧ i < g.d) → (0 ≤ a ∧ a < g.c * g.s) → viewS r.2.1 i a ≠ none
  a : (r.2.2.1.length : Int) ≤ (xa.length : Int) + 370
  b : (r.2.2.2.length : Int) ≤ (xb.length : Int) + 370
theorem writeM_lit {g : Geo} {s : SS} {now : Int → Sec} (hs : SsOk g s) (hi : Inv g s now) (hn : ∀ l, SecOk (now l)) (hl : Lit0 s.pw) (hst0 : 0 ≤ s.pw.steps) (hst1 : s.pw.steps < 100000000000) (hal : ∀ i, deadS s i = false)
    (hvw : ∀ i a, (0 ≤ i ∧ i < g.d) → (0 ≤ a ∧ a < g.c * g.s) → viewS s i a ≠ none) {lba : Int} (h0 : 0 ≤ lba) (h1 : lba < (g.d - 2) * g.c * g.s) {data : Sec} (hd : SecOk data) {ep : Int} (hep : ∀ i : Nat, (s.ds.getD i dsk0).key ≤ ep) {v : Int} {fs : List Bool} (hfs : fs.length ≤ 2) {sz : Int} {xa xb : List Int}
    (ha : 400 ≤ sz - (xa.length : Int)) (hb : 400 ≤ sz - (xb.length : Int)) : WrLit g s now lba data (fs.length : Int) xa xb (writeM sz g fs v lba data ep s xa xb) := by
  obtain ⟨pst, pco, pof⟩ := spotP_ok hs.geo h0 h1
  have hlost : lostN (colsS g s (spotP g lba).1 (spotP g lba).2.2) = 0 := lost_none hs.geo pst pof hvw
  have hl2 : lostN (colsS g s (spotP g lba).1 (spotP g lba).2.2) ≤ 2 := by omega
  obtain ⟨hp2, hps⟩ := planS_seal hs hi hn hl.1 h0 h1 hd hl2
  have hp3 : (planS g s lba data).1.length = 3 := by rw [planS_alive hs hi hn hl h0 h1 hd hl2 hal]; rfl
  generalize hW : writeM sz g fs v lba data ep s xa xb = W
  unfold writeM at hW
  rw [if_neg (by simp [hp2])] at hW
  simp only at hW
  have hin : ∀ x ∈ (planS g s lba data).1, InR x := fun x hx => seal_inR hs.geo (hps x hx).1
  have hnb : (planS g s lba data).1.any badPut = false := by
    rw [List.any_eq_false]
    intro x hx
    rw [badPut_in (hin x hx)]; decide
  have hbg : beginM sz v (planS g s lba data).1 fs ⟨s.pw, xa, xb⟩ = eachA sz fs ((planS g s lba data).1.map (recI v) ++ [recK 4 v]) ⟨s.pw, xa, xb⟩ := by
    unfold beginM
    rw [if_neg (by rw [hnb]; decide)]
  rw [hbg] at hW
  have hl4 : (((planS g s lba data).1.map (recI v) ++ [recK 4 v]).length : Int) = 4 := by simp [hp3]
  obtain ⟨a1, a2, a3, a4, a5⟩ := eachA_lit (sz := sz) hfs ((planS g s lba data).1.map (recI v) ++ [recK 4 v]) ⟨s.pw, xa, xb⟩ hl hst0 (by rw [hl4]; show s.pw.steps + _ < _; omega) (by rw [hl4]; show _ ≤ sz - (xa.length : Int); omega) (by rw [hl4]; show _ ≤ sz - (xb.length : Int); omega)
  rw [hl4] at a3 a4 a5
  generalize eachA sz fs ((planS g s lba data).1.map (recI v) ++ [recK 4 v]) ⟨s.pw, xa, xb⟩ = B at *
  rw [if_neg (by simp [a1])] at hW
  have hs1 : SsOk g ⟨s.ds, B.2.pw⟩ := ⟨hs.geo, hs.num, hs.len, hs.ok⟩
  have hi1 : Inv g ⟨s.ds, B.2.pw⟩ now := hi.see hs.geo (fun _ _ _ _ => rfl)
  have hpp : planS g s lba data = planS g ⟨s.ds, B.2.pw⟩ lba data := planS_pw hl.1 a2.1 lba data
  rw [hpp] at hW
  obtain ⟨_, s', happ, hw⟩ := hi1.write (ep := ep) hs1 hn a2 h0 h1 hd hep hl2
  have a3 : B.2.pw.steps = s.pw.steps + 4 * (fs.length : Int) := a3
  have a4 : (B.2.xa.length : Int) ≤ (xa.length : Int) + 37 * (4 * (fs.length : Int)) := a4
  have a5 : (B.2.xb.length : Int) ≤ (xb.length : Int) + 37 * (4 * (fs.length : Int)) := a5
  obtain ⟨_, c2, c3, c4, c5⟩ := write_alive hs1 hi1 hn a2 h0 h1 hd hep hl2 hal (by show 0 ≤ B.2.pw.steps; omega) (by show B.2.pw.steps < _; omega) happ
  rw [happ] at hW
  rw [if_neg (by simp)] at hW
  have c2 : s'.pw.steps = B.2.pw.steps + 3 := c2
  obtain ⟨e1, e2, e3, e4, e5⟩ := eachM_lit (sz := sz) (x := recK 5 v) fs ⟨s'.pw, B.2.xa, B.2.xb⟩ hw.lit (by show 0 ≤ s'.pw.steps; omega) (by show s'.pw.steps + _ < _; omega) (by show _ ≤ sz - (B.2.xa.length : Int); omega) (by show _ ≤ sz - (B.2.xb.length : Int); omega)
  generalize eachM sz (recK 5 v) fs ⟨s'.pw, B.2.xa, B.2.xb⟩ = E at *
  subst hW
  have e3 : E.2.pw.steps = s'.pw.steps + (fs.length : Int) := e3
  have e4 : (E.2.xa.length : Int) ≤ (B.2.xa.length : Int) + 37 * (fs.length : Int) := e4
  have e5 : (E.2.xb.length : Int) ≤ (B.2.xb.length : Int) + 37 * (fs.length : Int) := e5
  refine ⟨e1, ⟨hw.ss.geo, hw.ss.num, hw.ss.len, hw.ss.ok⟩, e2, by show E.2.pw.steps = _; omega, hw.inv.see hs.geo (fun _ _ _ _ => rfl), c3, hw.key, fun i a hi' ha' => ?_, by show (E.2.xa.length : Int) ≤ _; omega, by show (E.2.xb.length : Int) ≤ _; omega⟩
  intro hx
  rcases hw.view i a hi'.1 ha'.1 hx with h | h
  · exact hvw i a hi' ha' h
  · have := hal i
    rw [show deadS s i = true from h] at this
    cases this
/-- a sector goes out -/
theorem Qt.out {q : AB} {s : AS} {fin : Int → Sec} {f : Bool} (h : Qt q s fin (epA s f)) {p : Int × Ent} (hp : p ∈ s.ps.es) (hst : s.ps.pw.steps < 10000000000) (hla : s.ps.last < 1000000000000) (ha : 500 ≤ q.pb.sz - (s.ps.xa.length : Int)) (hb : 500 ≤ q.pb.sz - (s.ps.xb.length : Int)) :
    (outA q s f p).1 = 0 ∧ Qt q (outA q s f p).2 fin (epA s f) ∧ Cost s (outA q s f p).2 (6 * ((upS s.ps f).length : Int) + 3) 444 ∧ (outA q s f p).2.ps.es = del s.ps.es p.1 ∧
      (outA q s f p).2 = { s with ds := (outA q s f p).2.ds, ps := (outA q s f p).2.ps } := by
  have hm := mem_look h.nd hp
  obtain ⟨⟨p0, p1⟩, p2, p3, p4⟩ := h.es p.1 p.2 hm
  have hl0 := h.last
  have hs0 := h.stp
  have hv : IntKind.wrap .u64 (s.ps.last + 1) = s.ps.last + 1 := wrapU64 (by omega) (by omega)
  unfold outA
  rw [hv]
  obtain ⟨now, hi, hn, hf⟩ := h.now
  have hd : SecOk p.2.1 := by rw [p2]; exact h.fok _
  have hW := writeM_lit (s := s.ss) (v := s.ps.last + 1) (fs := upS s.ps f) (sz := q.pb.sz) (xa := s.ps.xa) (xb := s.ps.xb) h.ss hi hn h.lit h.stp (by show s.ps.pw.steps < _; omega) h.alive h.view p0 p1 hd h.key (len_upS _ _) (by omega) (by omega)
  have hlu := len_upS s.ps f
  have hlu2 : (upS s.ps false).length = (upS s.ps f).length := by
    unfold upS
    cases f <;> cases s.ps.ua <;> cases s.ps.ub <;> rfl
  unfold outB
  have hu : upS { s.ps with last := s.ps.last + 1 } f = upS s.ps f := rfl
  have hss : (⟨s.ds, s.ps.pw⟩ : SS) = s.ss := rfl
  simp only [hu, hss]
  generalize writeM q.pb.sz q.g (upS s.ps f) (s.ps.last + 1) p.1 p.2.1 (epA s f) s.ss s.ps.xa s.ps.xb = r at *
  have w1 := hW.steps
  have w1 : r.2.1.pw.steps = s.ps.pw.steps + (5 * ((upS s.ps f).length : Int) + 3) := w1
  have wa := hW.a
  have wb := hW.b
  rw [if_neg (by simp [hW.ok])]
  have hgv : getV s.ps.es p.1 = (p.2.1, p.2.2, 0) := by unfold getV; rw [hm]
  have hcl : cleanE s.ps.es p.1 p.2.2 = 0 := by unfold cleanE; rw [hm]; simp only; rw [if_neg (by omega)]
  have hu2 : upS { s.ps with last := s.ps.last + 1, pw := r.2.1.pw, xa := r.2.2.1, xb := r.2.2.2 } false = upS s.ps false := rfl
  obtain ⟨m1, m2, m3, m4, m5⟩ := eachM_lit (sz := q.pb.sz) (x := ⟨2, p.2.2, p.1, sec []⟩) (upS s.ps false) ⟨r.2.1.pw, r.2.2.1, r.2.2.2⟩ hW.lit (by show 0 ≤ r.2.1.pw.steps; omega) (by show r.2.1.pw.steps + _ < _; omega) (by show _ ≤ q.pb.sz - (r.2.2.1.length : Int); omega) (by show _ ≤ q.pb.sz - (r.2.2.2.length : Int); omega)
  have hfl : flushP q.pb.sz { s.ps with last := s.ps.last + 1, pw := r.2.1.pw, xa := r.2.2.1, xb := r.2.2.2 } p.1 p.2.2 = (0, { s.ps with last := s.ps.last + 1, es := del s.ps.es p.1, pw := (eachM q.pb.sz ⟨2, p.2.2, p.1, sec []⟩ (upS s.ps false) ⟨r.2.1.pw, r.2.2.1, r.2.2.2⟩).2.pw, xa := (eachM q.pb.sz ⟨2, p.2.2, p.1, sec []⟩ (upS s.ps false) ⟨r.2.1.pw, r.2.2.1, r.2.2.2⟩).2.xa, xb := (eachM q.pb.sz ⟨2, p.2.2, p.1, sec []⟩ (upS s.ps false) ⟨r.2.1.pw, r.2.2.1, r.2.2.2⟩).2.xb }) := by
    unfold flushP
    simp only [hgv]
    rw [if_neg (by decide), if_neg (by omega)]
    unfold eachP
    rw [hu2, eachS_eq]
    simp only [m1, hcl]
    rfl
  rw [hfl]
  generalize eachM q.pb.sz ⟨2, p.2.2, p.1, sec []⟩ (upS s.ps false) ⟨r.2.1.pw, r.2.2.1, r.2.2.2⟩ = M at *
  have m3 : M.2.pw.steps = r.2.1.pw.steps + ((upS s.ps false).length : Int) := m3
  have m4 : (M.2.xa.length : Int) ≤ (r.2.2.1.length : Int) + 37 * ((upS s.ps false).length : Int) := m4
  have m5 : (M.2.xb.length : Int) ≤ (r.2.2.2.length : Int) + 37 * ((upS s.ps false).length : Int) := m5
  rw [hlu2] at m3 m4 m5
  refine ⟨rfl, ⟨⟨hW.ss.geo, hW.ss.num, hW.ss.len, hW.ss.ok⟩, m2, by show 0 ≤ M.2.pw.steps; omega, ⟨upd now p.1 p.2.1, hW.inv.see h.ss.geo (fun _ _ _ _ => rfl), fun l => upd_ok hn hd p.1 l, fun l hl => ?_⟩, fun l e hl => ?_, keys_nodup_del h.nd _, by show 0 ≤ s.ps.last + 1; omega, h.fok, fun i => by show (r.2.1.ds.getD i dsk0).key ≤ _; rw [hW.key]; exact h.key i, hW.alive, hW.view⟩, ⟨by show M.2.pw.steps = _; omega, by show (M.2.xa.length : Int) ≤ _; omega, by show (M.2.xb.length : Int) ≤ _; omega, rfl, rfl, rfl⟩, rfl, rfl⟩
  · have hl : mlook (del s.ps.es p.1) l = none := hl
    rw [look_del] at hl
    unfold upd
    by_cases he : l = p.1
    · rw [if_pos he, p2, he]
    · rw [if_neg he] at hl ⊢
      exact hf l hl
  · have hl : mlook (del s.ps.es p.1) l = some e := hl
    rw [look_del] at hl
    split at hl
    · cases hl
    · obtain ⟨e1, e2, e3, e4⟩ := h.es l e hl
      exact ⟨e1, e2, e3, by show e.2 ≤ s.ps.last + 1; omega⟩
end Go.Proofs

namespace Go.Proofs
open Go.Ev
set_option linter.unusedVariables false
set_option maxRecDepth 100000
def F_scrub_look (s : Array Value) (number : Int) (off : Int) (w : World) (R : Value → World → Prop) : Prop :=
  Alc 51 s w fun b w => Alc 312 (zc Tryz.prog 312) w fun b1 w => LdA 4 b 0 (At w) fun cs => CallV Tryz.prog 31 #[.agg cs, .int .i64 number, .int .i64 off] w fun v w => T3 v
  fun v1 v2 v3 => OpS v1 fun p l c => OpS v2 fun p1 l1 c1 => OpI .i64 v3 fun n => Cb (n != 0) (DoQ Tryz.prog (Instr.build 312 #[]) (At w) fun v4 => OpA 3 v4 fun cs1 => StA 3
  b1 0 cs1 w fun w => LdA 3 b1 0 (At w) fun cs2 => Ret [] (R (.tuple #[.agg cs2, .int .i64 n]) w)) (LdA 3 b 0 (At w) fun cs3 => CallV Tryz.prog 109 #[.agg cs3, .int .i64
  number, .int .i64 off] w fun v5 w => T2 v5 fun v6 v7 => OpS v6 fun p2 l2 c2 => OpI .i64 v7 fun n1 => LoopC (σ := (Option Addr × Nat × Nat) × Int × Unit) (fun _ s1 w K1 =>
  Cb (decide (s1.2.1 < IntKind.wrap .i64 (((l : Nat) : Int) - 2))) (IdxS p l s1.2.1 16 fun b2 o => Slc 16 16 none none none fun l3 h m => DoV Tryz.prog (Instr.buildSlice 187
  1 #[(0, .slice (slcP 1 l3 m (some ⟨b2, o, none⟩)) (h - l3) (m - l3))]) w fun v8 w => OpS v8 fun p3 l4 c3 => DoV Tryz.prog (Builtin.append_ #[187, 187] 187 #[.slice s1.1.1
  s1.1.2.1 s1.1.2.2, .slice p3 l4 c3]) w fun v9 w => OpS v9 fun p4 l5 c4 => K1 ((p4, l5, c4), (IntKind.wrap .i64 (s1.2.1 + 1), ())) w) (CallV Tryz.prog 115 #[.slice s1.1.1
  s1.1.2.1 s1.1.2.2] w fun v10 w => T3 v10 fun v11 v12 v13 => OpS v11 fun p5 l6 c5 => OpS v12 fun p6 l7 c6 => OpI .i64 v13 fun n2 => DoQ Tryz.prog (Instr.build 312 #[(0,
  .slice p2 l2 c2)]) (At w) fun v14 => OpA 3 v14 fun cs4 => Alc 312 (zc Tryz.prog 312) w fun b3 w => StA 3 b3 0 cs4 w fun w => DoV Tryz.prog (Instr.makeMap 316 none) w fun
  v15 w => OpM v15 fun m1 => LoopC (σ := Int × Unit) (fun _ s2 w K2 => Cb (decide (s2.1 < ((l1 : Nat) : Int))) (IdxS p1 l1 s2.1 1 fun b4 o1 => LdV b4 o1 (At w) fun v16 =>
  OpI .i64 v16 fun n3 => DoQ Tryz.prog (Instr.build 130 #[]) (At w) fun v17 => OpA 0 v17 fun cs5 => DoU Tryz.prog (Instr.mapUpdate 316 (.map m1) (.int .i64 n3) (.agg cs5)) w
  fun w => K2 (IntKind.wrap .i64 (s2.1 + 1), ()) w) (JoinC (σ := (Option Addr × Nat × Nat) × Unit) (fun J3 => HeldR w fun S w => Slc l c none (some (IntKind.wrap .i64 (((l :
  Nat) : Int) - 2))) none fun l8 h1 m2 => SlArr p5 l6 16 fun b5 o2 => LdA 16 b5 o2 S fun cs6 => SlArr p6 l7 16 fun b6 o3 => LdA 16 b6 o3 S fun cs7 => (DoV Tryz.prog
  (Instr.buildSlice 32 0 #[]) w fun v18 w => OpS v18 fun p7 l9 c7 => Hld (S w) ((DoV Tryz.prog (Builtin.append_ #[32, 32] 32 #[.slice p7 l9 c7, .slice (slcP 16 l8 m2 p) (h1
  - l8) (m2 - l8)]) w fun v19 w => OpS v19 fun p8 l10 c8 => Hld (S w) (DoV Tryz.prog (Instr.buildSlice 32 2 #[(0, .agg cs6), (1, .agg cs7)]) w fun v20 w => OpS v20 fun p9
  l11 c9 => Hld (S w) (DoV Tryz.prog (Builtin.append_ #[32, 32] 32 #[.slice p8 l10 c8, .slice p9 l11 c9]) w fun v21 w => OpS v21 fun p10 l12 c10 => Hld (S w) (J3 ((p10, l12,
  c10), ()) w)))) ∧ (DoV Tryz.prog (Instr.buildSlice 32 2 #[(0, .agg cs6), (1, .agg cs7)]) w fun v22 w => OpS v22 fun p11 l13 c11 => Hld (S w) (DoV Tryz.prog
  (Builtin.append_ #[32, 32] 32 #[.slice p7 l9 c7, .slice (slcP 16 l8 m2 p) (h1 - l8) (m2 - l8)]) w fun v23 w => OpS v23 fun p12 l14 c12 => Hld (S w) (DoV Tryz.prog
  (Builtin.append_ #[32, 32] 32 #[.slice p12 l14 c12, .slice p11 l13 c11]) w fun v24 w => OpS v24 fun p13 l15 c13 => Hld (S w) (J3 ((p13, l15, c13), ()) w)))))) ∧ (DoV
  Tryz.prog (Instr.buildSlice 32 2 #[(0, .agg cs6), (1, .agg cs7)]) w fun v25 w => OpS v25 fun p14 l16 c14 => Hld (S w) (DoV Tryz.prog (Instr.buildSlice 32 0 #[]) w fun v26
  w => OpS v26 fun p15 l17 c15 => Hld (S w) (DoV Tryz.prog (Builtin.append_ #[32, 32] 32 #[.slice p15 l17 c15, .slice (slcP 16 l8 m2 p) (h1 - l8) (m2 - l8)]) w fun v27 w =>
  OpS v27 fun p16 l18 c16 => Hld (S w) (DoV Tryz.prog (Builtin.append_ #[32, 32] 32 #[.slice p16 l18 c16, .slice p14 l16 c14]) w fun v28 w => OpS v28 fun p17 l19 c17 => Hld
  (S w) (J3 ((p17, l19, c17), ()) w)))))) (fun _ s3 w => LoopC (σ := Int × Unit) (fun _ s4 w K4 => Cb (decide (s4.1 < ((s3.1.2.1 : Nat) : Int))) (IdxS s3.1.1 s3.1.2.1 s4.1
  16 fun b7 o4 => LdA 16 b7 o4 (At w) fun cs8 => Alc 37 (zc Tryz.prog 37) w fun b8 w => StA 16 b8 0 cs8 w fun w => DoQ Tryz.prog (Instr.lookup 316 (.map m1) (.int .i64 s4.1)
  true) (At w) fun v29 => T2 v29 fun v30 v31 => OpA 0 v30 fun cs9 => OpB v31 fun g => Alc 130 (zc Tryz.prog 130) w fun b9 w => StA 0 b9 0 cs9 w fun w => JoinC (σ := Bool ×
  Unit) (fun J5 => Cb g (LdV b 3 (At w) fun v32 => OpS v32 fun p18 l20 c18 => IdxS p2 l2 s4.1 2 fun b10 o5 => LdV b10 o5 (At w) fun v33 => OpI .i64 v33 fun n4 => IdxS p18
  l20 n4 1 fun b11 o6 => LdV b11 o6 (At w) fun v34 => OpN v34 fun b12 o7 => CallQ Tryz.prog 87 #[.pointer (some ⟨b12, o7, none⟩)] (At w) fun v35 => OpB v35 fun g1 => Drw w
  fun w => J5 (g1, ()) w) (LdA 16 b8 0 (At w) fun cs10 => IdxS p l s4.1 16 fun b13 o8 => LdA 16 b13 o8 (At w) fun cs11 => EqB Tryz.prog .neq 37 (.tmp 110) (.tmp 114) (.agg
  cs10 : Value) (.agg cs11 : Value) (At w) fun g2 => Cb g2 (LdV b 3 (At w) fun v36 => OpS v36 fun p19 l21 c19 => IdxS p2 l2 s4.1 2 fun b14 o9 => LdV b14 o9 (At w) fun v37 =>
  OpI .i64 v37 fun n5 => IdxS p19 l21 n5 1 fun b15 o10 => LdV b15 o10 (At w) fun v38 => OpN v38 fun b16 o11 => CallQ Tryz.prog 87 #[.pointer (some ⟨b16, o11, none⟩)] (At w)
  fun v39 => OpB v39 fun g3 => Drw w fun w => J5 (g3, ()) w) (Drw w fun w => J5 (false, ()) w))) (fun _ s5 w => Cb s5.1 (LdV b3 2 (At w) fun v40 => OpS v40 fun p20 l22 c20
  => DoV Tryz.prog (Instr.buildSlice 69 1 #[(0, .int .i64 s4.1)]) w fun v41 w => OpS v41 fun p21 l23 c21 => DoV Tryz.prog (Builtin.append_ #[69, 69] 69 #[.slice p20 l22 c20,
  .slice p21 l23 c21]) w fun v42 w => OpS v42 fun p22 l24 c22 => StV b3 2 (.slice p22 l24 c22) w fun w => K4 (IntKind.wrap .i64 (s4.1 + 1), ()) w) (K4 (IntKind.wrap .i64
  (s4.1 + 1), ()) w))) (StV b3 1 (.slice s3.1.1 s3.1.2.1 s3.1.2.2) w fun w => LdA 3 b3 0 (At w) fun cs12 => StA 3 b1 0 cs12 w fun w => LdA 3 b1 0 (At w) fun cs13 => Ret []
  (R (.tuple #[.agg cs13, .int .i64 0]) w))) (0, ()) w))) (0, ()) w)) ((none, 0, 0), (0, ())) w)
theorem C_scrub_look {s : Array Value} {number : Int} {off : Int} {w : World} {R : Value → World → Prop} (h : F_scrub_look s number off w R) : CallV Tryz.prog 254 #[.agg s, .int .i64 number, .int .i64 off] w R := by
  exact calls_of_F (args := [.agg s, .int .i64 number, .int .i64 off]) (mkAnnR [(8, [(14, .slice), (52, (.int .i64))]), (16, [(74, (.int .i64))]), (22, [(97, (.int .i64))])] [] [] [] [] [] [(20, [(23, .slice)]), (25, [(128, .bool)])]) Tryz_mixed Tryz.func254 rfl rfl (by kernel_rfl) h
def F_Scrub1 (r : Array Value) (e : Int) (bo : Nat) (bs : Nat) (be : Nat) (w : World) (R : Value → World → Prop) : Prop :=
  Alc 312 r w fun b w => Cb (e == 0) (LdV bo 0 (At w) fun v => OpI .i64 v fun n => StV bo 0 (.int .i64 (IntKind.wrap .i64 (n + 1))) w fun w => LdV bo 1 (At w) fun v1 => OpI
  .i64 v1 fun n1 => LdV b 2 (At w) fun v2 => OpS v2 fun p l c => StV bo 1 (.int .i64 (IntKind.wrap .i64 (n1 + ((l : Nat) : Int)))) w fun w => LdV b 2 (At w) fun v3 => OpS v3
  fun p1 l1 c1 => LoopC (σ := Int × Unit) (fun _ s1 w K1 => Cb (decide (s1.1 < ((l1 : Nat) : Int))) (IdxS p1 l1 s1.1 1 fun b1 o => LdV b1 o (At w) fun v4 => OpI .i64 v4 fun
  n2 => LdV b 0 (At w) fun v5 => OpS v5 fun p2 l2 c2 => IdxS p2 l2 n2 2 fun b2 o1 => LdA 2 b2 o1 (At w) fun cs => Alc 84 (zc Tryz.prog 84) w fun b3 w => StA 2 b3 0 cs w fun
  w => HeldR w fun S w => LdA 4 bs 0 S fun cs1 => LdA 2 b3 0 S fun cs2 => LdV b3 1 S fun v6 => OpI .i64 v6 fun n3 => LdV b 1 S fun v7 => OpS v7 fun p3 l3 c3 => IdxS p3 l3 n2
  16 fun b4 o2 => LdA 16 b4 o2 S fun cs3 => LdV be 0 S fun v8 => OpI .u32 v8 fun n4 => CallV Tryz.prog 116 #[.int .i64 n3, .agg cs3] w fun v9 w => OpA 17 v9 fun cs4 => Hld
  (S w) (DoQ Tryz.prog (Instr.build 88 #[(0, .agg cs2), (1, .agg cs4)]) S fun v10 => OpA 19 v10 fun cs5 => DoV Tryz.prog (Instr.buildSlice 75 1 #[(0, .agg cs5)]) w fun v11 w
  => OpS v11 fun p4 l4 c4 => Hld (S w) (CallV Tryz.prog 38 #[.agg cs1, .slice p4 l4 c4, .int .u32 n4] w fun v12 w => OpI .i64 v12 fun n5 => Hld (S w) (Cb (n5 != 0) (Ret []
  (R (.int .i64 n5) w)) (LdV bo 2 (At w) fun v13 => OpI .i64 v13 fun n6 => StV bo 2 (.int .i64 (IntKind.wrap .i64 (n6 + 1))) w fun w => K1 (IntKind.wrap .i64 (s1.1 + 1), ())
  w))))) (Ret [] (R (.int .i64 0) w))) (0, ()) w) (Cb (e == 8) (LdV bo 0 (At w) fun v14 => OpI .i64 v14 fun n7 => StV bo 0 (.int .i64 (IntKind.wrap .i64 (n7 + 1))) w fun w
  => LdV bo 3 (At w) fun v15 => OpI .i64 v15 fun n8 => StV bo 3 (.int .i64 (IntKind.wrap .i64 (n8 + 1))) w fun w => Ret [] (R (.int .i64 0) w)) (Ret [] (R (.int .i64 e) w)))
theorem C_Scrub1 {r : Array Value} {e : Int} {bo : Nat} {bs : Nat} {be : Nat} {w : World} {R : Value → World → Prop} (h : F_Scrub1 r e bo bs be w R) : CallV Tryz.prog 210 #[.agg r, .int .i64 e, .pointer (some ⟨bo, 0, none⟩), .pointer (some ⟨bs, 0, none⟩), .pointer (some ⟨be, 0, none⟩)] w R := by
  exact calls_of_F (args := [.agg r, .int .i64 e, .pointer (some ⟨bo, 0, none⟩), .pointer (some ⟨bs, 0, none⟩), .pointer (some ⟨be, 0, none⟩)]) (mkAnn [(11, [(40, (.int .i64))])] [] [] [] [58, 62]) Tryz_mixed Tryz.func210 rfl rfl (by kernel_rfl) h
def F_RowsScrub (s : Array Value) (number : Int) (bo : Nat) (bs : Nat) (be : Nat) (w : World) (R : Value → World → Prop) : Prop :=
  Alc 51 s w fun b w => LdV b 1 (At w) fun v => OpI .i64 v fun n => LoopC (σ := Int × Unit) (fun _ s1 w K1 => Cb (decide (s1.1 < n)) (LdA 4 b 0 (At w) fun cs => CallV
  Tryz.prog 254 #[.agg cs, .int .i64 number, .int .i64 s1.1] w fun v1 w => T2 v1 fun v2 v3 => OpA 3 v2 fun cs1 => OpI .i64 v3 fun n1 => CallV Tryz.prog 210 #[.agg cs1, .int
  .i64 n1, .pointer (some ⟨bo, 0, none⟩), .pointer (some ⟨bs, 0, none⟩), .pointer (some ⟨be, 0, none⟩)] w fun v4 w => OpI .i64 v4 fun n2 => Cb (n2 != 0) (Ret [] (R (.int
  .i64 n2) w)) (K1 (IntKind.wrap .i64 (s1.1 + 1), ()) w)) (Ret [] (R (.int .i64 0) w))) (0, ()) w
theorem C_RowsScrub {s : Array Value} {number : Int} {bo : Nat} {bs : Nat} {be : Nat} {w : World} {R : Value → World → Prop} (h : F_RowsScrub s number bo bs be w R) : CallV Tryz.prog 209 #[.agg s, .int .i64 number, .func (.func 210) #[] #[.pointer (some ⟨bo, 0, none⟩), .pointer (some ⟨bs, 0, none⟩), .pointer (some ⟨be, 0, none⟩)]] w R := by
  exact calls_of_F (args := [.agg s, .int .i64 number, .func (.func 210) #[] #[.pointer (some ⟨bo, 0, none⟩), .pointer (some ⟨bs, 0, none⟩), .pointer (some ⟨be, 0, none⟩)]]) (mkAnn [(2, [(12, (.int .i64))])] [] [] [] []) Tryz_mixed Tryz.func209 rfl rfl (by kernel_rfl) h
def F_scrub_Scrub (s : Array Value) (number : Int) (epoch : Int) (w : World) (R : Value → World → Prop) : Prop :=
  Alc 51 s w fun b w => Alc 62 #[.int .u32 epoch] w fun b1 w => Alc 123 (zc Tryz.prog 123) w fun b2 w => LdA 4 b 0 (At w) fun cs => CallV Tryz.prog 93 #[.agg cs] w fun v w
  => OpI .i64 v fun n => Cb (n != 0) (DoQ Tryz.prog (Instr.build 123 #[]) (At w) fun v1 => OpA 4 v1 fun cs1 => StA 4 b2 0 cs1 w fun w => LdA 4 b2 0 (At w) fun cs2 => Ret []
  (R (.tuple #[.agg cs2, .int .i64 n]) w)) (Cb (decide (number < 0)) (DoQ Tryz.prog (Instr.build 123 #[]) (At w) fun v2 => OpA 4 v2 fun cs3 => StA 4 b2 0 cs3 w fun w => LdA
  4 b2 0 (At w) fun cs4 => Ret [] (R (.tuple #[.agg cs4, .int .i64 2]) w)) (LdV b 2 (At w) fun v3 => OpI .i64 v3 fun n1 => Cb (decide (number ≥ n1)) (DoQ Tryz.prog
  (Instr.build 123 #[]) (At w) fun v4 => OpA 4 v4 fun cs5 => StA 4 b2 0 cs5 w fun w => LdA 4 b2 0 (At w) fun cs6 => Ret [] (R (.tuple #[.agg cs6, .int .i64 2]) w)) (Alc 123
  (zc Tryz.prog 123) w fun b3 w => LdA 4 b 0 (At w) fun cs7 => CallV Tryz.prog 209 #[.agg cs7, .int .i64 number, .func (.func 210) #[] #[.pointer (some ⟨b3, 0, none⟩),
  .pointer (some ⟨b, 0, none⟩), .pointer (some ⟨b1, 0, none⟩)]] w fun v5 w => OpI .i64 v5 fun n2 => Cb (n2 != 0) (DoQ Tryz.prog (Instr.build 123 #[]) (At w) fun v6 => OpA 4
  v6 fun cs8 => StA 4 b2 0 cs8 w fun w => LdA 4 b2 0 (At w) fun cs9 => Ret [] (R (.tuple #[.agg cs9, .int .i64 n2]) w)) (LdA 4 b3 0 (At w) fun cs10 => StA 4 b2 0 cs10 w fun
  w => LdA 4 b2 0 (At w) fun cs11 => Ret [] (R (.tuple #[.agg cs11, .int .i64 0]) w)))))
theorem C_scrub_Scrub {s : Array Value} {number : Int} {epoch : Int} {w : World} {R : Value → World → Prop} (h : F_scrub_Scrub s number epoch w R) : CallV Tryz.prog 138 #[.agg s, .int .i64 number, .int .u32 epoch] w R := by
  exact calls_of_F (args := [.agg s, .int .i64 number, .int .u32 epoch]) (mkAnn [] [] [] [] []) Tryz_mixed Tryz.func138 rfl rfl (by kernel_rfl) h
def F_layout_Back (g : Array Value) (p : Array Value) (w : World) (R : Value → World → Prop) : Prop :=
  Alc 24 g w fun b w => Alc 84 p w fun b1 w => LdA 3 b 0 (At w) fun cs => CallV Tryz.prog 128 #[.agg cs] w fun v w => T2 v fun v1 v2 => OpI .i64 v1 fun n => OpI .i64 v2 fun
  n1 => Cb (n1 != 0) (Ret [] (R (.tuple #[.int .i64 0, .int .i64 0, .int .i64 n1]) w)) (LdV b1 0 (At w) fun v3 => OpI .i64 v3 fun n2 => Cb (decide (n2 < 0)) (Ret [] (R
  (.tuple #[.int .i64 0, .int .i64 0, .int .i64 2]) w)) (LdV b1 0 (At w) fun v4 => OpI .i64 v4 fun n3 => LdV b 0 (At w) fun v5 => OpI .i64 v5 fun n4 => Cb (decide (n3 ≥ n4))
  (Ret [] (R (.tuple #[.int .i64 0, .int .i64 0, .int .i64 2]) w)) (LdV b1 1 (At w) fun v6 => OpI .i64 v6 fun n5 => Cb (decide (n5 < 0)) (Ret [] (R (.tuple #[.int .i64 0,
  .int .i64 0, .int .i64 2]) w)) (LdV b1 1 (At w) fun v7 => OpI .i64 v7 fun n6 => Cb (decide (n6 ≥ n)) (Ret [] (R (.tuple #[.int .i64 0, .int .i64 0, .int .i64 2]) w)) (LdV
  b1 1 (At w) fun v8 => OpI .i64 v8 fun n7 => LdV b 1 (At w) fun v9 => OpI .i64 v9 fun n8 => Req (n8 ≠ 0) (LdV b 0 (At w) fun v10 => OpI .i64 v10 fun n9 => Drw w fun w =>
  HeldR w fun S w => LdV b1 0 S fun v11 => OpI .i64 v11 fun n10 => LdA 3 b 0 (At w) fun cs1 => LdV b 0 S fun v12 => OpI .i64 v12 fun n11 => LdV b 0 S fun v13 => OpI .i64 v13
  fun n12 => CallV Tryz.prog 174 #[.agg cs1, .int .i64 (IntKind.wrap .i64 (Int.tdiv n7 n8))] w fun v14 w => OpI .i64 v14 fun n13 => Hld (S w) (Req (n12 ≠ 0) (Cb (decide
  (Int.tmod (IntKind.wrap .i64 ((IntKind.wrap .i64 (n10 - n13)) + n11)) n12 ≥ IntKind.wrap .i64 (n9 - 2))) (Ret [] (R (.tuple #[.int .i64 (-1), .int .i64 (Int.tmod
  (IntKind.wrap .i64 ((IntKind.wrap .i64 (n10 - n13)) + n11)) n12), .int .i64 0]) w)) (LdV b 1 (At w) fun v15 => OpI .i64 v15 fun n14 => LdV b1 1 (At w) fun v16 => OpI .i64
  v16 fun n15 => LdV b 1 (At w) fun v17 => OpI .i64 v17 fun n16 => Req (n16 ≠ 0) (Drw w fun w => Ret [] (R (.tuple #[.int .i64 (IntKind.wrap .i64 ((IntKind.wrap .i64
  ((IntKind.wrap .i64 ((IntKind.wrap .i64 ((IntKind.wrap .i64 (Int.tdiv n7 n8)) * (IntKind.wrap .i64 (n9 - 2)))) + (Int.tmod (IntKind.wrap .i64 ((IntKind.wrap .i64 (n10 -
  n13)) + n11)) n12))) * n14)) + (Int.tmod n15 n16))), .int .i64 (Int.tmod (IntKind.wrap .i64 ((IntKind.wrap .i64 (n10 - n13)) + n11)) n12), .int .i64 0]) w)))))))))))
theorem C_layout_Back {g : Array Value} {p : Array Value} {w : World} {R : Value → World → Prop} (h : F_layout_Back g p w R) : CallV Tryz.prog 208 #[.agg g, .agg p] w R := by
  exact calls_of_F (args := [.agg g, .agg p]) (mkAnn [] [] [] [] [51]) Tryz_mixed Tryz.func208 rfl rfl (by kernel_rfl) h
def F_scrub_Rebuild (s : Array Value) (disk : Int) (mark : Int) (count : Int) (epoch : Int) (w : World) (R : Value → World → Prop) : Prop :=
  Alc 51 s w fun b w => LdA 4 b 0 (At w) fun cs => CallV Tryz.prog 93 #[.agg cs] w fun v w => OpI .i64 v fun n => Cb (n != 0) (Ret [] (R (.tuple #[.int .i64 0, .int .i64 n])
  w)) (LdA 3 b 0 (At w) fun cs1 => CallV Tryz.prog 128 #[.agg cs1] w fun v1 w => T2 v1 fun v2 v3 => OpI .i64 v2 fun n1 => OpI .i64 v3 fun n2 => JoinC (σ := Bool × Unit) (fun
  J1 => Cb (decide (disk < 0)) (Req (true = true) (Req (true = true) (Req (true = true) (Req (true = true) (Req (true = true) (Req (true = true) (Req (true = true) (J1
  (true, ()) w)))))))) (LdV b 0 (At w) fun v4 => OpI .i64 v4 fun n3 => Req ((decide (disk ≥ n3)) = (decide (disk ≥ n3))) (Req ((decide (disk ≥ n3)) = (decide (disk ≥ n3)))
  (Req ((cond (decide (disk ≥ n3)) true (decide (mark < 0))) = (cond (decide (disk ≥ n3)) true (decide (mark < 0)))) (Req ((cond (decide (disk ≥ n3)) true (decide (mark <
  0))) = (cond (decide (disk ≥ n3)) true (decide (mark < 0)))) (Req ((cond (decide (disk ≥ n3)) true (decide (mark < 0))) = (cond (decide (disk ≥ n3)) true (decide (mark <
  0)))) (Req ((cond (cond (decide (disk ≥ n3)) true (decide (mark < 0))) true (decide (mark > n1))) = (cond (cond (decide (disk ≥ n3)) true (decide (mark < 0))) true (decide
  (mark > n1)))) (Req ((cond (cond (decide (disk ≥ n3)) true (decide (mark < 0))) true (decide (mark > n1))) = (cond (cond (decide (disk ≥ n3)) true (decide (mark < 0)))
  true (decide (mark > n1)))) (J1 (cond (cond (cond (decide (disk ≥ n3)) true (decide (mark < 0))) true (decide (mark > n1))) true (decide (count < 0)), ()) w))))))))) (fun
  _ s1 w => Cb s1.1 (Ret [] (R (.tuple #[.int .i64 0, .int .i64 2]) w)) (LdV b 3 (At w) fun v5 => OpS v5 fun p l c => IdxS p l disk 1 fun b1 o => LdV b1 o (At w) fun v6 =>
  OpN v6 fun b2 o1 => CallV Tryz.prog 87 #[.pointer (some ⟨b2, o1, none⟩)] w fun v7 w => OpB v7 fun g => Cb (!g) (Ret [] (R (.tuple #[.int .i64 0, .int .i64 5]) w)) (JoinC
  (σ := Int × Unit) (fun J2 => Cb (decide (count < IntKind.wrap .i64 (n1 - mark))) (J2 (IntKind.wrap .i64 (mark + count), ()) w) (J2 (n1, ()) w)) (fun _ s2 w => LoopC (σ :=
  Int × Unit) (fun _ s3 w K3 => Cb (decide (s3.1 < s2.1)) (LdV b 3 (At w) fun v8 => OpS v8 fun p1 l1 c1 => IdxS p1 l1 disk 1 fun b3 o2 => LdV b3 o2 (At w) fun v9 => OpN v9
  fun b4 o3 => CallV Tryz.prog 175 #[.pointer (some ⟨b4, o3, none⟩), .int .i64 s3.1] w fun v10 w => T2 v10 fun v11 v12 => OpA 17 v11 fun cs2 => OpI .i64 v12 fun n4 => Alc 86
  (zc Tryz.prog 86) w fun b5 w => StA 17 b5 0 cs2 w fun w => Cb (n4 == 4) (Ret [] (R (.tuple #[.int .i64 s3.1, .int .i64 n4]) w)) (JoinC (σ := Bool × Unit) (fun J4 => Cb (n4
  == 0) (LdA 17 b5 0 (At w) fun cs3 => CallV Tryz.prog 176 #[.int .i64 s3.1, .agg cs3] w fun v13 w => OpB v13 fun g1 => J4 (g1, ()) w) (J4 (false, ()) w)) (fun _ s4 w => Cb
  s4.1 (K3 (IntKind.wrap .i64 (s3.1 + 1), ()) w) (HeldR w fun S w => LdA 4 b 0 (At w) fun cs4 => LdV b 1 S fun v14 => OpI .i64 v14 fun n5 => Req (n5 ≠ 0) (LdV b 1 S fun v15
  => OpI .i64 v15 fun n6 => Req (n6 ≠ 0) (CallV Tryz.prog 31 #[.agg cs4, .int .i64 (IntKind.wrap .i64 (Int.tdiv s3.1 n5)), .int .i64 (Int.tmod s3.1 n6)] w fun v16 w => T3
  v16 fun v17 v18 v19 => OpS v17 fun p2 l2 c2 => OpS v18 fun p3 l3 c3 => OpI .i64 v19 fun n7 => Hld (S w) (Cb (n7 != 0) (Ret [] (R (.tuple #[.int .i64 s3.1, .int .i64 n7])
  w)) (LdA 3 b 0 (At w) fun cs5 => DoQ Tryz.prog (Instr.build 84 #[(0, .int .i64 disk), (1, .int .i64 s3.1)]) (At w) fun v20 => OpA 2 v20 fun cs6 => CallV Tryz.prog 208
  #[.agg cs5, .agg cs6] w fun v21 w => T3 v21 fun v22 v23 v24 => OpI .i64 v22 fun n8 => OpI .i64 v23 fun n9 => OpI .i64 v24 fun n10 => HeldR w fun S w => LdA 4 b 0 S fun cs7
  => DoQ Tryz.prog (Instr.build 84 #[(0, .int .i64 disk), (1, .int .i64 s3.1)]) S fun v25 => OpA 2 v25 fun cs8 => IdxS p2 l2 n9 16 fun b6 o4 => LdA 16 b6 o4 S fun cs9 =>
  CallV Tryz.prog 116 #[.int .i64 s3.1, .agg cs9] w fun v26 w => OpA 17 v26 fun cs10 => Hld (S w) (DoQ Tryz.prog (Instr.build 88 #[(0, .agg cs8), (1, .agg cs10)]) S fun v27
  => OpA 19 v27 fun cs11 => DoV Tryz.prog (Instr.buildSlice 75 1 #[(0, .agg cs11)]) w fun v28 w => OpS v28 fun p4 l4 c4 => Hld (S w) (CallV Tryz.prog 38 #[.agg cs7, .slice
  p4 l4 c4, .int .u32 epoch] w fun v29 w => OpI .i64 v29 fun n11 => Hld (S w) (Cb (n11 != 0) (Ret [] (R (.tuple #[.int .i64 s3.1, .int .i64 n11]) w)) (K3 (IntKind.wrap .i64
  (s3.1 + 1), ()) w)))))))))))) (Ret [] (R (.tuple #[.int .i64 s3.1, .int .i64 0]) w))) (mark, ()) w)))))
theorem C_scrub_Rebuild {s : Array Value} {disk : Int} {mark : Int} {count : Int} {epoch : Int} {w : World} {R : Value → World → Prop} (h : F_scrub_Rebuild s disk mark count epoch w R) : CallV Tryz.prog 137 #[.agg s, .int .i64 disk, .int .i64 mark, .int .i64 count, .int .u32 epoch] w R := by
  exact calls_of_F (args := [.agg s, .int .i64 disk, .int .i64 mark, .int .i64 count, .int .u32 epoch]) (mkAnnR [(12, [(2, (.int .i64))])] [] [(11, [(15, (.int .i64))])] [] [113, 140, 144] [] [(5, [(35, .bool)]), (17, [(100, .bool)])]) Tryz_mixed Tryz.func137 rfl rfl (by kernel_rfl) h
end Go.Proofs

/-
  A ROW THAT IS LOOKED AT: what scrub.look answers. Plain, and the parts of the walk.
-/
namespace Go.Proofs
open Go Go.Ev
set_option linter.unusedSimpArgs false
set_option linter.unusedVariables false
set_option maxRecDepth 100000

/-- a row with P and Q anew -/
def rightS (row : List Sec) : List Sec := row.take (row.length - 2) ++ [sumP ((row.take (row.length - 2)).map some), sumQ ((row.take (row.length - 2)).map some)]
open Classical in
/-- is a column wrong? -/
noncomputable def wrongB (g : Geo) (s : SS) (st off : Int) (gone : List Int) (row right : List Sec) (k : Int) : Bool :=
  (decide (k ∈ gone) || decide (right.getD k.toNat (sec []) ≠ row.getD k.toNat (sec []))) && !(s.ds.getD (plcP g st off k).dk.toNat dsk0).dead
/-- the wrong columns among the first ones -/
noncomputable def wrongL (g : Geo) (s : SS) (st off : Int) (gone : List Int) (row right : List Sec) (n : Nat) : List Int := ((List.range n).map fun (k : Nat) => (k : Int)).filter (wrongB g s st off gone row right)
theorem wrongL_succ (g : Geo) (s : SS) (st off : Int) (gone : List Int) (row right : List Sec) (n : Nat) : wrongL g s st off gone row right (n + 1) = wrongL g s st off gone row right n ++ (if wrongB g s st off gone row right (n : Int) = true then [(n : Int)] else []) := by
  unfold wrongL
  rw [List.range_succ, List.map_append, List.filter_append]
  congr 1
  rw [List.map_singleton, List.filter_cons, List.filter_nil]
theorem wrongL_len (g : Geo) (s : SS) (st off : Int) (gone : List Int) (row right : List Sec) (n : Nat) : (wrongL g s st off gone row right n).length ≤ n := by
  refine Nat.le_trans (List.length_filter_le _ _) (by simp)
/-- what look answers -/
def rowV (pp : Option Addr) (n cp : Nat) (pc : Option Addr) (m cc : Nat) (pw : Option Addr) (lw cw : Nat) : Array Value := #[.slice pp n cp, .slice pc m cc, .slice pw lw cw]
theorem one_rowV (pp : Option Addr) (n cp : Nat) (pc : Option Addr) (m cc : Nat) (pw : Option Addr) (lw cw : Nat) : ∀ v ∈ (rowV pp n cp pc m cc pw lw cw).toList, oneV v = true := by
  intro v hv
  have hv : v ∈ [Value.slice pp n cp, .slice pc m cc, .slice pw lw cw] := hv
  simp only [List.mem_cons, List.not_mem_nil, or_false] at hv
  rcases hv with rfl | rfl | rfl <;> rfl
theorem rowV_none : (zc Tryz.prog 312) = rowV none 0 0 none 0 0 none 0 0 := by kernel_rfl
/-- the columns that are lost, as a map's keys -/
def goneE (l : List Int) : List (Int × Value) := l.foldl (fun es k => ins es k (.agg #[])) []
theorem goneE_look (l : List Int) (x : Int) : mlook (goneE l) x = if x ∈ l then some (.agg #[]) else none := by
  have key : ∀ (l : List Int) (es : List (Int × Value)), mlook (l.foldl (fun es k => ins es k (.agg #[])) es) x = if x ∈ l then some (.agg #[]) else mlook es x := by
    intro l
    induction l with
    | nil => intro es; simp
    | cons k l ih =>
      intro es
      rw [List.foldl_cons, ih]
      by_cases h : x ∈ l
      · rw [if_pos h, if_pos (List.mem_cons_of_mem _ h)]
      · rw [if_neg h, look_ins]
        by_cases e : x = k
        · rw [if_pos e, if_pos (by rw [e]; exact List.mem_cons_self ..)]
        · rw [if_neg e, if_neg (fun h' => by rcases List.mem_cons.1 h' with h' | h'; exact e h'; exact h h')]
  unfold goneE
  rw [key, look_nil]
theorem goneE_succ (l : List Int) (k : Int) : goneE (l ++ [k]) = ins (goneE l) k (.agg #[]) := by unfold goneE; rw [List.foldl_append]; rfl

/-! ### memory -/
theorem bsl_s0 (w : World) : (Instr.buildSlice 32 0 #[]).run Tryz.prog w = .ok (.slice (some ⟨w.heap.size, 0, none⟩) 0 0) (w.alloc (.cells #[] 37)) := by kernel_rfl
theorem bsl_s2 (f h : Sec) (w : World) : (Instr.buildSlice 32 2 #[(0, .agg (secV f)), (1, .agg (secV h))]).run Tryz.prog w = .ok (.slice (some ⟨w.heap.size, 0, none⟩) 2 2) (w.alloc (.cells (secV f ++ secV h) 37)) :=
  run_buildSlice w 32 37 2 _ (secV f ++ secV h) ((Tryz.prog.info? 37).get (by kernel_rfl)) (((Tryz.prog.info? 37).get (by kernel_rfl)).zero.get (by kernel_rfl)) (by kernel_rfl) (by kernel_rfl) (by kernel_rfl) (by decide +kernel) (by decide +kernel) (by kernel_rfl)
theorem ldSecS {S : World → Prop} {w0 : World} {p : Option Addr} {f : Sec} (h0 : S w0) (h : ∀ w', S w' → SlL byLay w' p 16 (secB f)) (hp : ∃ b o, p = some ⟨b, o, none⟩) {K : Array Value → Prop} (hK : K (secV f)) : SlArr p 16 16 fun b o => LdA 16 b o S K := by
  obtain ⟨b, o, rfl⟩ := hp
  refine ⟨b, o, rfl, Nat.le_refl _, secV f, rfl, ?_, hK⟩
  intro w' hw i hi
  obtain ⟨b', o', hp', hc⟩ := (h w' hw).2 i (f ⟨i, hi⟩) (get_secB f hi)
  cases hp'
  have := hc 0 (by show 0 < 1; omega)
  rw [show o + i * byLay.size + 0 = o + i by show o + i * 1 + 0 = o + i; omega] at this
  rw [this]
  show some (Value.int .u8 (f ⟨i, hi⟩)) = (secV f)[i]?
  have hq : (secV f)[i]? = (secV f).toList[i]? := by simp
  rw [hq, show (secV f).toList = (secB f).map fun y => Value.int .u8 y from rfl, List.getElem?_map, get_secB f hi]; rfl
section calls
variable {w0 w : World} {p : Option Addr} {l c : Nat} {xs : List Sec}
theorem mkS0 (k : Keep (fun _ => False) w0 w) {K : Option Addr → Nat → Nat → World → Prop} (hK : ∀ p' w', (∀ b, p' = some ⟨b, 0, none⟩ → w.heap.size ≤ b) → OwnL secLay w' w0.heap.size 37 p' 0 0 [] → Keep (fun _ => False) w0 w' → Keep (fun _ => False) w w' → K p' 0 0 w') :
    DoV Tryz.prog (Instr.buildSlice 32 0 #[]) w fun v w => OpS v fun p l c => K p l c w := by
  refine ⟨_, _, bsl_s0 w, OpS_slice.2 ?_⟩
  have k1 := Keep.new (fun _ => False) w (.cells #[] 37)
  exact hK _ _ (fun b hb => by cases hb; exact Nat.le_refl _) ((OwnL.new (L := secLay) (xs := []) (by simp [maxLen]) rfl).rebase k.size) (k.trans k1) k1
theorem mkS2 (k : Keep (fun _ => False) w0 w) {f h : Sec} {K : Option Addr → Nat → Nat → World → Prop} (hK : ∀ p' w', (∀ b o, p' = some ⟨b, o, none⟩ → w.heap.size ≤ b ∧ b < w'.heap.size) → SlL secLay w' p' 2 [f, h] → Keep (fun _ => False) w0 w' → Keep (fun _ => False) w w' → K p' 2 2 w') :
    DoV Tryz.prog (Instr.buildSlice 32 2 #[(0, .agg (secV f)), (1, .agg (secV h))]) w fun v w => OpS v fun p l c => K p l c w := by
  refine ⟨_, _, bsl_s2 f h w, OpS_slice.2 ?_⟩
  have k1 := Keep.new (fun _ => False) w (.cells (secV f ++ secV h) 37)
  have o : OwnL secLay (w.alloc (.cells (secV f ++ secV h) 37)) w.heap.size 37 (some ⟨w.heap.size, 0, none⟩) 2 2 [f, h] := OwnL.new (L := secLay) (xs := [f, h]) (by simp [maxLen]) (by
    rw [show secLay.rows [f, h] = (secV f).toList ++ ((secV h).toList ++ []) from rfl, List.append_nil, Array.toList_append])
  exact hK _ _ (fun b o hb => by cases hb; exact ⟨Nat.le_refl _, by simp⟩) o.sl (k.trans k1) k1
theorem appS (k : Keep (fun _ => False) w0 w) (o : OwnL secLay w w0.heap.size 37 p l c xs) {p2 : Option Addr} {l2 c2 : Nat} {ys : List Sec} (h2 : SlL secLay w p2 l2 ys) (hl : l + l2 ≤ 1000) {K : Option Addr → Nat → Nat → World → Prop}
    (hK : ∀ p' c' w', OwnL secLay w' w0.heap.size 37 p' (l + l2) c' (xs ++ ys) → Keep (fun _ => False) w0 w' → Keep (fun k => p = some ⟨k, 0, none⟩) w w' → K p' (l + l2) c' w') :
    DoV Tryz.prog (Builtin.append_ #[32, 32] 32 #[.slice p l c, .slice p2 l2 c2]) w fun v w => OpS v fun p l c => K p l c w := by
  obtain ⟨p', c', w', hr, o', k', _⟩ := run_appendF (c2 := c2) secLayT o h2 (ty := 32) (by omega) (by simp only [maxLen]; omega) k.size
  exact ⟨_, _, hr, OpS_slice.2 (hK p' c' w' o' (k.trans' k' fun i hi e => by have := (o.lt e).1; omega) k')⟩
end calls

/-! ### the list of the columns -/
def ListT (p : Option Addr) (l : Nat) (w : World) (K : (Option Addr × Nat × Nat) × Int × Unit → World → Prop) : Prop :=
  LoopC (σ := (Option Addr × Nat × Nat) × Int × Unit) (fun _ s1 w K1 =>
  Cb (decide (s1.2.1 < IntKind.wrap .i64 (((l : Nat) : Int) - 2))) (IdxS p l s1.2.1 16 fun b2 o => Slc 16 16 none none none fun l3 h m => DoV Tryz.prog (Instr.buildSlice 187
  1 #[(0, .slice (slcP 1 l3 m (some ⟨b2, o, none⟩)) (h - l3) (m - l3))]) w fun v8 w => OpS v8 fun p3 l4 c3 => DoV Tryz.prog (Builtin.append_ #[187, 187] 187 #[.slice s1.1.1
  s1.1.2.1 s1.1.2.2, .slice p3 l4 c3]) w fun v9 w => OpS v9 fun p4 l5 c4 => K1 ((p4, l5, c4), (IntKind.wrap .i64 (s1.2.1 + 1), ())) w) (K s1 w)) ((none, 0, 0), (0, ())) w
theorem listT {w : World} {p : Option Addr} {base n c : Nat} {row : List Sec} (hn : 2 ≤ n) (hn32 : n ≤ 32) (o1 : OwnL secLay w base 37 p n c row) (hrok : ∀ f ∈ row, SecOk f) {K : (Option Addr × Nat × Nat) × Int × Unit → World → Prop}
    (hK : ∀ p' c' hs i w', Cols w' p' (n - 2) hs ((row.take (n - 2)).map some) → Keep (fun _ => False) w w' → K ((p', n - 2, c'), (i, ())) w') : ListT p n w K := by
  unfold ListT
  have hrl := o1.length
  have e2 : IntKind.wrap .i64 (((n : Nat) : Int) - 2) = ((n - 2 : Nat) : Int) := by rw [wrapI (by omega) (by omega)]; omega
  rw [e2]
  obtain ⟨bc, cur, hp, hbc, hhas, _⟩ := o1.cells (by omega)
  subst hp
  refine LoopC_of (σ := (Option Addr × Nat × Nat) × Int × Unit) (fun st' w' => ∃ k : Nat, st'.2.1 = (k : Int) ∧ k ≤ n - 2 ∧ st'.1.2.1 = k ∧ OwnL hLay w' w.heap.size 22 st'.1.1 k st'.1.2.2 (hdrs bc k) ∧ Keep (fun _ => False) w w') (fun st' _ => ((n - 2 : Nat) - st'.2.1).toNat)
    ⟨0, rfl, by omega, rfl, OwnL.nil, Keep.refl _ _⟩ ?_
  rintro _ ⟨⟨pa, la, ca⟩, i, u⟩ w1 ⟨k, hi, hk, hlk, oa, k1⟩
  simp only at hi hlk oa ⊢
  subst hi hlk
  have z1 := k1.size
  refine Cb_of (fun hc => ?_) (fun hc => ?_)
  · have hc : la < n - 2 := by
      have : (la : Int) < ((n - 2 : Nat) : Int) := by simpa using hc
      omega
    have ek : IntKind.wrap .i64 ((la : Int) + 1) = ((la + 1 : Nat) : Int) := by rw [wrapI (by omega) (by omega)]; omega
    refine ⟨bc, 0, rfl, by omega, by omega, ?_⟩
    refine Slc_all (by omega) ?_
    rw [slc16, Int.toNat_natCast]
    refine ⟨_, _, bsl_h1 _ _ _ w1, OpS_slice.2 ?_⟩
    have k2 := Keep.new (fun _ => False) w1 (.cells #[.slice (some ⟨bc, 0 + la * 16, none⟩) (16 - 0) (16 - 0)] 22)
    have hb2 := Has.new w1 (.cells #[.slice (some ⟨bc, 0 + la * 16, none⟩) (16 - 0) (16 - 0)] 22)
    generalize w1.alloc (.cells #[.slice (some ⟨bc, 0 + la * 16, none⟩) (16 - 0) (16 - 0)] 22) = w2 at *
    have z2 := k2.size
    obtain ⟨p3, c3, w3, hr3, o3, k3, _⟩ := run_appendF1 hLayT (oa.keep k2 (by simp)) (y := (some ⟨bc, 0 + la * 16, none⟩, 16, 16)) hb2 rfl (ty := 187) (by omega) (by simp only [maxLen]; omega) (by omega) (c2 := 1)
    refine ⟨_, _, hr3, OpS_slice.2 ?_⟩
    refine ⟨_, by show (((n - 2 : Nat) : Int) - IntKind.wrap .i64 ((la : Int) + 1)).toNat < (((n - 2 : Nat) : Int) - (la : Int)).toNat; rw [ek]; omega, ⟨la + 1, ek, by omega, rfl, by rw [hdrs_succ]; exact o3, (k1.trans k2).trans' k3 fun i hi e => by have := (oa.lt e).1; omega⟩, rfl⟩
  · have hc : la = n - 2 := by
      have : ¬ (la : Int) < ((n - 2 : Nat) : Int) := by simpa using hc
      omega
    subst hc
    have o11 := o1.keep k1 (by simp)
    have hcols : Cols w1 pa (n - 2) (hdrs bc (n - 2)) ((row.take (n - 2)).map some) := by
      refine ⟨oa.sl, by rw [len_hdrs, List.length_map, List.length_take]; omega, fun i h C h1 h2 => ?_, map_some_ok fun f hf => hrok f (List.mem_of_mem_take hf)⟩
      have hi : i < n - 2 := by have := (List.getElem?_eq_some_iff.1 h1).1; rwa [len_hdrs] at this
      unfold hdrs at h1
      rw [List.getElem?_map, List.getElem?_range hi] at h1
      cases h1
      rw [List.getElem?_map, List.getElem?_take, if_pos hi] at h2
      obtain ⟨f, hf⟩ : ∃ f, row[i]? = some f := ⟨_, List.getElem?_eq_getElem (by omega)⟩
      rw [hf] at h2
      cases h2
      exact sec_col o11.sl hf
    exact hK pa ca _ _ w1 hcols k1
end Go.Proofs

/-
  scrub.look, the walk.
-/
namespace Go.Proofs
open Go Go.Ev
set_option linter.unusedSimpArgs false
set_option linter.unusedVariables false
set_option maxRecDepth 100000

theorem bld_row (pp : Option Addr) (n cp : Nat) (w : World) : (Instr.build 312 #[(0, .slice pp n cp)]).run Tryz.prog w = .ok (.agg (rowV pp n cp none 0 0 none 0 0)) w := run_build _ _ _ _ (by kernel_rfl)
theorem bld_row0 (w : World) : (Instr.build 312 #[]).run Tryz.prog w = .ok (.agg (rowV none 0 0 none 0 0 none 0 0)) w := run_build _ _ _ _ (by kernel_rfl)
theorem rowR_len {g : Geo} {s : SS} {st off : Int} (hd : 2 ≤ g.d.toNat) : (rowR (colsS g s st off)).length = g.d.toNat := by rw [len_rowR (by rw [len_colsS]; omega), len_colsS]
theorem len_rightS {row : List Sec} (h : 2 ≤ row.length) : (rightS row).length = row.length := by
  unfold rightS
  rw [List.length_append, List.length_take]
  simp
  omega
theorem rightS_ok {row : List Sec} (h : ∀ f ∈ row, SecOk f) : ∀ f ∈ rightS row, SecOk f := by
  unfold rightS
  have ht := map_some_ok (D := row.take (row.length - 2)) fun f hf => h f (List.mem_of_mem_take hf)
  intro f hf
  rcases List.mem_append.1 hf with hf | hf
  · exact h f (List.mem_of_mem_take hf)
  · simp only [List.mem_cons, List.not_mem_nil, or_false] at hf
    rcases hf with rfl | rfl
    · exact sumI_ok (fun _ => by omega) ht _
    · exact sumI_ok expN_lt ht _
section calls
variable {w : World} {q : SB} {s : SS} {R : Value → World → Prop}
theorem alive_Q (h : SetAt w q s) {b r : Nat} {D : Dsk} (hda : DiskAt w q.m b r D) {K : Value → Prop} (hK : K (.bool (!D.dead))) : CallQ Tryz.prog 87 #[.pointer (some ⟨b, 0, none⟩)] (At w) K :=
  CallQ_of (V := .bool (!D.dead)) (fun d => d_Alive (hda.keep (Keep.drew (fun _ => False) w d) (by simp) (by simp)) ⟨rfl, rfl⟩) hK
theorem sc_look (h : SetAt w q s) {p : Option Addr} {l c : Nat} (hsl : SlL dLay w p l (q.bks.map Prod.fst)) (hlc : l ≤ c) (hok : ∀ D ∈ s.ds, DskOk D) {st off : Int} (hst : 0 ≤ st ∧ st < q.g.s) (hof : 0 ≤ off ∧ off < q.g.c)
    (hOff : s.pw.on = false → ∀ w', Keep (fun _ => False) w w' → R (.tuple #[.agg (rowV none 0 0 none 0 0 none 0 0), .int .i64 4]) w')
    (hLost : s.pw.on = true → ¬ lostN (colsS q.g s st off) ≤ 2 → ∀ w', Keep (fun _ => False) w w' → R (.tuple #[.agg (rowV none 0 0 none 0 0 none 0 0), .int .i64 8]) w')
    (hK : s.pw.on = true → lostN (colsS q.g s st off) ≤ 2 → ∀ pp cp pc cc pw lw cw w', OwnL plLay w' w.heap.size 84 pp q.g.d.toNat cp (rowP q.g st off q.g.d.toNat) → OwnL secLay w' w.heap.size 37 pc q.g.d.toNat cc (rightS (rowR (colsS q.g s st off))) →
      OwnL nLay w' w.heap.size 3 pw lw cw (wrongL q.g s st off (goneL (colsS q.g s st off)) (rowR (colsS q.g s st off)) (rightS (rowR (colsS q.g s st off))) q.g.d.toNat) → Keep (fun _ => False) w w' → R (.tuple #[.agg (rowV pp q.g.d.toNat cp pc q.g.d.toNat cc pw lw cw), .int .i64 0]) w') :
    CallV Tryz.prog 254 #[.agg (setV q.g p l c), .int .i64 st, .int .i64 off] w R := by
  apply C_scrub_look
  unfold F_scrub_look
  have hgd := h.geo.d
  have hll : l = s.ds.length := by have := hsl.1; rw [List.length_map, h.len] at this; exact this
  have hnum := h.num
  refine alc_fresh fun w1 hb1 k1 z1 => ?_
  refine alc_fresh fun w2 hb2 k2 z2 => ?_
  rw [rowV_none] at hb2
  have hs2 := k2.has hb1 (by simp)
  have k02 := k1.trans k2
  refine LdA_all hs2 rfl ?_
  have err : ∀ (e : Int) (w3 : World), Keep (fun _ => False) w2 w3 → (∀ w', Keep (fun _ => False) w w' → R (.tuple #[.agg (rowV none 0 0 none 0 0 none 0 0), .int .i64 e]) w') →
      DoQ Tryz.prog (Instr.build 312 #[]) (At w3) fun v4 => OpA 3 v4 fun cs1 => StA 3 w1.heap.size 0 cs1 w3 fun w => LdA 3 w1.heap.size 0 (At w) fun cs2 => Ret [] (R (.tuple #[.agg cs2, .int .i64 e]) w) := by
    intro e w3 k3 hR
    refine DoQ_of (v := .agg (rowV none 0 0 none 0 0 none 0 0)) (fun _ => bld_row0 _) (OpA_agg.2 ⟨rfl, ?_⟩)
    have hb3 := k3.has hb2 (by simp)
    refine StA_all hb3 rfl rfl (one_rowV _ _ _ _ _ _ _ _ _) ?_
    refine LdA_all (hb3.upd_same _) rfl (Ret_nil.2 (hR _ ?_))
    exact (k02.trans k3).trans' ((Keep.refl (fun k => k = w1.heap.size) _).upd (fun _ => rfl) _) fun i hi e => by omega
  refine st_Row (h.keep0 k02) (hsl.keepB k02 (by simp)) hlc hok hst hof (fun hp w3 k3 => ?_) (fun hp hl w3 k3 => ?_) fun hp hl pc1 cc1 lp ll lc w3 o3 on3 k3 => ?_
  · exact T3_mk.2 (OpS_slice.2 (OpS_slice.2 (OpI_int.2 ((Cb_true (q := _)).2 (err 4 w3 k3 (hOff hp))))))
  · exact T3_mk.2 (OpS_slice.2 (OpS_slice.2 (OpI_int.2 ((Cb_true (q := _)).2 (err 8 w3 k3 (hLost hp hl))))))
  · refine T3_mk.2 (OpS_slice.2 (OpS_slice.2 (OpI_int.2 ((Cb_false (p := _)).2 ?_))))
    have hK := hK hp hl
    have k03 := k02.trans k3
    have hs3 := k3.has hs2 (by simp)
    have hz3 := k3.has hb2 (by simp)
    have hrl := rowR_len (g := q.g) (s := s) (st := st) (off := off) (by omega)
    have hrok := rowR_ok (colsS_ok (g := q.g) (st := st) (off := off) hok)
    have hgl := goneI_lt (colsS q.g s st off) (colsS q.g s st off).length
    have hgl : ∀ x ∈ goneL (colsS q.g s st off), ∃ n : Nat, x = (n : Int) ∧ n < q.g.d.toNat := fun x hx => by
      obtain ⟨n, h1, h2, _⟩ := hgl x hx
      exact ⟨n, h1, by rw [len_colsS] at h2; exact h2⟩
    have hgc : (goneL (colsS q.g s st off)).length ≤ 2 := by rw [goneL_len]; exact hl
    generalize rowR (colsS q.g s st off) = row at *
    generalize goneL (colsS q.g s st off) = gone at *
    generalize hnn : q.g.d.toNat = n at *
    refine LdA_has (cs := geoV q.g) hs3 (by show 0 + 3 ≤ 4; decide) rfl ?_
    refine l_Row h.geo hst hof fun pp cp w4 o4 k4 => ?_
    rw [hnn] at o4 ⊢
    refine T2_mk.2 (OpS_slice.2 (OpI_int.2 ?_))
    refine listT (by omega) (by omega) (o3.keep k4 (by simp)) hrok fun p5 c5 hs5 i5 w5 hcols k5 => ?_
    refine p_Encode hcols (show 1 ≤ n - 2 by omega) (show n - 2 ≤ 30 by omega) (lost_some _) fun bp bq w6 hne hbp hbq op oq k6 => ?_
    refine T3_mk.2 (OpS_slice.2 (OpS_slice.2 (OpI_int.2 ?_)))
    refine DoQ_of (fun _ => bld_row pp n cp _) (OpA_agg.2 ⟨rfl, ?_⟩)
    refine copy_of (by rw [rowV_none]; rfl) rfl (one_rowV _ _ _ _ _ _ _ _ _) fun w7 hb7 k7 z7 => ?_
    refine ⟨_, _, run_makeMap, OpM_map.2 ?_⟩
    have k8 := Keep.new (fun _ => False) w7 (.map #[] 0)
    have hm8 : MapAt .i64 (w7.alloc (.map #[] 0)) w7.heap.size [] := ⟨_, _, Has.new _ _, MapOk.nil _⟩
    have z8 : (w7.alloc (.map #[] 0)).heap.size = w7.heap.size + 1 := by simp
    generalize w7.alloc (.map #[] 0) = w8 at *
    have k38 := (((k4.trans k5).trans k6).trans k7).trans k8
    have on8 := on3.keep k38 (by simp)
    have hll8 := on8.length
    -- the lost columns as a set
    refine LoopC_of (σ := Int × Unit) (fun st' w' => ∃ j : Nat, st'.1 = (j : Int) ∧ j ≤ ll ∧ MapAt .i64 w' w7.heap.size (goneE (gone.take j)) ∧ Keep (fun k => k = w7.heap.size) w8 w') (fun st' _ => (ll - st'.1).toNat) ⟨0, rfl, by omega, hm8, Keep.refl _ _⟩ ?_
    rintro _ ⟨i, u⟩ w9 ⟨j, hi, hjl, hm9, k9⟩
    simp only at hi ⊢
    subst hi
    refine Cb_of (fun hc => ?_) (fun hc => ?_)
    · have hc : j < ll := by
        have : (j : Int) < (ll : Int) := by simpa using hc
        omega
      have ek : IntKind.wrap .i64 ((j : Int) + 1) = ((j + 1 : Nat) : Int) := by rw [wrapI (by omega) (by omega)]; omega
      obtain ⟨k, hk⟩ : ∃ k, gone[j]? = some k := ⟨_, List.getElem?_eq_getElem (by omega)⟩
      have on9 := on8.keep k9 fun b hb e => by have := (on3.lt hb).2; have := ((((k4.trans k5).trans k6).trans k7)).size; omega
      refine on9.sl.ld0 (i := (j : Int)) (n := 1) (x := k) (v := .int .i64 k) rfl (by omega) (by rw [Int.toNat_natCast]; exact hk) rfl (OpI_int.2 ?_)
      refine DoQ_of (v := .agg #[]) (fun _ => run_build _ _ _ _ (by kernel_rfl)) (OpA_agg.2 ⟨rfl, ?_⟩)
      obtain ⟨arr, clk, hr, ho⟩ := run_mapUpdate (P := Tryz.prog) (t := 316) (kt := 3) (et := 130) (by kernel_rfl) (by kernel_rfl) hm9 k (.agg #[])
      refine ⟨_, hr, ?_⟩
      have hlt := hm9.lt
      refine ⟨_, by show ((ll : Int) - IntKind.wrap .i64 ((j : Int) + 1)).toNat < ((ll : Int) - (j : Int)).toNat; rw [ek]; omega, ⟨j + 1, ek, by omega, ?_, k9.trans (Keep.one _ _ _)⟩, rfl⟩
      rw [List.take_add_one, hk]
      show MapAt .i64 _ _ (goneE (gone.take j ++ [k]))
      rw [goneE_succ]
      exact ⟨_, _, (by obtain ⟨a, c, hb, _⟩ := hm9; exact hb.upd_same _), ho⟩
    · have hc : j = ll := by
        have : ¬ (j : Int) < (ll : Int) := by simpa using hc
        omega
      subst hc
      rw [hll8, List.take_length] at hm9
      have z38 := k38.size
      have z37 := ((((k4.trans k5).trans k6).trans k7)).size
      have k39 : Keep (fun _ => False) w3 w9 := k38.trans' k9 fun i hi e => by omega
      have o39 := o3.keep k39 (by simp)
      have k69 : Keep (fun _ => False) w6 w9 := (k7.trans k8).trans' k9 fun i hi e => by have := k7.size; omega
      have op9 := op.keep k69 (by simp)
      have oq9 := oq.keep k69 (by simp)
      have k09 := k03.trans k39
      have hb9 : Has w9 w6.heap.size (.cells (rowV pp n cp none 0 0 none 0 0) 312 (0, 0)) := k9.has (k8.has hb7 (by simp)) (by omega)
      have hright : rightS row = row.take (n - 2) ++ [sumP ((row.take (n - 2)).map some), sumQ ((row.take (n - 2)).map some)] := by unfold rightS; rw [hrl]
      have e2 : IntKind.wrap .i64 (((n : Nat) : Int) - 2) = ((n - 2 : Nat) : Int) := by rw [wrapI (by omega) (by omega)]; omega
      have hsub : ∀ {w' : World}, Keep (fun _ => False) w9 w' → SlL secLay w' (slcP 16 0 cc1 pc1) (n - 2 - 0) (row.take (n - 2)) := fun k => by
        have := (o39.keep k (by simp)).sl.sub (lo := 0) (hi := n - 2) (m := cc1) (by omega) (by omega) (by have := o3.cap; omega)
        rw [List.drop_zero] at this
        exact this
      refine ⟨fun st' w' => st'.1.2.1 = n ∧ OwnL secLay w' w9.heap.size 37 st'.1.1 n st'.1.2.2 (rightS row) ∧ Keep (fun _ => False) w9 w', ?_, ?_⟩
      · intro d
        have kd := Keep.drew (fun _ => False) w9 d
        have opd := op9.keep kd (by simp)
        have oqd := oq9.keep kd (by simp)
        generalize w9.dr d = w10 at *
        refine ⟨fun w' => SlL byLay w' (some ⟨bp, 0, none⟩) 16 (secB (sumP ((row.take (n - 2)).map some))) ∧ SlL byLay w' (some ⟨bq, 0, none⟩) 16 (secB (sumQ ((row.take (n - 2)).map some))), ⟨opd.sl, oqd.sl⟩, ?_⟩
        rw [e2]
        refine Slc_hiN (by have := o3.cap; omega) ?_
        refine ldSecS (S := fun w' => SlL byLay w' (some ⟨bp, 0, none⟩) 16 (secB (sumP ((row.take (n - 2)).map some))) ∧ SlL byLay w' (some ⟨bq, 0, none⟩) 16 (secB (sumQ ((row.take (n - 2)).map some)))) (w0 := w10) ⟨opd.sl, oqd.sl⟩ (fun w' hw => hw.1) ⟨_, _, rfl⟩ ?_
        refine ldSecS (S := fun w' => SlL byLay w' (some ⟨bp, 0, none⟩) 16 (secB (sumP ((row.take (n - 2)).map some))) ∧ SlL byLay w' (some ⟨bq, 0, none⟩) 16 (secB (sumQ ((row.take (n - 2)).map some)))) (w0 := w10) ⟨opd.sl, oqd.sl⟩ (fun w' hw => hw.2) ⟨_, _, rfl⟩ ?_
        have hS : ∀ {w' : World}, Keep (fun _ => False) w10 w' → SlL byLay w' (some ⟨bp, 0, none⟩) 16 (secB (sumP ((row.take (n - 2)).map some))) ∧ SlL byLay w' (some ⟨bq, 0, none⟩) 16 (secB (sumQ ((row.take (n - 2)).map some))) := fun k => ⟨(opd.keep k (by simp)).sl, (oqd.keep k (by simp)).sl⟩
        rw [hright]
        generalize sumP ((row.take (n - 2)).map some) = P at *
        generalize sumQ ((row.take (n - 2)).map some) = Q at *
        have kdS := kd.size
        have fin : ∀ {p' : Option Addr} {l' c' : Nat} {w' : World}, l' = n → OwnL secLay w' w10.heap.size 37 p' l' c' ([] ++ row.take (n - 2) ++ [P, Q]) → Keep (fun _ => False) w10 w' → (((p', l', c'), ()) : (Option Addr × Nat × Nat) × Unit).1.2.1 = n ∧ OwnL secLay w' w9.heap.size 37 (((p', l', c'), ()) : (Option Addr × Nat × Nat) × Unit).1.1 n (((p', l', c'), ()) : (Option Addr × Nat × Nat) × Unit).1.2.2 (row.take (n - 2) ++ [P, Q]) ∧ Keep (fun _ => False) w9 w' := by
          intro p' l' c' w' hl' o' k'
          subst hl'
          exact ⟨rfl, o'.rebase kdS, kd.trans k'⟩
        refine ⟨?_, ?_⟩
        · refine mkS0 (Keep.refl _ w10) fun pa wa ha oa ka ka' => ⟨hS ka, ?_, ?_⟩
          · refine appS ka oa (hsub (kd.trans ka)) (by omega) fun pb cb wb ob kb kb' => ⟨hS kb, ?_⟩
            refine mkS2 kb fun px wx hx sx kx kx' => ⟨hS kx, ?_⟩
            exact appS kx (ob.keep kx' (by simp)) sx (by omega) fun pe ce we oe ke ke' => ⟨hS ke, fin (by omega) oe ke⟩
          · refine mkS2 ka fun px wx hx sx kx kx' => ⟨hS kx, ?_⟩
            refine appS kx (oa.keep kx' (by simp)) (hsub (kd.trans kx)) (by omega) fun pb cb wb ob kb kb' => ⟨hS kb, ?_⟩
            exact appS kb ob (sx.keep kb' fun b o hb e => by have := (hx b o hb).1; have := (oa.lt e).2; omega) (by omega) fun pe ce we oe ke ke' => ⟨hS ke, fin (by omega) oe ke⟩
        · refine mkS2 (Keep.refl _ w10) fun px wx hx sx kx kx' => ⟨hS kx, ?_⟩
          refine mkS0 kx fun pa wa ha oa ka ka' => ⟨hS ka, ?_⟩
          refine appS ka oa (hsub (kd.trans ka)) (by omega) fun pb cb wb ob kb kb' => ⟨hS kb, ?_⟩
          exact appS kb ob ((sx.keepB ka' (by simp)).keep kb' fun b o hb e => by have := (hx b o hb).2; have := ha b e; omega) (by omega) fun pe ce we oe ke ke' => ⟨hS ke, fin (by omega) oe ke⟩
      · rintro _ ⟨⟨pr, lr, cr⟩, u⟩ w10 ⟨hlr, or, kr⟩
        simp only at hlr or ⊢
        subst hlr
        have k010 := k09.trans kr
        have hb10 := kr.has hb9 (by simp)
        have hm10 := hm9.keep kr (by simp)
        have orr : OwnL secLay w10 w.heap.size 37 pr lr cr (rightS row) := or.rebase k09.size
        have o310 : OwnL secLay w10 w.heap.size 37 pc1 lr cc1 row := (o39.keep kr (by simp)).rebase k02.size
        have o410 : OwnL plLay w10 w.heap.size 84 pp lr cp (rowP q.g st off lr) := ((o4.keep ((k5.trans k6).trans k69) (by simp)).keep kr (by simp)).rebase k03.size
        have hs10 := (k39.trans kr).has hs3 (by simp)
        have hlen := len_rightS (row := row) (by omega)
        have z9 : w.heap.size ≤ w6.heap.size := (((k03.trans k4).trans k5).trans k6).size
        refine LoopC_of (σ := Int × Unit) (fun st' w' => ∃ (i : Nat) (pw : Option Addr) (lw cw : Nat), st'.1 = (i : Int) ∧ i ≤ lr ∧ Has w' w6.heap.size (.cells (rowV pp lr cp none 0 0 pw lw cw) 312 (0, 0)) ∧ OwnL nLay w' w.heap.size 3 pw lw cw (wrongL q.g s st off gone row (rightS row) i) ∧ (∀ b, pw = some ⟨b, 0, none⟩ → w10.heap.size ≤ b) ∧ Keep (fun k => k = w6.heap.size) w10 w') (fun st' _ => (lr - st'.1).toNat)
          ⟨0, none, 0, 0, rfl, by omega, hb10, OwnL.nil, (fun b e => by cases e), Keep.refl _ _⟩ ?_
        rintro _ ⟨i, u⟩ w11 ⟨i', pw, lw, cw, hi, hil, hb11, ow11, hpw, k11⟩
        simp only at hi ⊢
        subst hi
        have h611 : ∀ {w' : World}, Keep (fun k => k = w6.heap.size) w10 w' → Keep (fun _ => False) w w' := fun k => k010.trans' k fun i hi e => by omega
        have k011 := h611 k11
        have nek : ∀ {α : Type} {L : Lay α} {base : Nat} {e : TypeId} {pz : Option Addr} {lz cz : Nat} {zs : List α}, OwnL L w10 base e pz lz cz zs → 312 ≠ e → OwnL L w11 base e pz lz cz zs := fun o he => o.keep k11 fun k hk e => (OwnL.neH o hb10 he) (by rw [hk, e])
        have or11 := nek orr (by decide)
        have o311 := nek o310 (by decide)
        have o411 := nek o410 (by decide)
        have hm11 : MapAt .i64 w11 w7.heap.size (goneE gone) := hm10.keep k11 (hm10.ne hb10)
        have hs11 : Has w11 w.heap.size (.cells (setV q.g p l c) 51 (0, 0)) := k11.has hs10 (by have := hs3.lt; have := (((k4.trans k5).trans k6)).size; omega)
        refine Cb_of (fun hc => ?_) (fun hc => ?_)
        · have hc : i' < lr := by
            have : (i' : Int) < (lr : Int) := by simpa using hc
            omega
          have ek : IntKind.wrap .i64 ((i' : Int) + 1) = ((i' + 1 : Nat) : Int) := by rw [wrapI (by omega) (by omega)]; omega
          obtain ⟨f, hf⟩ : ∃ f, (rightS row)[i']? = some f := ⟨_, List.getElem?_eq_getElem (by omega)⟩
          obtain ⟨r, hr⟩ : ∃ r, row[i']? = some r := ⟨_, List.getElem?_eq_getElem (by omega)⟩
          have hfo := rightS_ok hrok f (List.mem_of_getElem? hf)
          have hro := hrok r (List.mem_of_getElem? hr)
          have e16 : ∀ f : Sec, (secLay.row f).toArray = secV f := fun f => by show ((secV _).toList).toArray = _; simp
          refine or11.ldA (i := (i' : Int)) (n := 16) (x := f) rfl (by omega) (by rw [Int.toNat_natCast]; exact hf) ?_
          rw [e16]
          refine copy_of (by rw [zc_sec]; rfl) rfl (one_secV _) fun w12 hb12 k12 z12 => ?_
          have hm12 := hm11.keep k12 (by simp)
          have hlk := goneE_look gone (i' : Int)
          refine DoQ_of (v := .tuple #[.agg #[], .bool (decide ((i' : Int) ∈ gone))]) (fun d => ?_) (T2_mk.2 (OpA_agg.2 ⟨rfl, OpB_bool.2 ?_⟩))
          · have := run_lookup (P := Tryz.prog) (t := 316) (kt := 3) (et := 130) (z := .agg #[]) (by kernel_rfl) (by kernel_rfl) (fun w => run_zeroValue (i := (Tryz.prog.info? 130).get (by kernel_rfl)) (by kernel_rfl) (by kernel_rfl)) (hm12.dr d) (i' : Int) true
            rw [this, hlk]
            by_cases hg : (i' : Int) ∈ gone
            · rw [if_pos hg, decide_eq_true hg]; rfl
            · rw [if_neg hg, decide_eq_false hg]; rfl
          refine copy_of (by kernel_rfl) rfl (by simp) fun w13 hb13 k13 z13 => ?_
          have k1113 := k12.trans k13
          have k013 := k011.trans k1113
          have h13 := h.keep0 k013
          have hs13 := k1113.has hs11 (by simp)
          obtain ⟨pk1, pk2⟩ := plcP_ok h.geo hst hof (i' : Int)
          obtain ⟨bd, rd, D, hbk, hD, hda, hdl⟩ := h13.get (i := (plcP q.g st off (i' : Int)).dk.toNat) (by have := h13.num; omega)
          have hDg : s.ds.getD (plcP q.g st off (i' : Int)).dk.toNat dsk0 = D := by rw [List.getD_eq_getElem?_getD, hD]; rfl
          have hpl : (rowP q.g st off lr)[i']? = some (plcP q.g st off (i' : Int)) := by
            unfold rowP
            rw [List.getElem?_map, List.getElem?_range hc]; rfl
          have hwrong : wrongB q.g s st off gone row (rightS row) (i' : Int) = ((decide ((i' : Int) ∈ gone) || @decide (f ≠ r) (Classical.propDecidable _)) && !D.dead) := by
            unfold wrongB
            rw [hDg, Int.toNat_natCast, List.getD_eq_getElem?_getD, hf, List.getD_eq_getElem?_getD, hr]
            congr 1
            congr 1
            exact decide_eq_decide.2 Iff.rfl
          have alive : ∀ (J : Bool → World → Prop), (∀ d, J (!D.dead) (w13.dr d)) → LdV w.heap.size 3 (At w13) fun v32 => OpS v32 fun p18 l20 c18 => IdxS pp lr (i' : Int) 2 fun b10 o5 => LdV b10 o5 (At w13) fun v33 => OpI .i64 v33 fun n4 => IdxS p18 l20 n4 1 fun b11 o6 => LdV b11 o6 (At w13)
              fun v34 => OpN v34 fun b12 o7 => CallQ Tryz.prog 87 #[.pointer (some ⟨b12, o7, none⟩)] (At w13) fun v35 => OpB v35 fun g1 => Drw w13 fun w => J g1 w := by
            intro J hJ
            refine LdV_has (v := .slice p l c) hs13 rfl (OpS_slice.2 ?_)
            refine (o411.keep k1113 (by simp)).sl.ld0 (i := (i' : Int)) (n := 2) (x := plcP q.g st off (i' : Int)) (v := .int .i64 (plcP q.g st off (i' : Int)).dk) rfl (by omega) (by rw [Int.toNat_natCast]; exact hpl) rfl (OpI_int.2 ?_)
            refine (hsl.keepB k013 (by simp)).ld0 (i := (plcP q.g st off (i' : Int)).dk) (n := 1) (x := bd) (v := .pointer (some ⟨bd, 0, none⟩)) rfl pk1.1 (by rw [List.getElem?_map, hbk]; rfl) rfl (OpN_some.2 ?_)
            exact alive_Q h13 hda (OpB_bool.2 hJ)
          refine ⟨fun st' w' => st'.1 = wrongB q.g s st off gone row (rightS row) (i' : Int) ∧ Keep (fun _ => False) w13 w', ?_, ?_⟩
          · refine Cb_of (fun hg => ?_) (fun hg => ?_)
            · refine alive (fun g w => (((g, ()) : Bool × Unit).1 = wrongB q.g s st off gone row (rightS row) (i' : Int) ∧ Keep (fun _ => False) w13 w)) fun d => ⟨?_, Keep.drew _ _ _⟩
              rw [hwrong, hg]; rfl
            · refine LdA_all (k13.has hb12 (by simp)) rfl ?_
              refine (o311.keep k1113 (by simp)).ldA (i := (i' : Int)) (n := 16) (x := r) rfl (by omega) (by rw [Int.toNat_natCast]; exact hr) ?_
              rw [e16]
              refine EqB_sec_ne hfo hro fun g2 hg2 => Cb_of (fun e => ?_) (fun e => ?_)
              · refine alive (fun g w => (((g, ()) : Bool × Unit).1 = wrongB q.g s st off gone row (rightS row) (i' : Int) ∧ Keep (fun _ => False) w13 w)) fun d => ⟨?_, Keep.drew _ _ _⟩
                rw [hwrong, hg, @decide_eq_true _ (Classical.propDecidable _) (hg2.1 e)]; rfl
              · refine fun d => ⟨?_, Keep.drew _ _ _⟩
                rw [hwrong, hg, @decide_eq_false _ (Classical.propDecidable _) (fun h => by rw [hg2.2 h] at e; cases e)]; rfl
          · rintro _ ⟨b5, u⟩ w14 ⟨hb5, k14⟩
            simp only at hb5 ⊢
            have k1114 := k1113.trans k14
            have hb14 := k1114.has hb11 (by simp)
            have ow14 := ow11.keep k1114 (by simp)
            have hlw := ow14.length
            have hlw2 := wrongL_len q.g s st off gone row (rightS row) i'
            rw [hb5]
            have hnext := wrongL_succ q.g s st off gone row (rightS row) i'
            refine Cb_of (fun hg => ?_) (fun hg => ?_)
            · rw [if_pos hg] at hnext
              refine LdV_has (v := .slice pw lw cw) hb14 rfl (OpS_slice.2 ?_)
              refine ⟨_, _, bsl_n1 _ w14, OpS_slice.2 ?_⟩
              have k15 := Keep.new (fun _ => False) w14 (.cells #[.int .i64 (i' : Int)] 3)
              have hb15 := Has.new w14 (.cells #[.int .i64 (i' : Int)] 3)
              generalize w14.alloc (.cells #[.int .i64 (i' : Int)] 3) = w15 at *
              have ow15 := ow14.keep k15 (by simp)
              have k015 := (k011.trans k1114).trans k15
              obtain ⟨p16, c16, w16, hr16, o16, k16, hwh⟩ := run_appendF1 nLayT ow15 (y := (i' : Int)) hb15 rfl (ty := 69) (by omega) (by simp only [maxLen]; omega) k015.size (c2 := 1)
              refine ⟨_, _, hr16, OpS_slice.2 ?_⟩
              have hb16 := k16.has (k15.has hb14 (by simp)) (OwnL.neH ow15 (k15.has hb14 (by simp)) (by decide))
              refine StV_of hb16 (by show 2 < 3; decide) rfl ?_
              have ku := Keep.one w16 w6.heap.size (.cells (rowV pp lr cp none 0 0 p16 (lw + 1) c16) 312 (0, 0))
              have z1015 := (k11.trans ((k1114.trans k15).mono fun _ h => h.elim)).size
              refine ⟨_, by show ((lr : Int) - IntKind.wrap .i64 ((i' : Int) + 1)).toNat < ((lr : Int) - (i' : Int)).toNat; rw [ek]; omega, ⟨i' + 1, p16, lw + 1, c16, ek, by omega, hb16.upd_same _, ?_, ?_, ?_⟩, rfl⟩
              · rw [hnext]
                exact o16.keep ku fun k hk e => (OwnL.neH o16 hb16 (by decide)) (by rw [hk, e])
              · intro b hb
                rcases hwh with e | e
                · exact hpw b (by rw [← e]; exact hb)
                · rw [e] at hb; cases hb; exact z1015
              · exact ((k11.trans ((k1114.trans k15).mono fun _ h => h.elim)).trans' k16 fun i hi e => by have := hpw i e; omega).trans ku
            · rw [if_neg (by rw [hg]; decide), List.append_nil] at hnext
              refine ⟨_, by show ((lr : Int) - IntKind.wrap .i64 ((i' : Int) + 1)).toNat < ((lr : Int) - (i' : Int)).toNat; rw [ek]; omega, ⟨i' + 1, pw, lw, cw, ek, by omega, hb14, ?_, hpw, k11.trans (k1114.mono fun _ h => h.elim)⟩, rfl⟩
              rw [hnext]
              exact ow14
        · have hc : i' = lr := by
            have : ¬ (i' : Int) < (lr : Int) := by simpa using hc
            omega
          subst hc
          have hlw := ow11.length
          refine StV_of hb11 (by show 1 < 3; decide) rfl ?_
          have hb12 := hb11.upd_same (.cells (rowV pp i' cp pr i' cr pw lw cw) 312 (0, 0))
          have ku := Keep.one w11 w6.heap.size (.cells (rowV pp i' cp pr i' cr pw lw cw) 312 (0, 0))
          refine LdA_all hb12 rfl ?_
          have hz12 : Has (w11.upd w6.heap.size (.cells (rowV pp i' cp pr i' cr pw lw cw) 312 (0, 0))) w1.heap.size (.cells (rowV none 0 0 none 0 0 none 0 0) 312 (0, 0)) :=
            ku.has (k11.has ((k39.trans kr).has hz3 (by simp)) (by have := k03.size; have := k3.size; have := (((k4.trans k5).trans k6)).size; omega)) (by have := k3.size; have := (((k4.trans k5).trans k6)).size; omega)
          refine StA_all hz12 rfl rfl (one_rowV _ _ _ _ _ _ _ _ _) ?_
          have ku2 := Keep.one (w11.upd w6.heap.size (.cells (rowV pp i' cp pr i' cr pw lw cw) 312 (0, 0))) w1.heap.size (.cells (rowV pp i' cp pr i' cr pw lw cw) 312 (0, 0))
          refine LdA_all (hz12.upd_same _) rfl (Ret_nil.2 ?_)
          have fin : ∀ {α : Type} {L : Lay α} {base : Nat} {e : TypeId} {pz : Option Addr} {lz cz : Nat} {zs : List α}, OwnL L w11 base e pz lz cz zs → 312 ≠ e → OwnL L ((w11.upd w6.heap.size (.cells (rowV pp i' cp pr i' cr pw lw cw) 312 (0, 0))).upd w1.heap.size (.cells (rowV pp i' cp pr i' cr pw lw cw) 312 (0, 0))) base e pz lz cz zs := fun o he => by
            have o2 := o.keep ku fun k hk e => (OwnL.neH o hb11 he) (by rw [hk, e])
            exact o2.keep ku2 fun k hk e => (OwnL.neH o2 hz12 he) (by rw [hk, e])
          refine hK pp cp pr cr pw lw cw _ (fin o411 (by decide)) (fin or11 (by decide)) (fin ow11 (by decide)) ?_
          exact (k011.trans' ku fun i hi e => by omega).trans' ku2 fun i hi e => by omega
end calls
end Go.Proofs

/-
  A SCRUB: what it answers, plain; and the walks.
-/
namespace Go.Proofs
open Go Go.Ev
set_option linter.unusedSimpArgs false
set_option linter.unusedVariables false
set_option maxRecDepth 100000

structure Rep where
  rows : Int
  bad : Int
  fixed : Int
  lost : Int
def rep0 : Rep := ⟨0, 0, 0, 0⟩
def repV (x : Rep) : Array Value := #[.int .i64 x.rows, .int .i64 x.bad, .int .i64 x.fixed, .int .i64 x.lost]
def RepLe (x : Rep) (n : Int) : Prop := (0 ≤ x.rows ∧ x.rows ≤ n) ∧ (0 ≤ x.bad ∧ x.bad ≤ n) ∧ (0 ≤ x.fixed ∧ x.fixed ≤ n) ∧ (0 ≤ x.lost ∧ x.lost ≤ n)
theorem one_repV (x : Rep) : ∀ v ∈ (repV x).toList, oneV v = true := by
  intro v hv
  have hv : v ∈ [Value.int .i64 x.rows, .int .i64 x.bad, .int .i64 x.fixed, .int .i64 x.lost] := hv
  simp only [List.mem_cons, List.not_mem_nil, or_false] at hv
  rcases hv with rfl | rfl | rfl | rfl <;> rfl
theorem repV_zero : (zc Tryz.prog 123) = repV rep0 := by kernel_rfl
theorem rep_set0 (a b c d v : Int) : (repV ⟨a, b, c, d⟩).setIfInBounds 0 (.int .i64 v) = repV ⟨v, b, c, d⟩ := rfl
theorem rep_set1 (a b c d v : Int) : (repV ⟨a, b, c, d⟩).setIfInBounds 1 (.int .i64 v) = repV ⟨a, v, c, d⟩ := rfl
theorem rep_set2 (a b c d v : Int) : (repV ⟨a, b, c, d⟩).setIfInBounds 2 (.int .i64 v) = repV ⟨a, b, v, d⟩ := rfl
theorem rep_set3 (a b c d v : Int) : (repV ⟨a, b, c, d⟩).setIfInBounds 3 (.int .i64 v) = repV ⟨a, b, c, v⟩ := rfl
/-- the wrong columns of a row are written -/
def mendL (g : Geo) (ep st off : Int) (right : List Sec) : List Int → Int → SS → Int × Int × SS
  | [], x, s => (0, x, s)
  | k :: ks, x, s => if (applyS g s [putK g st off right k] ep).1 ≠ 0 then ((applyS g s [putK g st off right k] ep).1, x, (applyS g s [putK g st off right k] ep).2) else mendL g ep st off right ks (x + 1) (applyS g s [putK g st off right k] ep).2
theorem mendL_cons (g : Geo) (ep st off : Int) (right : List Sec) (k : Int) (ks : List Int) (x : Int) (s : SS) : mendL g ep st off right (k :: ks) x s = if (applyS g s [putK g st off right k] ep).1 ≠ 0 then ((applyS g s [putK g st off right k] ep).1, x, (applyS g s [putK g st off right k] ep).2) else mendL g ep st off right ks (x + 1) (applyS g s [putK g st off right k] ep).2 := rfl
noncomputable def wrongS (g : Geo) (s : SS) (st off : Int) : List Int := wrongL g s st off (goneL (colsS g s st off)) (rowR (colsS g s st off)) (rightS (rowR (colsS g s st off))) g.d.toNat
/-- the rows of a stripe, from one on -/
noncomputable def scrubL (g : Geo) (ep st : Int) : Nat → Int → Rep → SS → Int × Rep × SS
  | 0, _, x, s => (0, x, s)
  | n + 1, off, x, s =>
    if s.pw.on = false then (4, x, s)
    else if lostN (colsS g s st off) ≤ 2 then
      let m := mendL g ep st off (rightS (rowR (colsS g s st off))) (wrongS g s st off) x.fixed s
      let y : Rep := ⟨x.rows + 1, x.bad + (wrongS g s st off).length, m.2.1, x.lost⟩
      if m.1 ≠ 0 then (m.1, y, m.2.2) else scrubL g ep st n (off + 1) y m.2.2
    else scrubL g ep st n (off + 1) ⟨x.rows + 1, x.bad, x.fixed, x.lost + 1⟩ s
noncomputable def scrubS (g : Geo) (s : SS) (st ep : Int) : Int × Rep × SS := scrubL g ep st g.c.toNat 0 rep0 s
theorem mendL_len {g : Geo} {ep st off : Int} {right : List Sec} : ∀ {ks : List Int} {x : Int} {s : SS}, x ≤ (mendL g ep st off right ks x s).2.1 ∧ (mendL g ep st off right ks x s).2.1 ≤ x + ks.length
  | [], x, s => by show x ≤ x ∧ x ≤ x + ((0 : Nat) : Int); omega
  | k :: ks, x, s => by
    unfold mendL
    split
    · show x ≤ x ∧ x ≤ x + ((ks.length + 1 : Nat) : Int); omega
    · have := mendL_len (g := g) (ep := ep) (st := st) (off := off) (right := right) (ks := ks) (x := x + 1) (s := (applyS g s [putK g st off right k] ep).2)
      rw [List.length_cons]
      omega
theorem mem_wrongL {g : Geo} {s : SS} {st off : Int} {gone : List Int} {row right : List Sec} {n : Nat} {k : Int} (h : k ∈ wrongL g s st off gone row right n) : (0 ≤ k ∧ k < (n : Int)) ∧ wrongB g s st off gone row right k = true := by
  unfold wrongL at h
  obtain ⟨h1, h2⟩ := List.mem_filter.1 h
  obtain ⟨j, hj, rfl⟩ := List.mem_map.1 h1
  have := List.mem_range.1 hj
  exact ⟨by omega, h2⟩
section calls
variable {w : World} {q : SB} {s : SS} {R : Value → World → Prop}
/-- what a scrub may change -/
def ScFoot (q : SB) (bo : Nat) (k : Nat) : Prop := k = bo ∨ SFoot q k
theorem Scrub1_lost {bo bs be : Nat} {x : Rep} {rv : Array Value} (hb : Has w bo (.cells (repV x) 123 (0, 0))) {N : Int} (hx : RepLe x N) (hN : N ≤ 1000000)
    (hK : ∀ w', Has w' bo (.cells (repV ⟨x.rows + 1, x.bad, x.fixed, x.lost + 1⟩) 123 (0, 0)) → Keep (fun k => k = bo) w w' → R (.int .i64 0) w') :
    CallV Tryz.prog 210 #[.agg rv, .int .i64 8, .pointer (some ⟨bo, 0, none⟩), .pointer (some ⟨bs, 0, none⟩), .pointer (some ⟨be, 0, none⟩)] w R := by
  apply C_Scrub1
  unfold F_Scrub1
  obtain ⟨xr, xb, xf, xl⟩ := x
  obtain ⟨hx1, hx2, hx3, hx4⟩ := hx
  simp only at hx1 hx2 hx3 hx4 hK
  refine alc_fresh fun w1 hb1 k1 z1 => ?_
  refine (Cb_false (p := _)).2 ((Cb_true (q := _)).2 ?_)
  have hb2 := k1.has hb (by simp)
  refine LdV_has (v := .int .i64 xr) hb2 rfl (OpI_int.2 ?_)
  rw [wrapI (by omega) (by omega)]
  refine StV_of hb2 (by show 0 < 4; decide) rfl ?_
  rw [rep_set0]
  have hb3 := hb2.upd_same (.cells (repV ⟨xr + 1, xb, xf, xl⟩) 123 (0, 0))
  have k3 : Keep (fun k => k = bo) w _ := (k1.mono fun _ h => h.elim).trans (Keep.one w1 bo (.cells (repV ⟨xr + 1, xb, xf, xl⟩) 123 (0, 0)))
  refine LdV_has (v := .int .i64 xl) hb3 rfl (OpI_int.2 ?_)
  rw [wrapI (by omega) (by omega)]
  refine StV_of hb3 (by show 3 < 4; decide) rfl ?_
  rw [rep_set3]
  refine Ret_nil.2 (hK _ (hb3.upd_same _) (k3.trans (Keep.one _ _ _)))
theorem Scrub1_err {bo bs be : Nat} {e : Int} {rv : Array Value} (h0 : e ≠ 0) (h8 : e ≠ 8) (hK : ∀ w', Keep (fun _ => False) w w' → R (.int .i64 e) w') :
    CallV Tryz.prog 210 #[.agg rv, .int .i64 e, .pointer (some ⟨bo, 0, none⟩), .pointer (some ⟨bs, 0, none⟩), .pointer (some ⟨be, 0, none⟩)] w R := by
  apply C_Scrub1
  unfold F_Scrub1
  refine alc_fresh fun w1 hb1 k1 z1 => ?_
  rw [show (e == 0) = false by simpa using h0, show (e == 8) = false by simpa using h8]
  exact (Cb_false (p := _)).2 ((Cb_false (p := _)).2 (Ret_nil.2 (hK w1 k1)))
theorem Scrub1_ok (h : SetAt w q s) {p : Option Addr} {l c : Nat} (hsl : SlL dLay w p l (q.bks.map Prod.fst)) (hlc : l ≤ c) (hpf : ∀ b o, p = some ⟨b, o, none⟩ → ¬ SFoot q b) {bo bs be : Nat} (hpo : ∀ b o, p = some ⟨b, o, none⟩ → b ≠ bo) {x : Rep} {st off ep : Int} (hst : 0 ≤ st ∧ st < q.g.s) (hof : 0 ≤ off ∧ off < q.g.c)
    (hb : Has w bo (.cells (repV x) 123 (0, 0))) (hs : Has w bs (.cells (setV q.g p l c) 51 (0, 0))) (he : Has w be (.cells #[.int .u32 ep] 62 (0, 0))) {N : Int} (hx : RepLe x N) (hN : N ≤ 1000000)
    {base : Nat} {pp pc pw : Option Addr} {cp cc lw cw : Nat} {right : List Sec} {ws : List Int} (o1 : OwnL plLay w base 84 pp q.g.d.toNat cp (rowP q.g st off q.g.d.toNat)) (o2 : OwnL secLay w base 37 pc q.g.d.toNat cc right) (o3 : OwnL nLay w base 3 pw lw cw ws) (hws : ∀ k ∈ ws, 0 ≤ k ∧ k < q.g.d) (hwl : lw ≤ 32)
    (hK : ∀ w', SetAt w' q (mendL q.g ep st off right ws x.fixed s).2.2 → Has w' bo (.cells (repV ⟨x.rows + 1, x.bad + ws.length, (mendL q.g ep st off right ws x.fixed s).2.1, x.lost⟩) 123 (0, 0)) → Keep (ScFoot q bo) w w' → R (.int .i64 (mendL q.g ep st off right ws x.fixed s).1) w') :
    CallV Tryz.prog 210 #[.agg (rowV pp q.g.d.toNat cp pc q.g.d.toNat cc pw lw cw), .int .i64 0, .pointer (some ⟨bo, 0, none⟩), .pointer (some ⟨bs, 0, none⟩), .pointer (some ⟨be, 0, none⟩)] w R := by
  apply C_Scrub1
  unfold F_Scrub1
  obtain ⟨xr, xb, xf, xl⟩ := x
  obtain ⟨hx1, hx2, hx3, hx4⟩ := hx
  simp only at hx1 hx2 hx3 hx4 hK
  have hgd := h.geo.d
  have hlw := o3.length
  have hrl := o2.length
  refine alc_fresh fun w1 hb1 k1 z1 => ?_
  refine (Cb_true (q := _)).2 ?_
  have hb2 := k1.has hb (by simp)
  refine LdV_has (v := .int .i64 xr) hb2 rfl (OpI_int.2 ?_)
  rw [wrapI (by omega) (by omega)]
  refine StV_of hb2 (by show 0 < 4; decide) rfl ?_
  rw [rep_set0]
  have hb3 := hb2.upd_same (.cells (repV ⟨xr + 1, xb, xf, xl⟩) 123 (0, 0))
  have kk3 := Keep.one w1 bo (.cells (repV ⟨xr + 1, xb, xf, xl⟩) 123 (0, 0))
  have hbne : w.heap.size ≠ bo := by have := hb.lt; omega
  have hr3 := kk3.has hb1 hbne
  generalize w1.upd bo (.cells (repV ⟨xr + 1, xb, xf, xl⟩) 123 (0, 0)) = w2 at *
  refine LdV_has (v := .int .i64 xb) hb3 rfl (OpI_int.2 ?_)
  refine LdV_has (v := .slice pw lw cw) hr3 rfl (OpS_slice.2 ?_)
  rw [wrapI (by omega) (by omega)]
  refine StV_of hb3 (by show 1 < 4; decide) rfl ?_
  rw [rep_set1]
  have hb4 := hb3.upd_same (.cells (repV ⟨xr + 1, xb + (lw : Int), xf, xl⟩) 123 (0, 0))
  have kk4 := Keep.one w2 bo (.cells (repV ⟨xr + 1, xb + (lw : Int), xf, xl⟩) 123 (0, 0))
  have hr4 := kk4.has hr3 hbne
  have hb4' : Has (w2.upd bo (.cells (repV ⟨xr + 1, xb + (lw : Int), xf, xl⟩) 123 (0, 0))) bo (.cells (repV ⟨xr + 1, xb + (lw : Int), xf, xl⟩) 123 (0, 0)) := hb4
  have kw : Keep (fun k => k = bo) w (w2.upd bo (.cells (repV ⟨xr + 1, xb + (lw : Int), xf, xl⟩) 123 (0, 0))) := ((k1.mono fun _ h => h.elim).trans kk3).trans kk4
  generalize w2.upd bo (.cells (repV ⟨xr + 1, xb + (lw : Int), xf, xl⟩) 123 (0, 0)) = w4 at *
  refine LdV_has (v := .slice pw lw cw) hr4 rfl (OpS_slice.2 ?_)
  have hSo : ∀ i, SFoot q i → ¬ i = bo := fun i hi e => by rw [e] at hi; exact h.typ hb (by decide) (by decide) (by decide) hi
  have h4 := h.keep kw hSo
  have own4 : ∀ {α : Type} {L : Lay α} {base : Nat} {e : TypeId} {pz : Option Addr} {lz cz : Nat} {zs : List α}, OwnL L w base e pz lz cz zs → 123 ≠ e → OwnL L w4 base e pz lz cz zs := fun o he => o.keep kw fun k hk e => (OwnL.neH o hb he) (by rw [hk, e])
  have o14 := own4 o1 (by decide)
  have o24 := own4 o2 (by decide)
  have o34 := own4 o3 (by decide)
  have hs4 : Has w4 bs (.cells (setV q.g p l c) 51 (0, 0)) := kw.has hs (hs.ne hb (by simp only [ne_eq, Obj.cells.injEq]; intro e; exact absurd e.2.1 (by decide)))
  have he4 : Has w4 be (.cells #[.int .u32 ep] 62 (0, 0)) := kw.has he (he.ne hb (by simp only [ne_eq, Obj.cells.injEq]; intro e; exact absurd e.2.1 (by decide)))
  have hsl4 : SlL dLay w4 p l (q.bks.map Prod.fst) := hsl.keep kw fun b o hb e => hpo b o hb e
  have hmend : ∀ {ks : List Int} {x' : Int} {s' : SS}, ks ≠ [] → True := fun _ => trivial
  refine LoopC_of (σ := Int × Unit) (fun st' w' => ∃ (j : Nat) (s' : SS) (fx : Int), st'.1 = (j : Int) ∧ j ≤ lw ∧ fx = xf + j ∧ SetAt w' q s' ∧ Has w' bo (.cells (repV ⟨xr + 1, xb + (lw : Int), fx, xl⟩) 123 (0, 0)) ∧ mendL q.g ep st off right (ws.drop j) fx s' = mendL q.g ep st off right ws xf s ∧ Keep (ScFoot q bo) w4 w') (fun st' _ => (lw - st'.1).toNat)
    ⟨0, s, xf, rfl, by omega, by omega, h4, hb4', rfl, Keep.refl _ _⟩ ?_
  rintro _ ⟨j, u⟩ w5 ⟨j', s', fx, hj, hjl, hfx, h5, hb5, hm, k5⟩
  simp only at hj ⊢
  subst hj
  have own5 : ∀ {α : Type} {L : Lay α} {base : Nat} {e : TypeId} {pz : Option Addr} {lz cz : Nat} {zs : List α}, OwnL L w4 base e pz lz cz zs → 123 ≠ e → (e ≠ 209 ∧ e ≠ 220 ∧ e ≠ 260) → OwnL L w5 base e pz lz cz zs := fun o he ht => o.keep k5 fun k hk e => by
    rcases e with e | e
    · exact (OwnL.neH o hb4' he) (by rw [hk, e])
    · rcases Own.cases o with ⟨h0, _⟩ | ⟨b', cur, h0, _, hg', _⟩
      · rw [h0] at hk; cases hk
      · rw [h0] at hk; cases hk
        exact h4.typ hg' ht.1 ht.2.1 ht.2.2 e
  have o15 := own5 o14 (by decide) (by decide)
  have o25 := own5 o24 (by decide) (by decide)
  have o35 := own5 o34 (by decide) (by decide)
  have nF : ∀ {b : Nat} {cs : Array Value} {t : TypeId}, Has w4 b (.cells cs t (0, 0)) → t ≠ 123 → t ≠ 209 → t ≠ 220 → t ≠ 260 → Has w5 b (.cells cs t (0, 0)) := fun hz a1 a2 a3 a4 => k5.has hz fun e => by
    rcases e with e | e
    · exact (hz.ne hb4' (by simp only [ne_eq, Obj.cells.injEq]; intro e; exact absurd e.2.1 a1)) e
    · exact h4.typ hz a2 a3 a4 e
  have hs5 := nF hs4 (by decide) (by decide) (by decide) (by decide)
  have he5 := nF he4 (by decide) (by decide) (by decide) (by decide)
  have hr5 := nF hr4 (by decide) (by decide) (by decide) (by decide)
  have hsl5 : SlL dLay w5 p l (q.bks.map Prod.fst) := hsl4.keep k5 fun b o hb e => by
    rcases e with e | e
    · exact hpo b o hb e
    · exact hpf b o hb e
  refine Cb_of (fun hc => ?_) (fun hc => ?_)
  · have hc : j' < lw := by
      have : (j' : Int) < (lw : Int) := by simpa using hc
      omega
    have ek : IntKind.wrap .i64 ((j' : Int) + 1) = ((j' + 1 : Nat) : Int) := by rw [wrapI (by omega) (by omega)]; omega
    obtain ⟨k, hk⟩ : ∃ k, ws[j']? = some k := ⟨_, List.getElem?_eq_getElem (by omega)⟩
    have hkr := hws k (List.mem_of_getElem? hk)
    have hdrop : ws.drop j' = k :: ws.drop (j' + 1) := by
      rw [List.drop_eq_getElem_cons (by omega)]
      congr 1
      exact (List.getElem?_eq_some_iff.1 hk).2
    rw [hdrop] at hm
    refine o35.sl.ld0 (i := (j' : Int)) (n := 1) (x := k) (v := .int .i64 k) rfl (by omega) (by rw [Int.toNat_natCast]; exact hk) rfl (OpI_int.2 ?_)
    refine LdV_has (v := .slice pp q.g.d.toNat cp) hr5 rfl (OpS_slice.2 ?_)
    have hpl : (rowP q.g st off q.g.d.toNat)[k.toNat]? = some (plcP q.g st off k) := by
      unfold rowP
      rw [List.getElem?_map, List.getElem?_range (by omega)]
      show some (plcP q.g st off ((k.toNat : Nat) : Int)) = _
      rw [show ((k.toNat : Nat) : Int) = k by omega]
    refine o15.sl.ldA (i := k) (n := 2) (x := plcP q.g st off k) rfl hkr.1 hpl ?_
    refine copy_of (by rw [zc_plc]; rfl) rfl (fun v hv => plLay.one _ v (by simpa using hv)) fun w6 hb6 k6 z6 => ?_
    have hb6 : Has w6 w5.heap.size (.cells (plcV (plcP q.g st off k)) 84 (0, 0)) := hb6
    obtain ⟨f, hf⟩ : ∃ f, right[k.toNat]? = some f := ⟨_, List.getElem?_eq_getElem (by omega)⟩
    have hput : putK q.g st off right k = ⟨plcP q.g st off k, ⟨f, sumS (plcP q.g st off k).at_ f⟩⟩ := by unfold putK; rw [List.getD_eq_getElem?_getD, hf]; rfl
    obtain ⟨pk1, pk2⟩ := plcP_ok h.geo hst hof k
    intro d
    have k56 := k6.trans (Keep.drew (fun _ => False) w6 d)
    have hb6d := hb6.dr d
    have z6d : (w6.dr d).heap.size = w5.heap.size + 1 := by rw [heap_dr']; exact z6
    generalize w6.dr d = w7 at *
    have hS7 : ∀ {w' : World} {T : Nat → Prop}, Keep T w7 w' → ¬ T bs → ¬ T be → ¬ T w.heap.size → ¬ T w5.heap.size → (∀ b, pc = some ⟨b, 0, none⟩ → ¬ T b) → Has w' bs (.cells (setV q.g p l c) 51 (0, 0)) ∧ Has w' be (.cells #[.int .u32 ep] 62 (0, 0)) ∧ Has w' w.heap.size (.cells (rowV pp q.g.d.toNat cp pc q.g.d.toNat cc pw lw cw) 312 (0, 0)) ∧ Has w' w5.heap.size (.cells (plcV (plcP q.g st off k)) 84 (0, 0)) ∧ SlL secLay w' pc q.g.d.toNat right :=
      fun k t1 t2 t3 t4 t5 => ⟨k.has (k56.has hs5 (by simp)) t1, k.has (k56.has he5 (by simp)) t2, k.has (k56.has hr5 (by simp)) t3, k.has hb6d t4, ((o25.keep k56 (by simp)).keep k t5).sl⟩
    have h07 := hS7 (Keep.refl (fun _ => False) w7) (by simp) (by simp) (by simp) (by simp) (by simp)
    generalize hpc : plcP q.g st off k = pl at *
    refine ⟨fun w' => Has w' bs (.cells (setV q.g p l c) 51 (0, 0)) ∧ Has w' be (.cells #[.int .u32 ep] 62 (0, 0)) ∧ Has w' w.heap.size (.cells (rowV pp q.g.d.toNat cp pc q.g.d.toNat cc pw lw cw) 312 (0, 0)) ∧ Has w' w5.heap.size (.cells (plcV pl) 84 (0, 0)) ∧ SlL secLay w' pc q.g.d.toNat right, h07, ?_⟩
    refine LdA_of (cs := setV q.g p l c) rfl (fun w' hw => ⟨_, _, _, hw.1, Nat.le_refl 4, rfl⟩) ?_
    refine LdA_of (cs := plcV pl) rfl (fun w' hw => ⟨_, _, _, hw.2.2.2.1, Nat.le_refl 2, rfl⟩) ?_
    refine LdV_of (v := .int .i64 pl.at_) (fun w' hw => ⟨_, _, _, hw.2.2.2.1, rfl⟩) (OpI_int.2 ?_)
    refine LdV_of (v := .slice pc q.g.d.toNat cc) (fun w' hw => ⟨_, _, _, hw.2.2.1, rfl⟩) (OpS_slice.2 ?_)
    refine SlL.ldAS (S := fun w' => Has w' bs (.cells (setV q.g p l c) 51 (0, 0)) ∧ Has w' be (.cells #[.int .u32 ep] 62 (0, 0)) ∧ Has w' w.heap.size (.cells (rowV pp q.g.d.toNat cp pc q.g.d.toNat cc pw lw cw) 312 (0, 0)) ∧ Has w' w5.heap.size (.cells (plcV pl) 84 (0, 0)) ∧ SlL secLay w' pc q.g.d.toNat right) (w0 := w7) h07 (fun w' hw => hw.2.2.2.2) (i := k) (x := f) (n := 16) rfl hkr.1 hf ?_
    have e16 : (secLay.row f).toArray = secV f := by show ((secV f).toList).toArray = secV f; simp
    rw [e16]
    refine LdV_of (v := .int .u32 ep) (fun w' hw => ⟨_, _, _, hw.2.1, rfl⟩) (OpI_int.2 ?_)
    refine s_Seal fun w8 k8 => OpA_agg.2 ⟨rfl, ⟨hS7 k8 (by simp) (by simp) (by simp) (by simp) (by simp), ?_⟩⟩
    refine ⟨.agg (putSV ⟨pl, ⟨f, sumS pl.at_ f⟩⟩), fun w' _ => bld_put ⟨pl, ⟨f, sumS pl.at_ f⟩⟩ w', OpA_agg.2 ⟨rfl, ?_⟩⟩
    refine ⟨_, _, bsl_pu1 _ w8, OpS_slice.2 ?_⟩
    have k9 := Keep.new (fun _ => False) w8 (.cells (putSV ⟨pl, ⟨f, sumS pl.at_ f⟩⟩) 88)
    have hb9 := Has.new w8 (.cells (putSV ⟨pl, ⟨f, sumS pl.at_ f⟩⟩) 88)
    have o9 : OwnL puLay (w8.alloc (.cells (putSV ⟨pl, ⟨f, sumS pl.at_ f⟩⟩) 88)) w8.heap.size 88 (some ⟨w8.heap.size, 0, none⟩) 1 1 [⟨pl, ⟨f, sumS pl.at_ f⟩⟩] := OwnL.new (L := puLay) (xs := [⟨pl, ⟨f, sumS pl.at_ f⟩⟩]) (by simp [maxLen]) (by rw [puLay.rows_one']; rfl)
    generalize w8.alloc (.cells (putSV ⟨pl, ⟨f, sumS pl.at_ f⟩⟩) 88) = w9 at *
    have k79 := k8.trans k9
    have k59 := k56.trans k79
    have h9 := h5.keep0 k59
    refine ⟨hS7 k79 (by simp) (by simp) (by simp) (by simp) (by simp), ?_⟩
    rw [← hput] at o9
    refine st_Apply h9 (hsl5.keepB k59 (by simp)) hlc hpf o9.sl (by omega) (fun b o hb hi => by cases hb; exact h9.typ hb9 (by decide) (by decide) (by decide) hi) fun w10 hS10 k10 => ?_
    have fT : ∀ {b : Nat} {cs : Array Value} {t : TypeId}, Has w9 b (.cells cs t (0, 0)) → t ≠ 209 → t ≠ 220 → t ≠ 260 → ¬ SFoot q b := fun hz a2 a3 a4 => h9.typ hz a2 a3 a4
    have hS9 := hS7 k79 (by simp) (by simp) (by simp) (by simp) (by simp)
    have o29 := (o25.keep k59 (by simp))
    refine OpI_int.2 ⟨⟨k10.has hS9.1 (fT hS9.1 (by decide) (by decide) (by decide)), k10.has hS9.2.1 (fT hS9.2.1 (by decide) (by decide) (by decide)), k10.has hS9.2.2.1 (fT hS9.2.2.1 (by decide) (by decide) (by decide)), k10.has hS9.2.2.2.1 (fT hS9.2.2.2.1 (by decide) (by decide) (by decide)), (o29.keep k10 fun b hb hi => ?_).sl⟩, ?_⟩
    · rcases Own.cases o29 with ⟨h0, _⟩ | ⟨b', cur, h0, _, hg', _⟩
      · rw [h0] at hb; cases hb
      · rw [h0] at hb; cases hb
        exact h9.typ hg' (by decide) (by decide) (by decide) hi
    · have k410 : Keep (ScFoot q bo) w4 w10 := (k5.trans (k59.mono fun _ h => h.elim)).trans (k10.mono fun k hk => Or.inr hk)
      have hb9o := k59.has hb5 (by simp)
      have hb10 := k10.has hb9o (fT hb9o (by decide) (by decide) (by decide))
      rw [mendL_cons] at hm
      refine Cb_of (fun e => ?_) (fun e => ?_)
      · have e : (applyS q.g s' [putK q.g st off right k] ep).1 ≠ 0 := by simpa using e
        rw [if_pos e] at hm
        rw [← hm] at hK
        refine Ret_nil.2 (hK w10 hS10 ?_ ((kw.mono fun k hk => Or.inl hk).trans k410))
        rw [← hlw]
        exact hb10
      · have e : (applyS q.g s' [putK q.g st off right k] ep).1 = 0 := by simpa using e
        rw [if_neg (fun h => h e)] at hm
        refine LdV_has (v := .int .i64 fx) hb10 rfl (OpI_int.2 ?_)
        rw [wrapI (by omega) (by omega)]
        refine StV_of hb10 (by show 2 < 4; decide) rfl ?_
        rw [rep_set2]
        have ku := Keep.one w10 bo (.cells (repV ⟨xr + 1, xb + (lw : Int), fx + 1, xl⟩) 123 (0, 0))
        refine ⟨_, by show ((lw : Int) - IntKind.wrap .i64 ((j' : Int) + 1)).toNat < ((lw : Int) - (j' : Int)).toNat; rw [ek]; omega, ⟨j' + 1, _, fx + 1, ek, by omega, by omega, hS10.keep ku ?_, hb10.upd_same _, hm, k410.trans (ku.mono fun k hk => Or.inl hk)⟩, rfl⟩
        exact fun i hi e => hSo i hi e
  · have hc : j' = lw := by
      have : ¬ (j' : Int) < (lw : Int) := by simpa using hc
      omega
    subst hc
    rw [List.drop_of_length_le (by omega)] at hm
    have hm : (0, fx, s') = mendL q.g ep st off right ws xf s := hm
    rw [← hm] at hK
    refine Ret_nil.2 (hK w5 h5 ?_ ((kw.mono fun k hk => Or.inl hk).trans k5))
    rw [← hlw]
    exact hb5
end calls
end Go.Proofs

/-
  A SCRUB: the rows of a stripe, and the whole.
-/
namespace Go.Proofs
open Go Go.Ev
set_option linter.unusedSimpArgs false
set_option linter.unusedVariables false
set_option maxRecDepth 100000

theorem writeD_ok {pw : Pow} {D : Dsk} (h : DskOk D) {at_ : Int} {c : Cel} (hc : CelOk c) {ep : Int} : DskOk (writeD pw D at_ c ep).2.2 := by
  unfold writeD
  split
  · exact h
  · split
    · exact h
    · split
      · exact h
      · split
        · exact h
        · refine ⟨fun y hy => ?_, h.2⟩
          rcases List.mem_or_eq_of_mem_set hy with hy | rfl
          · exact h.1 y hy
          · exact hc
theorem getD_dok {l : List Dsk} (h : ∀ D ∈ l, DskOk D) (i : Nat) : DskOk (l.getD i dsk0) := by
  rw [List.getD_eq_getElem?_getD]
  cases hx : l[i]? with
  | none => exact dsk0_ok
  | some D => exact h D (List.mem_of_getElem? hx)
theorem apply1_dok {s : SS} (h : ∀ D ∈ s.ds, DskOk D) {x : PutS} (hc : CelOk x.cel) (ep : Int) : ∀ D ∈ (apply1 s x ep).2.ds, DskOk D := by
  intro D hD
  have hD : D ∈ s.ds.set x.plc.dk.toNat (writeD s.pw (s.ds.getD x.plc.dk.toNat dsk0) x.plc.at_ x.cel ep).2.2 := hD
  rcases List.mem_or_eq_of_mem_set hD with hD | rfl
  · exact h D hD
  · exact writeD_ok (getD_dok h _) hc
theorem applyL_dok {ep : Int} : ∀ {xs : List PutS} {s : SS}, (∀ D ∈ s.ds, DskOk D) → (∀ x ∈ xs, CelOk x.cel) → ∀ D ∈ (applyL ep xs s).2.ds, DskOk D
  | [], s, h, _ => h
  | x :: xs, s, h, hx => by
    show ∀ D ∈ (if _ ∧ _ then _ else _ : Int × SS).2.ds, DskOk D
    split
    · exact apply1_dok h (hx x (by simp)) ep
    · exact applyL_dok (apply1_dok h (hx x (by simp)) ep) fun y hy => hx y (by simp [hy])
theorem applyS_dok {g : Geo} {ep : Int} {xs : List PutS} {s : SS} (h : ∀ D ∈ s.ds, DskOk D) (hx : ∀ x ∈ xs, CelOk x.cel) : ∀ D ∈ (applyS g s xs ep).2.ds, DskOk D := by
  unfold applyS
  split
  · exact applyL_dok h hx
  · exact h
theorem putK_cok {g : Geo} {st off : Int} {row : List Sec} (h : ∀ f ∈ row, SecOk f) (k : Int) : CelOk (putK g st off row k).cel := by
  refine ⟨?_, (sumS_ok _ _).1, (sumS_ok _ _).2⟩
  show SecOk (row.getD k.toNat (sec []))
  rw [List.getD_eq_getElem?_getD]
  cases hx : row[k.toNat]? with
  | none => exact sec0_ok
  | some f => exact h f (List.mem_of_getElem? hx)
theorem mendL_dok {g : Geo} {ep st off : Int} {right : List Sec} (hr : ∀ f ∈ right, SecOk f) : ∀ {ks : List Int} {x : Int} {s : SS}, (∀ D ∈ s.ds, DskOk D) → ∀ D ∈ (mendL g ep st off right ks x s).2.2.ds, DskOk D
  | [], x, s, h => h
  | k :: ks, x, s, h => by
    have h1 := applyS_dok (g := g) (ep := ep) (xs := [putK g st off right k]) h fun y hy => by rw [List.mem_singleton.1 hy]; exact putK_cok hr k
    rw [mendL_cons]
    split
    · exact h1
    · exact mendL_dok hr h1
theorem scrubL_succ (g : Geo) (ep st : Int) (n : Nat) (off : Int) (x : Rep) (s : SS) : scrubL g ep st (n + 1) off x s = if s.pw.on = false then (4, x, s)
    else if lostN (colsS g s st off) ≤ 2 then
      if (mendL g ep st off (rightS (rowR (colsS g s st off))) (wrongS g s st off) x.fixed s).1 ≠ 0 then ((mendL g ep st off (rightS (rowR (colsS g s st off))) (wrongS g s st off) x.fixed s).1, ⟨x.rows + 1, x.bad + (wrongS g s st off).length, (mendL g ep st off (rightS (rowR (colsS g s st off))) (wrongS g s st off) x.fixed s).2.1, x.lost⟩, (mendL g ep st off (rightS (rowR (colsS g s st off))) (wrongS g s st off) x.fixed s).2.2)
      else scrubL g ep st n (off + 1) ⟨x.rows + 1, x.bad + (wrongS g s st off).length, (mendL g ep st off (rightS (rowR (colsS g s st off))) (wrongS g s st off) x.fixed s).2.1, x.lost⟩ (mendL g ep st off (rightS (rowR (colsS g s st off))) (wrongS g s st off) x.fixed s).2.2
    else scrubL g ep st n (off + 1) ⟨x.rows + 1, x.bad, x.fixed, x.lost + 1⟩ s := rfl
section calls
variable {w : World} {q : SB} {s : SS} {R : Value → World → Prop}
theorem sc_rows (h : SetAt w q s) {p : Option Addr} {l c : Nat} (hsl : SlL dLay w p l (q.bks.map Prod.fst)) (hlc : l ≤ c) (hpf : ∀ b o, p = some ⟨b, o, none⟩ → ¬ SFoot q b) {bo bs be : Nat} (hpo : ∀ b o, p = some ⟨b, o, none⟩ → b ≠ bo) (hok : ∀ D ∈ s.ds, DskOk D) {st ep : Int} (hst : 0 ≤ st ∧ st < q.g.s)
    (hb : Has w bo (.cells (repV rep0) 123 (0, 0))) (hs : Has w bs (.cells (setV q.g p l c) 51 (0, 0))) (he : Has w be (.cells #[.int .u32 ep] 62 (0, 0)))
    (hK : ∀ w', SetAt w' q (scrubS q.g s st ep).2.2 → Has w' bo (.cells (repV (scrubS q.g s st ep).2.1) 123 (0, 0)) → Keep (ScFoot q bo) w w' → R (.int .i64 (scrubS q.g s st ep).1) w') :
    CallV Tryz.prog 209 #[.agg (setV q.g p l c), .int .i64 st, .func (.func 210) #[] #[.pointer (some ⟨bo, 0, none⟩), .pointer (some ⟨bs, 0, none⟩), .pointer (some ⟨be, 0, none⟩)]] w R := by
  apply C_RowsScrub
  unfold F_RowsScrub
  have hgd := h.geo.d
  have hgc := h.geo.c
  refine alc_fresh fun w1 hb1 k1 z1 => ?_
  refine LdV_has (v := .int .i64 q.g.c) hb1 rfl (OpI_int.2 ?_)
  have hbo1 := k1.has hb (by simp)
  have h1 := h.keep0 k1
  have hs1 := k1.has hs (by simp)
  have he1 := k1.has he (by simp)
  have hsl1 : SlL dLay w1 p l (q.bks.map Prod.fst) := hsl.keepB k1 (by simp)
  have hrep0 : RepLe rep0 (32 * ((0 : Nat) : Int)) := by
    refine ⟨?_, ?_, ?_, ?_⟩ <;> (show (0 : Int) ≤ 0 ∧ (0 : Int) ≤ 32 * ((0 : Nat) : Int); omega)
  refine LoopC_of (σ := Int × Unit) (fun st' w' => ∃ (i : Nat) (x : Rep) (s' : SS), st'.1 = (i : Int) ∧ i ≤ q.g.c.toNat ∧ RepLe x (32 * (i : Int)) ∧ (∀ D ∈ s'.ds, DskOk D) ∧ SetAt w' q s' ∧ Has w' bo (.cells (repV x) 123 (0, 0)) ∧ scrubL q.g ep st (q.g.c.toNat - i) (i : Int) x s' = scrubS q.g s st ep ∧ Keep (ScFoot q bo) w1 w') (fun st' _ => (q.g.c - st'.1).toNat)
    ⟨0, rep0, s, rfl, by omega, hrep0, hok, h1, hbo1, rfl, Keep.refl _ _⟩ ?_
  rintro _ ⟨i, u⟩ w2 ⟨i', x, s', hi, hil, hx, hok', h2, hbo2, hm, k2⟩
  simp only at hi ⊢
  subst hi
  have nF : ∀ {b : Nat} {cs : Array Value} {t : TypeId}, Has w1 b (.cells cs t (0, 0)) → t ≠ 123 → t ≠ 209 → t ≠ 220 → t ≠ 260 → Has w2 b (.cells cs t (0, 0)) := fun hz a1 a2 a3 a4 => k2.has hz fun e => by
    rcases e with e | e
    · exact (hz.ne hbo1 (by simp only [ne_eq, Obj.cells.injEq]; intro e; exact absurd e.2.1 a1)) e
    · exact h1.typ hz a2 a3 a4 e
  have hs2 := nF hs1 (by decide) (by decide) (by decide) (by decide)
  have he2 := nF he1 (by decide) (by decide) (by decide) (by decide)
  have hb2 := nF hb1 (by decide) (by decide) (by decide) (by decide)
  have hsl2 : SlL dLay w2 p l (q.bks.map Prod.fst) := hsl1.keep k2 fun b o hb e => by
    rcases e with e | e
    · exact hpo b o hb e
    · exact hpf b o hb e
  have kw : Keep (ScFoot q bo) w w2 := (k1.mono fun _ h => h.elim).trans k2
  refine Cb_of (fun hc => ?_) (fun hc => ?_)
  · have hc : (i' : Int) < q.g.c := by simpa using hc
    have ek : IntKind.wrap .i64 ((i' : Int) + 1) = ((i' + 1 : Nat) : Int) := by rw [wrapI (by omega) (by omega)]; omega
    have hn : q.g.c.toNat - i' = (q.g.c.toNat - (i' + 1)) + 1 := by omega
    rw [hn, scrubL_succ] at hm
    have hof : 0 ≤ (i' : Int) ∧ (i' : Int) < q.g.c := by omega
    refine LdA_all hb2 rfl ?_
    have keepx : ∀ {w' : World}, Keep (fun _ => False) w2 w' → Keep (ScFoot q bo) w w' := fun k => kw.trans (k.mono fun _ h => h.elim)
    refine sc_look h2 hsl2 hlc hok' hst hof (fun hp w3 k3 => ?_) (fun hp hl w3 k3 => ?_) fun hp hl pp cp pc cc pw lw cw w3 o1 o2 o3 k3 => ?_
    · refine T2_mk.2 (OpA_agg.2 ⟨rfl, OpI_int.2 ?_⟩)
      refine Scrub1_err (by decide) (by decide) fun w4 k4 => OpI_int.2 ((Cb_true (q := _)).2 (Ret_nil.2 ?_))
      rw [if_pos hp] at hm
      rw [← hm] at hK
      have k24 := k3.trans k4
      exact hK w4 (h2.keep0 k24) (k24.has hbo2 (by simp)) (keepx k24)
    · refine T2_mk.2 (OpA_agg.2 ⟨rfl, OpI_int.2 ?_⟩)
      rw [if_neg (by rw [hp]; decide), if_neg hl] at hm
      have hbo3 := k3.has hbo2 (by simp)
      have h3 := h2.keep0 k3
      refine Scrub1_lost hbo3 (N := 32 * (i' : Int)) hx (by omega) fun w4 hb4 k4 => OpI_int.2 ((Cb_false (p := _)).2 ?_)
      refine ⟨_, by show (q.g.c - IntKind.wrap .i64 ((i' : Int) + 1)).toNat < (q.g.c - (i' : Int)).toNat; rw [ek]; omega, ⟨i' + 1, _, s', ek, by omega, ?_, hok', h3.keep k4 (fun i hi e => ?_), hb4, hm, ?_⟩, rfl⟩
      · obtain ⟨a1, a2, a3, a4⟩ := hx
        refine ⟨?_, ?_, ?_, ?_⟩ <;> simp only <;> omega
      · rw [e] at hi; exact h3.typ hbo3 (by decide) (by decide) (by decide) hi
      · exact (k2.trans (k3.mono fun _ h => h.elim)).trans (k4.mono fun k hk => Or.inl hk)
    · refine T2_mk.2 (OpA_agg.2 ⟨rfl, OpI_int.2 ?_⟩)
      rw [if_neg (by rw [hp]; decide), if_pos hl] at hm
      have hlw := o3.length
      have hwl : lw ≤ 32 := by
        rw [hlw]
        exact Nat.le_trans (wrongL_len _ _ _ _ _ _ _ _) (by omega)
      have hrok := rightS_ok (rowR_ok (colsS_ok (g := q.g) (st := st) (off := (i' : Int)) hok'))
      have hbo3 := k3.has hbo2 (by simp)
      have h3 := h2.keep0 k3
      refine Scrub1_ok h3 (hsl2.keepB k3 (by simp)) hlc hpf hpo hst hof hbo3 (k3.has hs2 (by simp)) (k3.has he2 (by simp)) (N := 32 * (i' : Int)) hx (by omega) o1 o2 o3 (fun k hk => by have := (mem_wrongL hk).1; omega) hwl fun w4 hS4 hb4 k4 => OpI_int.2 ?_
      have hlen := mendL_len (g := q.g) (ep := ep) (st := st) (off := (i' : Int)) (right := rightS (rowR (colsS q.g s' st (i' : Int)))) (ks := wrongS q.g s' st (i' : Int)) (x := x.fixed) (s := s')
      have hok4 := mendL_dok (g := q.g) (ep := ep) (st := st) (off := (i' : Int)) hrok (ks := wrongS q.g s' st (i' : Int)) (x := x.fixed) hok'
      have hS4 : SetAt w4 q (mendL q.g ep st (i' : Int) (rightS (rowR (colsS q.g s' st (i' : Int)))) (wrongS q.g s' st (i' : Int)) x.fixed s').2.2 := hS4
      have hb4 : Has w4 bo (.cells (repV ⟨x.rows + 1, x.bad + (wrongS q.g s' st (i' : Int)).length, (mendL q.g ep st (i' : Int) (rightS (rowR (colsS q.g s' st (i' : Int)))) (wrongS q.g s' st (i' : Int)) x.fixed s').2.1, x.lost⟩) 123 (0, 0)) := hb4
      have hwl' : (wrongS q.g s' st (i' : Int)).length ≤ 32 := Nat.le_trans (wrongL_len _ _ _ _ _ _ _ _) (by omega)
      show Cb ((mendL q.g ep st (i' : Int) (rightS (rowR (colsS q.g s' st (i' : Int)))) (wrongS q.g s' st (i' : Int)) x.fixed s').1 != 0) (Ret [] (R (.int .i64 (mendL q.g ep st (i' : Int) (rightS (rowR (colsS q.g s' st (i' : Int)))) (wrongS q.g s' st (i' : Int)) x.fixed s').1) w4)) _
      generalize mendL q.g ep st (i' : Int) (rightS (rowR (colsS q.g s' st (i' : Int)))) (wrongS q.g s' st (i' : Int)) x.fixed s' = M at *
      have k04 : Keep (ScFoot q bo) w w4 := (keepx k3).trans k4
      refine Cb_of (fun e => ?_) (fun e => ?_)
      · have e : M.1 ≠ 0 := by simpa using e
        rw [if_pos e] at hm
        rw [← hm] at hK
        exact Ret_nil.2 (hK w4 hS4 hb4 k04)
      · have e : M.1 = 0 := by simpa using e
        rw [if_neg (fun h => h e)] at hm
        refine ⟨_, by show (q.g.c - IntKind.wrap .i64 ((i' : Int) + 1)).toNat < (q.g.c - (i' : Int)).toNat; rw [ek]; omega, ⟨i' + 1, _, M.2.2, ek, by omega, ?_, hok4, hS4, hb4, hm, ?_⟩, rfl⟩
        · obtain ⟨a1, a2, a3, a4⟩ := hx
          refine ⟨?_, ?_, ?_, ?_⟩ <;> simp only <;> omega
        · exact (k2.trans (k3.mono fun _ h => h.elim)).trans k4
  · have hc : q.g.c.toNat - i' = 0 := by
      have : ¬ (i' : Int) < q.g.c := by simpa using hc
      omega
    rw [hc] at hm
    have hm : (0, x, s') = scrubS q.g s st ep := hm
    rw [← hm] at hK
    exact Ret_nil.2 (hK w2 h2 hbo2 kw)
theorem sc_Scrub (h : SetAt w q s) {p : Option Addr} {l c : Nat} (hsl : SlL dLay w p l (q.bks.map Prod.fst)) (hlc : l ≤ c) (hpf : ∀ b o, p = some ⟨b, o, none⟩ → ¬ SFoot q b) (hok : ∀ D ∈ s.ds, DskOk D) {st ep : Int}
    (hBad : ¬ (0 ≤ st ∧ st < q.g.s) → ∀ w', Keep (fun _ => False) w w' → R (.tuple #[.agg (repV rep0), .int .i64 2]) w')
    (hK : (0 ≤ st ∧ st < q.g.s) → ∀ w', SetAt w' q (scrubS q.g s st ep).2.2 → Keep (SFoot q) w w' → R (.tuple #[.agg (repV (if (scrubS q.g s st ep).1 = 0 then (scrubS q.g s st ep).2.1 else rep0)), .int .i64 (scrubS q.g s st ep).1]) w') :
    CallV Tryz.prog 138 #[.agg (setV q.g p l c), .int .i64 st, .int .u32 ep] w R := by
  apply C_scrub_Scrub
  unfold F_scrub_Scrub
  refine alc_fresh fun w1 hb1 k1 z1 => ?_
  refine alc_fresh fun w2 hb2 k2 z2 => ?_
  refine alc_fresh fun w3 hb3 k3 z3 => ?_
  rw [repV_zero] at hb3
  have hb13 := (k2.trans k3).has hb1 (by simp)
  have hb23 := k3.has hb2 (by simp)
  have k03 := (k1.trans k2).trans k3
  refine LdA_all hb13 rfl ?_
  refine st_Check (h.keep0 k03) (hsl.keepB k03 (by simp)) hlc fun w4 k4 => ?_
  refine OpI_int.2 ((Cb_false (p := _)).2 ?_)
  have k04 := k03.trans k4
  have hb14 := k4.has hb13 (by simp)
  have hb24 := k4.has hb23 (by simp)
  have hb34 := k4.has hb3 (by simp)
  have bad : ∀ (e : Int) (w5 : World) (T : Nat → Prop), Has w5 w2.heap.size (.cells (repV rep0) 123 (0, 0)) → (Keep (fun k => k = w2.heap.size) w5 (w5.upd w2.heap.size (.cells (repV rep0) 123 (0, 0))) → R (.tuple #[.agg (repV rep0), .int .i64 e]) (w5.upd w2.heap.size (.cells (repV rep0) 123 (0, 0)))) →
      DoQ Tryz.prog (Instr.build 123 #[]) (At w5) fun v1 => OpA 4 v1 fun cs1 => StA 4 w2.heap.size 0 cs1 w5 fun w => LdA 4 w2.heap.size 0 (At w) fun cs2 => Ret [] (R (.tuple #[.agg cs2, .int .i64 e]) w) := by
    intro e w5 T hb5 hR
    refine DoQ_of (v := .agg (repV rep0)) (fun _ => run_build _ _ _ _ (by kernel_rfl)) (OpA_agg.2 ⟨rfl, ?_⟩)
    refine StA_all hb5 rfl rfl (one_repV _) ?_
    exact LdA_all (hb5.upd_same _) rfl (Ret_nil.2 (hR (Keep.one _ _ _)))
  refine Cb_of (fun hc => ?_) (fun hc => ?_)
  · have hc : st < 0 := by simpa using hc
    refine bad 2 w4 (fun _ => False) hb34 fun ku => hBad (by omega) _ (k04.trans' ku fun i hi e => by omega)
  · have hc : ¬ st < 0 := by simpa using hc
    refine LdV_has (v := .int .i64 q.g.s) hb14 rfl (OpI_int.2 ?_)
    refine Cb_of (fun hc2 => ?_) (fun hc2 => ?_)
    · have hc2 : st ≥ q.g.s := by simpa using hc2
      exact bad 2 w4 (fun _ => False) hb34 fun ku => hBad (by omega) _ (k04.trans' ku fun i hi e => by omega)
    · have hc2 : ¬ st ≥ q.g.s := by simpa using hc2
      have hst : 0 ≤ st ∧ st < q.g.s := by omega
      refine alc_fresh fun w5 hb5 k5 z5 => ?_
      rw [repV_zero] at hb5
      have k05 := k04.trans k5
      refine LdA_all (k5.has hb14 (by simp)) rfl ?_
      have h5 := h.keep0 k05
      have z45 := k04.size
      have z34 := k4.size
      refine sc_rows h5 (hsl.keepB k05 (by simp)) hlc hpf (bo := w4.heap.size) (fun b o hb e => ?_) hok hst hb5 (k5.has hb14 (by simp)) (k5.has hb24 (by simp)) fun w6 hS6 hb6 k6 => OpI_int.2 ?_
      · subst hb
        have := SlL.blk_lt hsl (by have h1 := hsl.1; rw [List.length_map, h.len] at h1; have := h.num; have := h.geo.d; omega)
        omega
      have hK := hK hst
      generalize scrubS q.g s st ep = M at *
      have hb36 : Has w6 w2.heap.size (.cells (repV rep0) 123 (0, 0)) := k6.has (k5.has hb34 (by simp)) fun e => by
        rcases e with e | e
        · omega
        · exact h5.typ (k5.has hb34 (by simp)) (by decide) (by decide) (by decide) e
      have fin : ∀ (y : Rep), Keep (fun k => k = w2.heap.size) w6 (w6.upd w2.heap.size (.cells (repV y) 123 (0, 0))) → SetAt (w6.upd w2.heap.size (.cells (repV y) 123 (0, 0))) q M.2.2 ∧ Keep (SFoot q) w (w6.upd w2.heap.size (.cells (repV y) 123 (0, 0))) := fun y ku =>
        ⟨hS6.keep ku fun i hi e => by rw [e] at hi; exact hS6.typ hb36 (by decide) (by decide) (by decide) hi, ((k05.mono fun _ h => h.elim).trans' k6 fun i hi e => by
          rcases e with e | e
          · omega
          · exact e).trans' ku fun i hi e => by omega⟩
      refine Cb_of (fun e => ?_) (fun e => ?_)
      · have e : M.1 ≠ 0 := by simpa using e
        rw [if_neg e] at hK
        exact bad M.1 w6 (fun _ => False) hb36 fun ku => hK _ (fin rep0 ku).1 (fin rep0 ku).2
      · have e : M.1 = 0 := by simpa using e
        rw [if_pos e] at hK
        refine LdA_all hb6 rfl ?_
        refine StA_all hb36 rfl rfl (one_repV _) ?_
        refine LdA_all (hb36.upd_same _) rfl (Ret_nil.2 ?_)
        rw [e] at hK
        exact hK _ (fin M.2.1 (Keep.one _ _ _)).1 (fin M.2.1 (Keep.one _ _ _)).2
end calls
end Go.Proofs

/-
  IS A SET SOUND: what scrub.Sound answers; the walks.
-/
namespace Go.Proofs
open Go Go.Ev
set_option linter.unusedSimpArgs false
set_option linter.unusedVariables false
set_option maxRecDepth 100000

section calls
variable {w : World} {q : SB} {s : SS} {R : Value → World → Prop}
end calls
end Go.Proofs

/-
  A DISK IS REBUILT: what scrub.Rebuild answers; the walks.
-/
namespace Go.Proofs
open Go Go.Ev
set_option linter.unusedSimpArgs false
set_option linter.unusedVariables false
set_option maxRecDepth 100000

/-- the column that a disk has in a stripe -/
def colP (g : Geo) (i st : Int) : Int := (i - firstP g st) % g.d
theorem colP_ok {g : Geo} (hg : GeoOk g) {i : Int} (hi : 0 ≤ i ∧ i < g.d) (st off : Int) : (0 ≤ colP g i st ∧ colP g i st < g.d) ∧ (plcP g st off (colP g i st)).dk = i := by
  have hd := hg.d
  have h0 := Int.emod_nonneg (i - firstP g st) (show g.d ≠ 0 by omega)
  have h1 := Int.emod_lt_of_pos (i - firstP g st) (show 0 < g.d by omega)
  refine ⟨⟨h0, h1⟩, ?_⟩
  show (firstP g st + (i - firstP g st) % g.d) % g.d = i
  rw [Int.add_emod_emod, show firstP g st + (i - firstP g st) = i by omega]
  exact Int.emod_eq_of_lt hi.1 hi.2
theorem at_split {g : Geo} (hg : GeoOk g) {m : Int} (hm : 0 ≤ m ∧ m < g.c * g.s) : (0 ≤ m / g.c ∧ m / g.c < g.s) ∧ (0 ≤ m % g.c ∧ m % g.c < g.c) ∧ m / g.c * g.c + m % g.c = m := by
  have hc := hg.c
  refine ⟨⟨Int.ediv_nonneg hm.1 (by omega), Int.ediv_lt_of_lt_mul (by omega) (by rw [Int.mul_comm]; exact hm.2)⟩, ⟨Int.emod_nonneg _ (by omega), Int.emod_lt_of_pos _ (by omega)⟩, ?_⟩
  rw [Int.mul_comm]; exact Int.mul_ediv_add_emod _ _
/-- what is written where a disk's sector is had again -/
def rebP (g : Geo) (s : SS) (i m : Int) : PutS := putK g (m / g.c) (m % g.c) (rowR (colsS g s (m / g.c) (m % g.c))) (colP g i (m / g.c))
def rebL (g : Geo) (ep i : Int) : Nat → Int → SS → Int × Int × SS
  | 0, m, s => (m, 0, s)
  | n + 1, m, s => if s.pw.on = false then (m, 4, s) else if (viewS s i m).isSome = true then rebL g ep i n (m + 1) s
    else if lostN (colsS g s (m / g.c) (m % g.c)) ≤ 2 then
      if (applyS g s [rebP g s i m] ep).1 ≠ 0 then (m, (applyS g s [rebP g s i m] ep).1, (applyS g s [rebP g s i m] ep).2) else rebL g ep i n (m + 1) (applyS g s [rebP g s i m] ep).2
    else (m, 8, s)
theorem rebL_succ (g : Geo) (ep i : Int) (n : Nat) (m : Int) (s : SS) : rebL g ep i (n + 1) m s = if s.pw.on = false then (m, 4, s) else if (viewS s i m).isSome = true then rebL g ep i n (m + 1) s
    else if lostN (colsS g s (m / g.c) (m % g.c)) ≤ 2 then
      if (applyS g s [rebP g s i m] ep).1 ≠ 0 then (m, (applyS g s [rebP g s i m] ep).1, (applyS g s [rebP g s i m] ep).2) else rebL g ep i n (m + 1) (applyS g s [rebP g s i m] ep).2
    else (m, 8, s) := rfl
def rebS (g : Geo) (s : SS) (i m n ep : Int) : Int × Int × SS := rebL g ep i ((if n < g.c * g.s - m then m + n else g.c * g.s) - m).toNat m s
/-- a cell that can be read is seen -/
theorem read_some {pw : Pow} {D : Dsk} {a : Int} (ha : 0 ≤ a ∧ a < (D.secs.length : Int)) (hon : pw.on = true) : ((readD pw D a).2 = 0 ∧ (readD pw D a).1.sum = sumS a (readD pw D a).1.data) ↔ (cellD D a).isSome = true := by
  unfold readD cellD
  rw [if_neg (show ¬ ¬ (0 ≤ a ∧ a < (D.secs.length : Int)) by simpa using ha), if_neg (by rw [hon]; decide)]
  by_cases hd : D.dead = true
  · rw [if_pos hd, if_pos hd]; simp
  · rw [if_neg hd, if_neg hd]
    by_cases hg : (D.secs.getD a.toNat sct0).good = false
    · rw [if_pos hg, if_pos hg]; simp
    · rw [if_neg hg, if_neg hg]
      by_cases hs : (D.secs.getD a.toNat sct0).cel.sum = sumS a (D.secs.getD a.toNat sct0).cel.data
      · rw [if_pos hs]; exact ⟨fun _ => rfl, fun _ => ⟨rfl, hs⟩⟩
      · rw [if_neg hs]; exact ⟨fun h => absurd h.2 hs, fun h => by cases h⟩
theorem read_err4 {pw : Pow} {D : Dsk} {a : Int} (ha : 0 ≤ a ∧ a < (D.secs.length : Int)) : (readD pw D a).2 = 4 ↔ pw.on = false := by
  unfold readD
  rw [if_neg (show ¬ ¬ (0 ≤ a ∧ a < (D.secs.length : Int)) by simpa using ha)]
  by_cases hp : pw.on = false
  · rw [if_pos hp]; simp [hp]
  · rw [if_neg hp]
    by_cases hd : D.dead = true
    · rw [if_pos hd]; simp [hp]
    · rw [if_neg hd]
      by_cases hg : (D.secs.getD a.toNat sct0).good = false
      · rw [if_pos hg]; simp [hp]
      · rw [if_neg hg]; simp [hp]
section calls
variable {w : World} {q : SB} {s : SS} {g : Geo} {R : Value → World → Prop}
theorem l_Back (hg : GeoOk g) {i m : Int} (hi : 0 ≤ i ∧ i < g.d) (hm : 0 ≤ m ∧ m < g.c * g.s) (hK : ∀ x w', Keep (fun _ => False) w w' → R (.tuple #[.int .i64 x, .int .i64 (colP g i (m / g.c)), .int .i64 0]) w') :
    CallV Tryz.prog 208 #[.agg (geoV g), .agg (plcV ⟨i, m⟩)] w R := by
  apply C_layout_Back
  unfold F_layout_Back
  have hd := hg.d
  have hc := hg.c
  have hsz := hg.size
  have hss := hg.s
  obtain ⟨⟨st0, st1⟩, _, _⟩ := at_split hg hm
  obtain ⟨f0, f1⟩ := firstP_lt hg (m / g.c)
  refine alc_fresh fun w1 hb1 k1 z1 => ?_
  refine alc_fresh fun w2 hb2 k2 z2 => ?_
  have hg2 := k2.has hb1 (by simp)
  refine LdA_all hg2 rfl ?_
  refine l_Size hg fun w3 k3 => ?_
  have hg3 := k3.has hg2 (by simp)
  have hp3 := k3.has hb2 (by simp)
  have k03 := (k1.trans k2).trans k3
  refine T2_mk.2 (OpI_int.2 (OpI_int.2 ((Cb_false (p := _)).2 ?_)))
  refine LdV_has (v := .int .i64 i) hp3 rfl (OpI_int.2 ?_)
  rw [decide_eq_false (show ¬ i < 0 by omega)]
  refine (Cb_false (p := _)).2 ?_
  refine LdV_has (v := .int .i64 i) hp3 rfl (OpI_int.2 ?_)
  refine LdV_has (v := .int .i64 g.d) hg3 rfl (OpI_int.2 ?_)
  rw [decide_eq_false (show ¬ i ≥ g.d by omega)]
  refine (Cb_false (p := _)).2 ?_
  refine LdV_has (v := .int .i64 m) hp3 rfl (OpI_int.2 ?_)
  rw [decide_eq_false (show ¬ m < 0 by omega)]
  refine (Cb_false (p := _)).2 ?_
  refine LdV_has (v := .int .i64 m) hp3 rfl (OpI_int.2 ?_)
  rw [decide_eq_false (show ¬ m ≥ g.c * g.s by omega)]
  refine (Cb_false (p := _)).2 ?_
  refine LdV_has (v := .int .i64 m) hp3 rfl (OpI_int.2 ?_)
  refine LdV_has (v := .int .i64 g.c) hg3 rfl (OpI_int.2 ⟨by omega, ?_⟩)
  refine LdV_has (v := .int .i64 g.d) hg3 rfl (OpI_int.2 ?_)
  rw [Int.tdiv_eq_ediv_of_nonneg hm.1, wrapI (x := m / g.c) (by omega) (by omega), wrapI (x := g.d - 2) (by omega) (by omega)]
  intro d1 d2
  have kd := (k03.dr d1).dr d2
  have hgd := (hg3.dr d1).dr d2
  have hpd := (hp3.dr d1).dr d2
  generalize (w3.dr d1).dr d2 = w4 at *
  refine ⟨fun w' => Has w' w.heap.size (.cells (geoV g) 24 (0, 0)) ∧ Has w' w1.heap.size (.cells (plcV ⟨i, m⟩) 84 (0, 0)), ⟨hgd, hpd⟩, ?_⟩
  refine LdV_of (v := .int .i64 i) (fun w' hw => ⟨_, _, _, hw.2, rfl⟩) (OpI_int.2 ?_)
  refine LdA_all hgd rfl ?_
  refine LdV_of (v := .int .i64 g.d) (fun w' hw => ⟨_, _, _, hw.1, rfl⟩) (OpI_int.2 ?_)
  refine LdV_of (v := .int .i64 g.d) (fun w' hw => ⟨_, _, _, hw.1, rfl⟩) (OpI_int.2 ?_)
  refine l_first hg st0 fun w5 k5 => OpI_int.2 ⟨⟨k5.has hgd (by simp), k5.has hpd (by simp)⟩, ⟨by omega, ?_⟩⟩
  have k05 := kd.trans k5
  rw [wrapI (x := i - firstP g (m / g.c)) (by omega) (by omega), wrapI (x := i - firstP g (m / g.c) + g.d) (by omega) (by omega), Int.tmod_eq_emod_of_nonneg (by omega), Int.add_emod_right]
  show Cb (decide (colP g i (m / g.c) ≥ g.d - 2)) (Ret [] (R (.tuple #[.int .i64 (-1), .int .i64 (colP g i (m / g.c)), .int .i64 0]) w5)) _
  refine Cb_of (fun _ => Ret_nil.2 (hK _ _ k05)) (fun _ => ?_)
  have hg5 := k5.has hgd (by simp)
  have hp5 := k5.has hpd (by simp)
  refine LdV_has (v := .int .i64 g.c) hg5 rfl (OpI_int.2 ?_)
  refine LdV_has (v := .int .i64 m) hp5 rfl (OpI_int.2 ?_)
  refine LdV_has (v := .int .i64 g.c) hg5 rfl (OpI_int.2 ⟨by omega, fun d => Ret_nil.2 ?_⟩)
  exact hK _ _ (k05.dr d)
theorem sc_Rebuild (h : SetAt w q s) {p : Option Addr} {l c : Nat} (hsl : SlL dLay w p l (q.bks.map Prod.fst)) (hlc : l ≤ c) (hpf : ∀ b o, p = some ⟨b, o, none⟩ → ¬ SFoot q b) (hok : ∀ D ∈ s.ds, DskOk D) {i m n ep : Int} (hm' : m ≤ 9223372036854775807) (hn' : -9223372036854775808 ≤ n)
    (hBad : ¬ ((0 ≤ i ∧ i < q.g.d) ∧ (0 ≤ m ∧ m ≤ q.g.c * q.g.s) ∧ 0 ≤ n) → ∀ w', Keep (fun _ => False) w w' → R (.tuple #[.int .i64 0, .int .i64 2]) w')
    (hDead : deadS s i = true → ∀ w', Keep (fun _ => False) w w' → R (.tuple #[.int .i64 0, .int .i64 5]) w')
    (hK : (0 ≤ i ∧ i < q.g.d) → (0 ≤ m ∧ m ≤ q.g.c * q.g.s) → 0 ≤ n → deadS s i = false → ∀ w', SetAt w' q (rebS q.g s i m n ep).2.2 → Keep (SFoot q) w w' → R (.tuple #[.int .i64 (rebS q.g s i m n ep).1, .int .i64 (rebS q.g s i m n ep).2.1]) w') :
    CallV Tryz.prog 137 #[.agg (setV q.g p l c), .int .i64 i, .int .i64 m, .int .i64 n, .int .u32 ep] w R := by
  apply C_scrub_Rebuild
  unfold F_scrub_Rebuild
  have hgd := h.geo.d
  have hgc := h.geo.c
  have hgs := h.geo.s
  have hsz := h.geo.size
  refine alc_fresh fun w1 hb1 k1 z1 => ?_
  refine LdA_all hb1 rfl ?_
  refine st_Check (h.keep0 k1) (hsl.keepB k1 (by simp)) hlc fun w2 k2 => ?_
  refine OpI_int.2 ((Cb_false (p := _)).2 ?_)
  refine LdA_has (cs := geoV q.g) (k2.has hb1 (by simp)) (by show 0 + 3 ≤ 4; decide) rfl ?_
  refine l_Size h.geo fun w3 k3 => ?_
  refine T2_mk.2 (OpI_int.2 (OpI_int.2 ?_))
  have k03 := (k1.trans k2).trans k3
  have hb3 := (k2.trans k3).has hb1 (by simp)
  refine ⟨fun st' w' => (st'.1 = true ↔ ¬ ((0 ≤ i ∧ i < q.g.d) ∧ (0 ≤ m ∧ m ≤ q.g.c * q.g.s) ∧ 0 ≤ n)) ∧ w3 = w', ?_, ?_⟩
  · refine Cb_of (fun hc => ?_) (fun hc => ?_)
    · have hc : i < 0 := by simpa using hc
      refine ⟨rfl, rfl, rfl, rfl, rfl, rfl, rfl, ⟨fun _ h => by omega, fun _ => rfl⟩, rfl⟩
    · have hc : ¬ i < 0 := by simpa using hc
      refine LdV_has (v := .int .i64 q.g.d) hb3 rfl (OpI_int.2 ⟨rfl, rfl, rfl, rfl, rfl, rfl, rfl, ?_, rfl⟩)
      by_cases h1 : i ≥ q.g.d <;> by_cases h2 : m < 0 <;> by_cases h3 : m > q.g.c * q.g.s <;> by_cases h4 : n < 0 <;> simp [h1, h2, h3, h4] <;> omega
  · rintro _ ⟨bad, u⟩ w' ⟨hbad, rfl⟩
    simp only at hbad ⊢
    refine Cb_of (fun e => Ret_nil.2 (hBad (hbad.1 e) _ k03)) (fun e => ?_)
    have hargs : (0 ≤ i ∧ i < q.g.d) ∧ (0 ≤ m ∧ m ≤ q.g.c * q.g.s) ∧ 0 ≤ n := by
      refine Classical.byContradiction fun hne => ?_
      rw [hbad.2 hne] at e; cases e
    obtain ⟨hi, hm, hn⟩ := hargs
    refine LdV_has (v := .slice p l c) hb3 rfl (OpS_slice.2 ?_)
    have h3 := h.keep0 k03
    obtain ⟨bd, rd, D, hbk, hD, hda, hdl⟩ := h3.get (i := i.toNat) (by have := h3.num; omega)
    have hDg : s.ds.getD i.toNat dsk0 = D := by rw [List.getD_eq_getElem?_getD, hD]; rfl
    refine (hsl.keepB k03 (by simp)).ld0 (i := i) (n := 1) (x := bd) (v := .pointer (some ⟨bd, 0, none⟩)) rfl hi.1 (by rw [List.getElem?_map, hbk]; rfl) rfl (OpN_some.2 ?_)
    refine d_Alive hda (OpB_bool.2 ?_)
    refine Cb_of (fun e2 => Ret_nil.2 (hDead (by unfold deadS; rw [hDg]; simpa using e2) _ k03)) (fun e2 => ?_)
    have hK := hK hi hm hn (by unfold deadS; rw [hDg]; simpa using e2)
    have hend : (if n < q.g.c * q.g.s - m then m + n else q.g.c * q.g.s) ≤ q.g.c * q.g.s ∧ m ≤ (if n < q.g.c * q.g.s - m then m + n else q.g.c * q.g.s) := by split <;> omega
    unfold rebS at hK
    refine ⟨fun st' w' => st'.1 = (if n < q.g.c * q.g.s - m then m + n else q.g.c * q.g.s) ∧ w3 = w', ?_, ?_⟩
    · rw [wrapI (x := q.g.c * q.g.s - m) (by omega) (by omega)]
      refine Cb_of (fun e3 => ⟨?_, rfl⟩) (fun e3 => ⟨?_, rfl⟩)
      · have e3 : n < q.g.c * q.g.s - m := by simpa using e3
        rw [if_pos e3]
        exact wrapI (by omega) (by omega)
      · have e3 : ¬ n < q.g.c * q.g.s - m := by simpa using e3
        rw [if_neg e3]
    · rintro _ ⟨E, u⟩ w' ⟨hE, rfl⟩
      simp only at hE ⊢
      rw [← hE] at hend hK
      refine LoopC_of (σ := Int × Unit) (fun st' w' => ∃ s' : SS, m ≤ st'.1 ∧ st'.1 ≤ E ∧ (∀ D ∈ s'.ds, DskOk D) ∧ SetAt w' q s' ∧ rebL q.g ep i (E - st'.1).toNat st'.1 s' = rebL q.g ep i (E - m).toNat m s ∧ Keep (SFoot q) w3 w') (fun st' _ => (E - st'.1).toNat)
        ⟨s, Int.le_refl _, by omega, hok, h3, rfl, Keep.refl _ _⟩ ?_
      rintro _ ⟨mj, u⟩ w4 ⟨s', hml, hmE, hok', h4, hm2, k4⟩
      simp only at hml hmE hm2 ⊢
      have kw : Keep (SFoot q) w w4 := (k03.mono fun _ h => h.elim).trans k4
      have hb4 : Has w4 w.heap.size (.cells (setV q.g p l c) 51 (0, 0)) := k4.has hb3 (h3.typ hb3 (by decide) (by decide) (by decide))
      have hsl4 : SlL dLay w4 p l (q.bks.map Prod.fst) := (hsl.keepB k03 (by simp)).keep k4 hpf
      refine Cb_of (fun hc => ?_) (fun hc => ?_)
      · have hc : mj < E := by simpa using hc
        have ek : IntKind.wrap .i64 (mj + 1) = mj + 1 := wrapI (by omega) (by omega)
        have hmr : 0 ≤ mj ∧ mj < q.g.c * q.g.s := by omega
        obtain ⟨st1, of1, sp1⟩ := at_split h.geo hmr
        have hnn : (E - mj).toNat = (E - (mj + 1)).toNat + 1 := by omega
        rw [hnn, rebL_succ] at hm2
        have kend : ∀ {w' : World}, Keep (fun _ => False) w4 w' → Keep (SFoot q) w w' := fun k => kw.trans (k.mono fun _ h => h.elim)
        refine LdV_has (v := .slice p l c) hb4 rfl (OpS_slice.2 ?_)
        obtain ⟨bd, rd, D, hbk, hD, hda, hdl⟩ := h4.get (i := i.toNat) (by have := h4.num; omega)
        have hDg : s'.ds.getD i.toNat dsk0 = D := by rw [List.getD_eq_getElem?_getD, hD]; rfl
        have hDok := hok' D (List.mem_of_getElem? hD)
        have hmD : 0 ≤ mj ∧ mj < (D.secs.length : Int) := by rw [hdl]; exact hmr
        refine hsl4.ld0 (i := i) (n := 1) (x := bd) (v := .pointer (some ⟨bd, 0, none⟩)) rfl hi.1 (by rw [List.getElem?_map, hbk]; rfl) rfl (OpN_some.2 ?_)
        refine d_Read hda h4.main fun w5 k5 => T2_mk.2 (OpA_agg.2 ⟨rfl, OpI_int.2 ?_⟩)
        have hcok := readD_ok (pw := s'.pw) (at_ := mj) hDok
        have h4e := read_err4 (pw := s'.pw) hmD
        refine copy_of (by rw [zc_cel]; rfl) rfl (one_celV _) fun w6 hb6 k6 z6 => ?_
        have k46 := k5.trans k6
        refine Cb_of (fun e3 => ?_) (fun e3 => ?_)
        · have e3 : (readD s'.pw D mj).2 = 4 := by simpa using e3
          rw [if_pos (h4e.1 e3)] at hm2
          rw [← hm2] at hK
          refine Ret_nil.2 ?_
          rw [e3]
          exact hK w6 (h4.keep0 k46) (kend k46)
        · have e3 : ¬ (readD s'.pw D mj).2 = 4 := by simpa using e3
          have hon : s'.pw.on = true := by
            cases hp : s'.pw.on with
            | true => rfl
            | false => exact absurd (h4e.2 hp) e3
          rw [if_neg (by rw [hon]; decide)] at hm2
          have hsome := read_some (pw := s'.pw) hmD hon
          refine ⟨fun st' w' => (st'.1 = (viewS s' i mj).isSome) ∧ Keep (fun _ => False) w6 w', ?_, ?_⟩
          · have hview : viewS s' i mj = cellD D mj := by unfold viewS; rw [hDg]
            rw [hview]
            refine Cb_of (fun e4 => ?_) (fun e4 => ?_)
            · have e4 : (readD s'.pw D mj).2 = 0 := by simpa using e4
              refine LdA_all hb6 rfl ?_
              refine s_Good hcok fun w7 k7 => OpB_bool.2 ⟨?_, k7⟩
              show decide ((readD s'.pw D mj).1.sum = sumS mj (readD s'.pw D mj).1.data) = (cellD D mj).isSome
              by_cases hq : (readD s'.pw D mj).1.sum = sumS mj (readD s'.pw D mj).1.data
              · rw [decide_eq_true hq, hsome.1 ⟨e4, hq⟩]
              · rw [decide_eq_false hq]
                cases hz : (cellD D mj).isSome with
                | false => rfl
                | true => exact absurd (hsome.2 hz).2 hq
            · have e4 : ¬ (readD s'.pw D mj).2 = 0 := by simpa using e4
              refine ⟨?_, Keep.refl _ _⟩
              show false = (cellD D mj).isSome
              cases hz : (cellD D mj).isSome with
              | false => rfl
              | true => exact absurd (hsome.2 hz).1 e4
          · rintro _ ⟨seen, u⟩ w7 ⟨hseen, k7⟩
            simp only at hseen ⊢
            have k47 := k46.trans k7
            refine Cb_of (fun e4 => ?_) (fun e4 => ?_)
            · rw [if_pos (by rw [← hseen]; exact e4)] at hm2
              exact ⟨_, by show (E - IntKind.wrap .i64 (mj + 1)).toNat < (E - mj).toNat; rw [ek]; omega, ⟨s', by rw [ek]; omega, by rw [ek]; omega, hok', h4.keep0 k47, by rw [ek]; exact hm2, k4.trans (k47.mono fun _ h => h.elim)⟩, rfl⟩
            · rw [if_neg (by rw [← hseen, e4]; decide)] at hm2
              intro d
              have k48 := k47.trans (Keep.drew (fun _ => False) w7 d)
              generalize w7.dr d = w8 at *
              have hb8 := k48.has hb4 (by simp)
              refine ⟨fun w' => Has w' w.heap.size (.cells (setV q.g p l c) 51 (0, 0)), hb8, ?_⟩
              refine LdA_all hb8 rfl ?_
              refine LdV_of (v := .int .i64 q.g.c) (fun w' hw => ⟨_, _, _, hw, rfl⟩) (OpI_int.2 ⟨by omega, ?_⟩)
              refine LdV_of (v := .int .i64 q.g.c) (fun w' hw => ⟨_, _, _, hw, rfl⟩) (OpI_int.2 ⟨by omega, ?_⟩)
              rw [Int.tdiv_eq_ediv_of_nonneg hmr.1, Int.tmod_eq_emod_of_nonneg hmr.1, wrapI (x := mj / q.g.c) (by omega) (by omega)]
              have h8 := h4.keep0 k48
              have hsl8 : SlL dLay w8 p l (q.bks.map Prod.fst) := hsl4.keepB k48 (by simp)
              refine st_Row h8 hsl8 hlc hok' st1 of1 (fun hp => absurd hp (by rw [hon]; decide)) (fun hp hl w9 k9 => ?_) fun hp hl p2 c2 lp ll lc w9 o9 on9 k9 => ?_
              · refine T3_mk.2 (OpS_slice.2 (OpS_slice.2 (OpI_int.2 ⟨k9.has hb8 (by simp), (Cb_true (q := _)).2 (Ret_nil.2 ?_)⟩)))
                rw [if_neg hl] at hm2
                rw [← hm2] at hK
                exact hK w9 (h8.keep0 k9) (kend (k48.trans k9))
              · have hb9 := k9.has hb8 (by simp)
                refine T3_mk.2 (OpS_slice.2 (OpS_slice.2 (OpI_int.2 ⟨hb9, (Cb_false (p := _)).2 ?_⟩)))
                rw [if_pos hl] at hm2
                refine LdA_has (cs := geoV q.g) hb9 (by show 0 + 3 ≤ 4; decide) rfl ?_
                refine DoQ_of (v := .agg (plcV ⟨i, mj⟩)) (fun _ => run_build _ _ _ _ (by kernel_rfl)) (OpA_agg.2 ⟨rfl, ?_⟩)
                refine l_Back h.geo hi hmr fun x w10 k10 => T3_mk.2 (OpI_int.2 (OpI_int.2 (OpI_int.2 ?_)))
                obtain ⟨⟨cp0, cp1⟩, cpd⟩ := colP_ok h.geo hi (mj / q.g.c) (mj % q.g.c)
                have hplc : plcP q.g (mj / q.g.c) (mj % q.g.c) (colP q.g i (mj / q.g.c)) = ⟨i, mj⟩ := by
                  have e2 : (plcP q.g (mj / q.g.c) (mj % q.g.c) (colP q.g i (mj / q.g.c))).at_ = mj := sp1
                  generalize plcP q.g (mj / q.g.c) (mj % q.g.c) (colP q.g i (mj / q.g.c)) = y at *
                  cases y
                  simp only at cpd e2
                  rw [cpd, e2]
                have hrl := o9.length
                obtain ⟨f, hf⟩ : ∃ f, (rowR (colsS q.g s' (mj / q.g.c) (mj % q.g.c)))[(colP q.g i (mj / q.g.c)).toNat]? = some f := ⟨_, List.getElem?_eq_getElem (by omega)⟩
                have hreb : rebP q.g s' i mj = ⟨⟨i, mj⟩, ⟨f, sumS mj f⟩⟩ := by
                  unfold rebP putK
                  rw [hplc, List.getD_eq_getElem?_getD, hf]; rfl
                have hfo : SecOk f := rowR_ok (colsS_ok (g := q.g) (st := mj / q.g.c) (off := mj % q.g.c) hok') f (List.mem_of_getElem? hf)
                intro d2
                have k411 := ((k48.trans k9).trans k10).trans (Keep.drew (fun _ => False) w10 d2)
                have hb11 := (k10.has hb9 (by simp)).dr d2
                have o11 : OwnL secLay (w10.dr d2) w8.heap.size 37 p2 q.g.d.toNat c2 (rowR (colsS q.g s' (mj / q.g.c) (mj % q.g.c))) := (o9.keep k10 (by simp)).keep (Keep.drew (fun _ => False) w10 d2) (by simp)
                generalize w10.dr d2 = w11 at *
                generalize hrow : rowR (colsS q.g s' (mj / q.g.c) (mj % q.g.c)) = row at *
                refine ⟨fun w' => Has w' w.heap.size (.cells (setV q.g p l c) 51 (0, 0)) ∧ SlL secLay w' p2 q.g.d.toNat row, ⟨hb11, o11.sl⟩, ?_⟩
                refine LdA_of (cs := setV q.g p l c) rfl (fun w' hw => ⟨_, _, _, hw.1, Nat.le_refl 4, rfl⟩) ?_
                refine ⟨.agg (plcV ⟨i, mj⟩), fun w' _ => run_build _ _ _ _ (by kernel_rfl), OpA_agg.2 ⟨rfl, ?_⟩⟩
                refine SlL.ldAS (S := fun w' => Has w' w.heap.size (.cells (setV q.g p l c) 51 (0, 0)) ∧ SlL secLay w' p2 q.g.d.toNat row) (w0 := w11) ⟨hb11, o11.sl⟩ (fun w' hw => hw.2) (i := colP q.g i (mj / q.g.c)) (x := f) (n := 16) rfl cp0 hf ?_
                have e16 : (secLay.row f).toArray = secV f := by show ((secV f).toList).toArray = secV f; simp
                rw [e16]
                have hS : ∀ {w' : World}, Keep (fun _ => False) w11 w' → Has w' w.heap.size (.cells (setV q.g p l c) 51 (0, 0)) ∧ SlL secLay w' p2 q.g.d.toNat row := fun k => ⟨k.has hb11 (by simp), (o11.keep k (by simp)).sl⟩
                refine s_Seal fun w12 k12 => OpA_agg.2 ⟨rfl, hS k12, ?_⟩
                refine ⟨.agg (putSV ⟨⟨i, mj⟩, ⟨f, sumS mj f⟩⟩), fun w' _ => bld_put ⟨⟨i, mj⟩, ⟨f, sumS mj f⟩⟩ w', OpA_agg.2 ⟨rfl, ?_⟩⟩
                refine ⟨_, _, bsl_pu1 _ w12, OpS_slice.2 ?_⟩
                have k13 := Keep.new (fun _ => False) w12 (.cells (putSV ⟨⟨i, mj⟩, ⟨f, sumS mj f⟩⟩) 88)
                have hb13 := Has.new w12 (.cells (putSV ⟨⟨i, mj⟩, ⟨f, sumS mj f⟩⟩) 88)
                have o13 : OwnL puLay (w12.alloc (.cells (putSV ⟨⟨i, mj⟩, ⟨f, sumS mj f⟩⟩) 88)) w12.heap.size 88 (some ⟨w12.heap.size, 0, none⟩) 1 1 [⟨⟨i, mj⟩, ⟨f, sumS mj f⟩⟩] := OwnL.new (L := puLay) (xs := [⟨⟨i, mj⟩, ⟨f, sumS mj f⟩⟩]) (by simp [maxLen]) (by rw [puLay.rows_one']; rfl)
                generalize w12.alloc (.cells (putSV ⟨⟨i, mj⟩, ⟨f, sumS mj f⟩⟩) 88) = w13 at *
                have k1113 := k12.trans k13
                have k413 := k411.trans k1113
                have h13 := h4.keep0 k413
                refine ⟨hS k1113, ?_⟩
                rw [← hreb] at o13
                refine st_Apply h13 (hsl4.keepB k413 (by simp)) hlc hpf o13.sl (by omega) (fun b o hb hi => by cases hb; exact h13.typ hb13 (by decide) (by decide) (by decide) hi) fun w14 hS14 k14 => ?_
                have hb14 := k14.has (hS k1113).1 (h13.typ (hS k1113).1 (by decide) (by decide) (by decide))
                have o11' := o11.keep k1113 (by simp)
                refine OpI_int.2 ⟨⟨hb14, (o11'.keep k14 fun b hb hi => ?_).sl⟩, ?_⟩
                · rcases Own.cases o11' with ⟨h0, _⟩ | ⟨b', cur, h0, _, hg', _⟩
                  · rw [h0] at hb; cases hb
                  · rw [h0] at hb; cases hb
                    exact h13.typ hg' (by decide) (by decide) (by decide) hi
                · have k414 : Keep (SFoot q) w4 w14 := (k413.mono fun _ h => h.elim).trans k14
                  refine Cb_of (fun e5 => ?_) (fun e5 => ?_)
                  · have e5 : (applyS q.g s' [rebP q.g s' i mj] ep).1 ≠ 0 := by simpa using e5
                    rw [if_pos e5] at hm2
                    rw [← hm2] at hK
                    exact Ret_nil.2 (hK w14 hS14 (kw.trans k414))
                  · have e5 : (applyS q.g s' [rebP q.g s' i mj] ep).1 = 0 := by simpa using e5
                    rw [if_neg (fun h => h e5)] at hm2
                    refine ⟨_, by show (E - IntKind.wrap .i64 (mj + 1)).toNat < (E - mj).toNat; rw [ek]; omega, ⟨_, by rw [ek]; omega, by rw [ek]; omega, applyS_dok hok' (fun y hy => ?_), hS14, by rw [ek]; exact hm2, k4.trans k414⟩, rfl⟩
                    rw [List.mem_singleton.1 hy, hreb]
                    exact ⟨hfo, (sumS_ok _ _).1, (sumS_ok _ _).2⟩
      · have hc : mj = E := by
          have : ¬ mj < E := by simpa using hc
          omega
        subst hc
        rw [Int.sub_self] at hm2
        have hm2 : (mj, 0, s') = rebL q.g ep i (mj - m).toNat m s := hm2
        rw [← hm2] at hK
        exact Ret_nil.2 (hK w4 h4 kw)
end calls
end Go.Proofs

/-
  WHAT A SCRUB AND A REBUILD DO TO A SET WHOSE ROWS CAN BE HAD: plain.
-/
namespace Go.Proofs
open Go Go.Ev
set_option linter.unusedSimpArgs false
set_option linter.unusedVariables false
set_option maxRecDepth 100000

/-- a set with power, noughts as keys, that holds what was written -/
structure Good (g : Geo) (s : SS) (now : Int → Sec) (N : Int) : Prop where
  ss : SsOk g s
  lit : Lit0 s.pw
  key : ∀ i : Nat, (s.ds.getD i dsk0).key ≤ 0
  inv : Inv g s now
  nok : ∀ l, SecOk (now l)
  st0 : 0 ≤ s.pw.steps
  stN : s.pw.steps ≤ N
theorem right_full {T : List Sec} : rightS (fullT T) = fullT T := by
  unfold rightS
  have e : (fullT T).length - 2 = T.length := by rw [len_fullT]; omega
  rw [e]
  unfold fullT
  rw [List.take_left' rfl]
/-- the wrong columns of a row that can be had -/
theorem mem_wrongS {g : Geo} {s : SS} {now : Int → Sec} {N : Int} (h : Good g s now N) {st off : Int} (hst : 0 ≤ st ∧ st < g.s) (hof : 0 ≤ off ∧ off < g.c) (hl : lostN (colsS g s st off) ≤ 2) {k : Int} :
    k ∈ wrongS g s st off ↔ (0 ≤ k ∧ k < g.d) ∧ viewS s (plcP g st off k).dk (plcP g st off k).at_ = none ∧ deadS s (plcP g st off k).dk = false := by
  have hg := h.ss.geo
  have hd := hg.d
  unfold wrongS
  rw [h.inv.rowR hg h.nok hst hof hl, right_full]
  have gone_iff : ∀ n : Nat, n < g.d.toNat → (((n : Int) ∈ goneL (colsS g s st off)) ↔ viewS s (plcP g st off (n : Int)).dk (plcP g st off (n : Int)).at_ = none) := by
    intro n hn
    refine ⟨fun hm => ?_, fun hv => lost_mem hn hv⟩
    obtain ⟨n', h1, h2, h3⟩ := goneI_lt (colsS g s st off) _ _ hm
    have : n = n' := by omega
    subst this
    rw [colsS_view hn] at h3
    exact Option.some.inj h3
  constructor
  · intro hm
    obtain ⟨hk, hw⟩ := mem_wrongL hm
    have hk : 0 ≤ k ∧ k < g.d := by omega
    refine ⟨hk, ?_⟩
    unfold wrongB at hw
    rw [Bool.and_eq_true, Bool.or_eq_true] at hw
    obtain ⟨h1, h2⟩ := hw
    refine ⟨?_, by unfold deadS; simpa using h2⟩
    rcases h1 with h1 | h1
    · have h1 : k ∈ goneL (colsS g s st off) := of_decide_eq_true h1
      have := (gone_iff k.toNat (by omega)).1 (by rw [show ((k.toNat : Nat) : Int) = k by omega]; exact h1)
      rw [show ((k.toNat : Nat) : Int) = k by omega] at this
      exact this
    · simp at h1
  · rintro ⟨hk, hv, hd'⟩
    unfold wrongL
    refine List.mem_filter.2 ⟨List.mem_map.2 ⟨k.toNat, List.mem_range.2 (by omega), by omega⟩, ?_⟩
    unfold wrongB
    rw [Bool.and_eq_true, Bool.or_eq_true]
    refine ⟨Or.inl (decide_eq_true ?_), by unfold deadS at hd'; rw [hd']; rfl⟩
    have := (gone_iff k.toNat (by omega)).2 (by rw [show ((k.toNat : Nat) : Int) = k by omega]; exact hv)
    rw [show ((k.toNat : Nat) : Int) = k by omega] at this
    exact this
/-- the cells of a row that are written again -/
theorem mendL_ok {g : Geo} {st off : Int} (hst : 0 ≤ st ∧ st < g.s) (hof : 0 ≤ off ∧ off < g.c) {row : List Sec} (hrow : ∀ f ∈ row, SecOk f) {ep : Int} : ∀ (ks : List Int) (x : Int) (s : SS), SsOk g s → Lit0 s.pw → 0 ≤ s.pw.steps → s.pw.steps + ks.length < 4611686018427387904 → (∀ i : Nat, (s.ds.getD i dsk0).key ≤ ep) → (∀ k ∈ ks, deadS s (plcP g st off k).dk = false) →
    ∃ s', mendL g ep st off row ks x s = (0, x + ks.length, s') ∧ SsOk g s' ∧ Lit0 s'.pw ∧ s'.pw.steps = s.pw.steps + ks.length ∧ (∀ i, deadS s' i = deadS s i) ∧ (∀ i : Nat, (s'.ds.getD i dsk0).key = (s.ds.getD i dsk0).key) ∧
      ∀ i a, 0 ≤ i → 0 ≤ a → viewS s' i a = putV (ks.map (putK g st off row)) (viewS s) i a
  | [], x, s, hs, hl, _, _, _, _ => ⟨s, by show (0, x, s) = (0, x + ((0 : Nat) : Int), s); rw [show x + ((0 : Nat) : Int) = x by omega], hs, hl, by simp, fun _ => rfl, fun _ => rfl, fun _ _ _ _ => rfl⟩
  | k :: ks, x, s, hs, hl, h0, h1, hep, hal => by
    have h1 : s.pw.steps + ((ks.length + 1 : Nat) : Int) < 4611686018427387904 := h1
    have hk := hal k (by simp)
    obtain ⟨pk1, pk2⟩ := plcP_ok hs.geo hst hof k
    have hc := (putK_cok (g := g) (st := st) (off := off) hrow k).1
    have hseal : ∀ x ∈ [putK g st off row k], Sealed g s x := by
      intro y hy
      rw [List.mem_singleton.1 hy]
      exact ⟨⟨pk1, pk2⟩, hc, rfl, hk⟩
    obtain ⟨s1, a1, a2, a3, a4, a5, a6, a7⟩ := applyS_ok hs hl h0 (xs := [putK g st off row k]) (by show s.pw.steps + ((1 : Nat) : Int) < _; omega) hseal hep
    have a4 : s1.pw.steps = s.pw.steps + 1 := a4
    obtain ⟨s', b1, b2, b3, b4, b5, b6, b7⟩ := mendL_ok hst hof hrow (ep := ep) ks (x + 1) s1 a2 a3 (by omega) (by omega) (fun i => by rw [a6]; exact hep i) (fun j hj => by rw [a5]; exact hal j (by simp [hj]))
    refine ⟨s', ?_, b2, b3, ?_, fun i => by rw [b5, a5], fun i => by rw [b6, a6], fun i a hi ha => ?_⟩
    · rw [mendL_cons, a1, if_neg (by simp), b1]
      show (0, x + 1 + (ks.length : Int), s') = (0, x + ((ks.length + 1 : Nat) : Int), s')
      rw [show x + 1 + (ks.length : Int) = x + ((ks.length + 1 : Nat) : Int) by omega]
    · rw [b4, a4]
      show s.pw.steps + 1 + (ks.length : Int) = s.pw.steps + ((ks.length + 1 : Nat) : Int)
      omega
    · rw [b7 i a hi ha, List.map_cons, putV_cons]
      exact putV_congr _ (a7 i a hi ha)
/-- what is seen of a row's cell behind its columns are written -/
theorem putV_row {g : Geo} (hg : GeoOk g) {st off : Int} (hst : 0 ≤ st ∧ st < g.s) (hof : 0 ≤ off ∧ off < g.c) {row : List Sec} : ∀ (ks : List Int) {v : Int → Int → Option Sec}, (∀ k ∈ ks, 0 ≤ k ∧ k < g.d) → ∀ k, (0 ≤ k ∧ k < g.d) → k ∈ ks →
    putV (ks.map (putK g st off row)) v (plcP g st off k).dk (plcP g st off k).at_ = some (row.getD k.toNat (sec []))
  | [], _, _, k, _, h => by cases h
  | j :: ks, v, hr, k, hk, h => by
    rw [List.map_cons, putV_cons]
    by_cases hm : k ∈ ks
    · exact putV_row hg hst hof ks (fun i hi => hr i (by simp [hi])) k hk hm
    · have e : k = j := by
        rcases List.mem_cons.1 h with h | h
        · exact h
        · exact absurd h hm
      subst e
      rw [putV_other _ fun y hy he => ?_]
      · rw [if_pos ⟨rfl, rfl⟩]; rfl
      · obtain ⟨j, hj, rfl⟩ := List.mem_map.1 hy
        have := plcP_inj hg hst hof hst hof hk (hr j (by simp [hj])) he.1 he.2
        exact hm (by rw [this.2.2]; exact hj)
/-- columns of a row that can be had are written: the set stays true -/
theorem put_row {g : Geo} {s s' : SS} {now : Int → Sec} {N : Int} (h : Good g s now N) {st off : Int} (hst : 0 ≤ st ∧ st < g.s) (hof : 0 ≤ off ∧ off < g.c) {ks : List Int} (hks : ∀ k ∈ ks, 0 ≤ k ∧ k < g.d)
    (hv : ∀ i a, 0 ≤ i → 0 ≤ a → viewS s' i a = putV (ks.map (putK g st off (fullT (rowT g now st off)))) (viewS s) i a) : Inv g s' now ∧ (∀ i a, (0 ≤ i ∧ i < g.d) → (0 ≤ a ∧ a < g.c * g.s) → (viewS s' i a = none ↔ viewS s i a = none ∧ ¬ ∃ k ∈ ks, i = (plcP g st off k).dk ∧ a = (plcP g st off k).at_)) := by
  have hg := h.ss.geo
  have hd := hg.d
  have other : ∀ i a, (∀ k ∈ ks, ¬ (i = (plcP g st off k).dk ∧ a = (plcP g st off k).at_)) → putV (ks.map (putK g st off (fullT (rowT g now st off)))) (viewS s) i a = viewS s i a := fun i a hne => putV_other _ fun y hy => by
    obtain ⟨k, hk, rfl⟩ := List.mem_map.1 hy
    exact hne k hk
  refine ⟨fun st2 off2 hst2 hof2 k hk f hf => ?_, fun i a hi ha => ?_⟩
  · obtain ⟨pk1, pk2⟩ := plcP_ok hg hst2 hof2 (k : Int)
    rw [hv _ _ pk1.1 pk2.1] at hf
    by_cases hex : ∃ j ∈ ks, (plcP g st2 off2 (k : Int)).dk = (plcP g st off j).dk ∧ (plcP g st2 off2 (k : Int)).at_ = (plcP g st off j).at_
    · obtain ⟨j, hj, e1, e2⟩ := hex
      have hinj := plcP_inj hg hst2 hof2 hst hof (k := (k : Int)) (k2 := j) (by omega) (hks j hj) e1 e2
      obtain ⟨rfl, rfl, rfl⟩ := hinj
      rw [putV_row hg hst hof ks hks _ (by omega) hj] at hf
      rw [← Option.some.inj hf, Int.toNat_natCast, List.getD_eq_getElem?_getD]
      have hlt : k < (fullT (rowT g now st2 off2)).length := by rw [len_fullT, len_rowT]; omega
      rw [List.getElem?_eq_getElem hlt]; rfl
    · rw [other _ _ fun j hj he => hex ⟨j, hj, he⟩] at hf
      exact h.inv st2 off2 hst2 hof2 k hk f hf
  · rw [hv _ _ hi.1 ha.1]
    by_cases hex : ∃ k ∈ ks, i = (plcP g st off k).dk ∧ a = (plcP g st off k).at_
    · obtain ⟨k, hk, rfl, rfl⟩ := hex
      rw [putV_row hg hst hof ks hks k (hks k hk) hk]
      exact ⟨fun e => (by cases e), fun e => absurd ⟨k, hk, rfl, rfl⟩ e.2⟩
    · rw [other _ _ fun k hk he => hex ⟨k, hk, he⟩]
      exact ⟨fun e => ⟨e, hex⟩, fun e => e.1⟩
/-- a row that can be had is mended -/
theorem row_mend {g : Geo} {s : SS} {now : Int → Sec} {N : Int} (h : Good g s now N) (hN : N < 1000000000) {st off : Int} (hst : 0 ≤ st ∧ st < g.s) (hof : 0 ≤ off ∧ off < g.c) (hl : lostN (colsS g s st off) ≤ 2) (x : Int) :
    ∃ s', mendL g 0 st off (rightS (rowR (colsS g s st off))) (wrongS g s st off) x s = (0, x + (wrongS g s st off).length, s') ∧ Good g s' now (N + 32) ∧ s'.pw.steps = s.pw.steps + (wrongS g s st off).length ∧ (∀ i, deadS s' i = deadS s i) ∧
      ∀ i a, (0 ≤ i ∧ i < g.d) → (0 ≤ a ∧ a < g.c * g.s) → (viewS s' i a = none ↔ viewS s i a = none ∧ (deadS s i = true ∨ a ≠ st * g.c + off)) := by
  have hg := h.ss.geo
  have hd := hg.d
  have hlen : (wrongS g s st off).length ≤ 32 := Nat.le_trans (wrongL_len _ _ _ _ _ _ _ _) (by omega)
  have hmem := fun k => mem_wrongS h hst hof hl (k := k)
  rw [h.inv.rowR hg h.nok hst hof hl, right_full]
  generalize wrongS g s st off = ws at *
  have hst0 := h.st0
  have hstN := h.stN
  obtain ⟨s', a1, a2, a3, a4, a5, a6, a7⟩ := mendL_ok hst hof (fullT_ok (rowT_ok (g := g) h.nok st off)) (ep := 0) ws x s h.ss h.lit h.st0 (by omega) h.key fun k hk => ((hmem k).1 hk).2.2
  obtain ⟨b1, b2⟩ := put_row h hst hof (fun k hk => ((hmem k).1 hk).1) a7
  refine ⟨s', a1, ⟨a2, a3, fun i => by rw [a6]; exact h.key i, b1, h.nok, by omega, by omega⟩, a4, a5, fun i a hi ha => ?_⟩
  rw [b2 i a hi ha]
  constructor
  · rintro ⟨hv, hne⟩
    refine ⟨hv, ?_⟩
    cases hdd : deadS s i with
    | true => exact Or.inl rfl
    | false =>
      right
      intro e
      obtain ⟨ck, cd⟩ := colP_ok hg hi st off
      have hat : (plcP g st off (colP g i st)).at_ = a := e.symm
      exact hne ⟨colP g i st, (hmem _).2 ⟨ck, by rw [cd, hat]; exact hv, by rw [cd]; exact hdd⟩, cd.symm, hat.symm⟩
  · rintro ⟨hv, hne⟩
    refine ⟨hv, ?_⟩
    rintro ⟨k, hk, e1, e2⟩
    rcases hne with e | e
    · have := ((hmem k).1 hk).2.2
      rw [← e1, e] at this
      cases this
    · exact e e2
end Go.Proofs

/-
  A SCRUB OF A STRIPE, plain.
-/
namespace Go.Proofs
open Go Go.Ev
set_option linter.unusedSimpArgs false
set_option linter.unusedVariables false
set_option maxRecDepth 100000

theorem lostN_count (Cs : List (Option Sec)) : lostN Cs = Cs.countP Option.isNone := by
  unfold lostN
  rw [List.countP_eq_length_filter]
theorem colsS_map (g : Geo) (s : SS) (st off : Int) : colsS g s st off = (List.range g.d.toNat).map fun k => viewS s (plcP g st off ((k : Nat) : Int)).dk (plcP g st off ((k : Nat) : Int)).at_ := by
  apply List.ext_getElem?
  intro i
  by_cases hi : i < g.d.toNat
  · rw [colsS_view hi, List.getElem?_map, List.getElem?_range hi]; rfl
  · rw [List.getElem?_eq_none (by rw [len_colsS]; omega), List.getElem?_eq_none (by simp; omega)]
theorem lostN_mono {g : Geo} {s s' : SS} {st off : Int} (h : ∀ k : Nat, k < g.d.toNat → viewS s' (plcP g st off (k : Int)).dk (plcP g st off (k : Int)).at_ = none → viewS s (plcP g st off (k : Int)).dk (plcP g st off (k : Int)).at_ = none) : lostN (colsS g s' st off) ≤ lostN (colsS g s st off) := by
  rw [lostN_count, lostN_count, colsS_map, colsS_map, List.countP_map, List.countP_map]
  refine List.countP_mono_left fun k hk hv => ?_
  have hk := List.mem_range.1 hk
  simp only [Function.comp, Option.isNone_iff_eq_none] at hv ⊢
  exact h k hk hv
theorem len_none {l : List Int} (h : ∀ k, ¬ k ∈ l) : l = [] := List.eq_nil_iff_forall_not_mem.2 h
theorem Good.mono {g : Geo} {s : SS} {now : Int → Sec} {N M : Int} (h : Good g s now N) (hM : N ≤ M) : Good g s now M := ⟨h.ss, h.lit, h.key, h.inv, h.nok, h.st0, by have := h.stN; omega⟩
/-- the rows of a stripe, from one on, where all of them can be had -/
theorem scrubL_ok {g : Geo} {now : Int → Sec} {st : Int} (hst : 0 ≤ st ∧ st < g.s) : ∀ (n : Nat) (off : Int) (x : Rep) (s : SS) (N : Int), Good g s now N → N + 32 * n < 1000000000 → 0 ≤ off → off + n = g.c → (∀ o : Int, off ≤ o ∧ o < g.c → lostN (colsS g s st o) ≤ 2) →
    ∃ (s' : SS) (j : Nat), scrubL g 0 st n off x s = (0, ⟨x.rows + n, x.bad + j, x.fixed + j, x.lost⟩, s') ∧ Good g s' now (N + 32 * n) ∧ s'.pw.steps = s.pw.steps + j ∧ (∀ i, deadS s' i = deadS s i) ∧
      (∀ i a, (0 ≤ i ∧ i < g.d) → (0 ≤ a ∧ a < g.c * g.s) → (viewS s' i a = none ↔ viewS s i a = none ∧ (deadS s i = true ∨ ¬ (st * g.c + off ≤ a ∧ a < st * g.c + off + n)))) ∧ (Whole g s → j = 0)
  | 0, off, x, s, N, h, _, _, _, _ => by
    refine ⟨s, 0, ?_, h.mono (by omega), by simp, fun _ => rfl, fun i a _ _ => ⟨fun e => ⟨e, Or.inr (by omega)⟩, fun e => e.1⟩, fun _ => rfl⟩
    show (0, x, s) = _
    obtain ⟨a, b, c, d⟩ := x
    simp
  | n + 1, off, x, s, N, h, hN, h0, hn, hl => by
    have hg := h.ss.geo
    have hof : 0 ≤ off ∧ off < g.c := by omega
    have hl1 := hl off (by omega)
    obtain ⟨s1, a1, a2, a3, a4, a5⟩ := row_mend h (by omega) hst hof hl1 x.fixed
    have hlen : (wrongS g s st off).length ≤ 32 := Nat.le_trans (wrongL_len _ _ _ _ _ _ _ _) (by have := hg.d; omega)
    have hl' : ∀ o : Int, off + 1 ≤ o ∧ o < g.c → lostN (colsS g s1 st o) ≤ 2 := fun o ho => Nat.le_trans (lostN_mono fun k hk hv => by
      obtain ⟨pk1, pk2⟩ := plcP_ok hg hst (off := o) (by omega) (k : Int)
      exact ((a5 _ _ pk1 pk2).1 hv).1) (hl o (by omega))
    obtain ⟨s', j, b1, b2, b3, b4, b5, b6⟩ := scrubL_ok hst n (off + 1) ⟨x.rows + 1, x.bad + (wrongS g s st off).length, x.fixed + (wrongS g s st off).length, x.lost⟩ s1 (N + 32) a2 (by omega) (by omega) (by omega) hl'
    refine ⟨s', (wrongS g s st off).length + j, ?_, b2.mono (by omega), by rw [b3, a3]; omega, fun i => by rw [b4, a4], fun i a hi ha => ?_, fun hW => ?_⟩
    · rw [scrubL_succ, if_neg (by rw [h.lit.1]; decide), if_pos hl1, a1, if_neg (by simp), b1]
      simp only [Prod.mk.injEq, Rep.mk.injEq, true_and, and_true]
      omega
    · rw [b5 i a hi ha, a5 i a hi ha, a4 i]
      constructor
      · rintro ⟨⟨c1, c2⟩, c3⟩
        refine ⟨c1, ?_⟩
        rcases c2 with c2 | c2
        · exact Or.inl c2
        · rcases c3 with c3 | c3
          · exact Or.inl c3
          · exact Or.inr (by omega)
      · rintro ⟨c1, c2⟩
        refine ⟨⟨c1, ?_⟩, ?_⟩
        · rcases c2 with c2 | c2
          · exact Or.inl c2
          · exact Or.inr (by omega)
        · rcases c2 with c2 | c2
          · exact Or.inl c2
          · exact Or.inr (by omega)
    · have e1 : wrongS g s st off = [] := len_none fun k hk => by
        obtain ⟨c1, c2, c3⟩ := (mem_wrongS h hst hof hl1).1 hk
        obtain ⟨pk1, pk2⟩ := plcP_ok hg hst hof k
        exact hW _ _ pk1 pk2 c2
      have e2 := b6 fun i a hi ha hv => hW i a hi ha ((a5 i a hi ha).1 hv).1
      rw [e1, e2]; rfl
theorem scrubS_ok {g : Geo} {now : Int → Sec} {st : Int} (hst : 0 ≤ st ∧ st < g.s) {s : SS} {N : Int} (h : Good g s now N) (hN : N < 100000000) (hl : ∀ o : Int, 0 ≤ o ∧ o < g.c → lostN (colsS g s st o) ≤ 2) :
    ∃ (s' : SS) (j : Nat), scrubS g s st 0 = (0, ⟨g.c, j, j, 0⟩, s') ∧ Good g s' now (N + 256) ∧ s'.pw.steps = s.pw.steps + j ∧ (∀ i, deadS s' i = deadS s i) ∧
      (∀ i a, (0 ≤ i ∧ i < g.d) → (0 ≤ a ∧ a < g.c * g.s) → (viewS s' i a = none ↔ viewS s i a = none ∧ (deadS s i = true ∨ ¬ (st * g.c ≤ a ∧ a < st * g.c + g.c)))) ∧ (Whole g s → j = 0) := by
  have hc := h.ss.geo.c
  obtain ⟨s', j, a1, a2, a3, a4, a5, a6⟩ := scrubL_ok hst g.c.toNat 0 rep0 s N h (by omega) (by omega) (by omega) hl
  have e : ((g.c.toNat : Nat) : Int) = g.c := by omega
  rw [e] at a1 a2 a5
  refine ⟨s', j, ?_, a2.mono (by omega), a3, a4, fun i a hi ha => ?_, a6⟩
  · unfold scrubS
    rw [a1]
    simp [rep0]
  · rw [a5 i a hi ha, Int.add_zero]
end Go.Proofs

/-
  THE LAWS OF SCRUB: a set in use, its calls; small and awake.
-/
namespace Go.Proofs
open Go Go.Ev
set_option linter.unusedSimpArgs false
set_option linter.unusedVariables false
set_option maxRecDepth 100000

/-- a set in use -/
structure GdI (w : World) (base : Nat) (g : Geo) (m : Nat) (bks : List (Nat × Nat)) (p : Option Addr) (c : Nat) (s : SS) (now : Int → Sec) (N : Int) : Prop where
  set : SetAt w ⟨m, g, bks⟩ s
  disks : OwnL dLay w base 111 p g.d.toNat c (bks.map Prod.fst)
  good : Good g s now N
theorem newS_good {g : Geo} (hg : GeoOk g) : Good g (newS g pw0) now0 0 := ⟨newS_ok hg pw0, lit0, fun i => by rw [newS_key]; omega, newS_inv hg pw0, now0_ok, by show (0 : Int) ≤ 0; omega, by show (0 : Int) ≤ 0; omega⟩
section calls
variable {w w' : World} {base : Nat} {g : Geo} {m : Nat} {bks : List (Nat × Nat)} {p : Option Addr} {c : Nat} {s : SS} {now : Int → Sec} {N : Int} {R : Value → World → Prop}
theorem GdI.st (h : GdI w base g m bks p c s now N) : StI w base g m bks p c s now := ⟨h.set, h.disks, h.good.ss, h.good.lit, h.good.key, h.good.inv, h.good.nok⟩
theorem GdI.keep0 (h : GdI w base g m bks p c s now N) (k : Keep (fun _ => False) w w') : GdI w' base g m bks p c s now N := ⟨h.set.keep0 k, h.disks.keep k (by simp), h.good⟩
theorem GdI.keep {S : Nat → Prop} (h : GdI w base g m bks p c s now N) (k : Keep S w w') (hS : ∀ b, SFoot ⟨m, g, bks⟩ b → ¬ S b) (hD : ∀ b, p = some ⟨b, 0, none⟩ → ¬ S b) : GdI w' base g m bks p c s now N :=
  ⟨h.set.keep k hS, h.disks.keep k hD, h.good⟩
theorem GdI.apply (h : GdI w base g m bks p c s now N) (hN : N < 1000000) (hW : Whole g s) (hal : ∀ i, deadS s i = false) {lba : Int} (h0 : 0 ≤ lba) (h1 : lba < (g.d - 2) * g.c * g.s) {data : Sec} (hdat : SecOk data)
    {pb : Nat} {pp : Option Addr} {pl pc : Nat} (hpl : pl ≤ 3) (o : OwnL puLay w pb 88 pp pl pc (planS g s lba data).1)
    (hK : ∀ w' s', GdI w' base g m bks p c s' (upd now lba data) (N + 3) → Whole g s' → (∀ i, deadS s' i = false) → s'.pw.steps = s.pw.steps + 3 → Keep (SFoot ⟨m, g, bks⟩) w w' → R (.int .i64 0) w') :
    CallV Tryz.prog 38 #[.agg (setV g p g.d.toNat c), .slice pp pl pc, .int .u32 0] w R := by
  have hg := h.good.ss.geo
  obtain ⟨pst, pco, pof⟩ := spotP_ok hg h0 h1
  have hlost : lostN (colsS g s (spotP g lba).1 (spotP g lba).2.2) ≤ 2 := by rw [hW.lost hg pst pof]; omega
  refine h.st.apply h0 h1 hdat hlost hpl o fun w' s' hap hw hT k => ?_
  have h00 := h.good.st0
  have h0N := h.good.stN
  obtain ⟨_, hst, hal', _, _⟩ := write_alive h.good.ss h.good.inv h.good.nok h.good.lit h0 h1 hdat h.good.key hlost hal h.good.st0 (by omega) hap
  exact hK w' s' ⟨hT.set, hT.disks, ⟨hT.ss, hT.lit, hT.key, hT.inv, hT.nok, by omega, by omega⟩⟩ (hW.write hw) hal' hst k
theorem GdI.plan (h : GdI w base g m bks p c s now N) (hW : Whole g s) {lba : Int} (h0 : 0 ≤ lba) (h1 : lba < (g.d - 2) * g.c * g.s) {data : Sec} (hdat : SecOk data)
    (hK : ∀ p' n c' w', n ≤ 3 → OwnL puLay w' w.heap.size 88 p' n c' (planS g s lba data).1 → Keep (fun _ => False) w w' → R (.tuple #[.slice p' n c', .int .i64 0]) w') :
    CallV Tryz.prog 35 #[.agg (setV g p g.d.toNat c), .int .i64 lba, .agg (secV data)] w R := by
  have hg := h.good.ss.geo
  obtain ⟨pst, pco, pof⟩ := spotP_ok hg h0 h1
  have hlost : lostN (colsS g s (spotP g lba).1 (spotP g lba).2.2) ≤ 2 := by rw [hW.lost hg pst pof]; omega
  exact h.st.plan h0 h1 hdat hlost fun p' n c' w' _ h3 o k => hK p' n c' w' h3 o k
theorem GdI.scrub (h : GdI w base g m bks p c s now N) (hN : N < 1000000) {st : Int} (hl : ∀ o : Int, (0 ≤ st ∧ st < g.s) → 0 ≤ o ∧ o < g.c → lostN (colsS g s st o) ≤ 2)
    (hBad : ¬ (0 ≤ st ∧ st < g.s) → ∀ w', Keep (fun _ => False) w w' → R (.tuple #[.agg (repV rep0), .int .i64 2]) w')
    (hK : (0 ≤ st ∧ st < g.s) → ∀ w' s' (j : Nat), GdI w' base g m bks p c s' now (N + 256) → s'.pw.steps = s.pw.steps + j → (∀ i, deadS s' i = deadS s i) → (∀ i a, (0 ≤ i ∧ i < g.d) → (0 ≤ a ∧ a < g.c * g.s) → (viewS s' i a = none ↔ viewS s i a = none ∧ (deadS s i = true ∨ ¬ (st * g.c ≤ a ∧ a < st * g.c + g.c)))) → (Whole g s → j = 0) → Keep (SFoot ⟨m, g, bks⟩) w w' → R (.tuple #[.agg (repV ⟨g.c, j, j, 0⟩), .int .i64 0]) w') :
    CallV Tryz.prog 138 #[.agg (setV g p g.d.toNat c), .int .i64 st, .int .u32 0] w R := by
  refine sc_Scrub h.set h.disks.sl h.disks.cap.1 h.st.off h.good.ss.ok (st := st) hBad fun hst w' hS k => ?_
  obtain ⟨s', j, a1, a2, a3, a4, a5, a6⟩ := scrubS_ok hst h.good (by omega) (fun o ho => hl o hst ho)
  have a1' : scrubS (SB.mk m g bks).g s st 0 = (0, ⟨g.c, j, j, 0⟩, s') := a1
  rw [a1'] at hS ⊢
  exact hK hst w' s' j ⟨hS, h.st.disks' k, a2⟩ a3 a4 a5 a6 k
end calls
end Go.Proofs

namespace Go.Proofs
open Go.Ev
set_option linter.unusedVariables false
set_option maxRecDepth 100000
def F_disk_Disk_Replace (d : Nat) (w : World) (R : Value → World → Prop) : Prop :=
  LdV d 1 (At w) fun v => OpS v fun p l c => DoV Tryz.prog (Instr.makeSlice 218 (.int .i64 ((l : Nat) : Int)) (.int .i64 ((l : Nat) : Int))) w fun v1 w => OpS v1 fun p1 l1
  c1 => StV d 1 (.slice p1 l1 c1) w fun w => StV d 2 (.int .u32 0) w fun w => StV d 3 (.bool false) w fun w => Ret [] (R (.tuple #[]) w)
theorem C_disk_Disk_Replace {d : Nat} {w : World} {R : Value → World → Prop} (h : F_disk_Disk_Replace d w R) : CallV Tryz.prog 98 #[.pointer (some ⟨d, 0, none⟩)] w R := by
  exact calls_of_F (args := [.pointer (some ⟨d, 0, none⟩)]) (mkAnn [] [] [] [] []) Tryz_mixed Tryz.func98 rfl rfl (by kernel_rfl) h
end Go.Proofs

namespace Go.Proofs
open Go Go.Ev Go.RowKit
set_option linter.unusedSimpArgs false
set_option linter.unusedVariables false
set_option maxRecDepth 100000

theorem nodup_set {x : Nat} : ∀ {l : List Nat}, l.Nodup → x ∉ l → ∀ i, (l.set i x).Nodup
  | [], _, _, i => by simp
  | y :: l, hn, hx, 0 => by
    rw [List.set_cons_zero, List.nodup_cons]
    exact ⟨fun h => hx (List.mem_cons_of_mem _ h), (List.nodup_cons.1 hn).2⟩
  | y :: l, hn, hx, i + 1 => by
    rw [List.set_cons_succ, List.nodup_cons]
    rw [List.nodup_cons] at hn
    refine ⟨fun h => ?_, nodup_set hn.2 (fun h => hx (List.mem_cons_of_mem _ h)) i⟩
    rcases List.mem_or_eq_of_mem_set h with h | h
    · exact hn.1 h
    · exact hx (by rw [h]; exact List.mem_cons_self ..)
def replD (D : Dsk) : Dsk := ⟨List.replicate D.secs.length sct0, 0, false⟩
def replS (s : SS) (i : Int) : SS := ⟨s.ds.set i.toNat (replD (s.ds.getD i.toNat dsk0)), s.pw⟩
theorem replD_ok (D : Dsk) : DskOk (replD D) := ⟨fun x hx => by
  have hx : x ∈ List.replicate D.secs.length sct0 := hx
  rw [(List.mem_replicate.1 hx).2]; exact sct0_ok, Int.le_refl 0, by show (0 : Int) ≤ 4294967295; decide⟩
theorem replD_len (D : Dsk) : (replD D).secs.length = D.secs.length := by show (List.replicate _ _).length = _; simp
theorem replD_cell (D : Dsk) (a : Int) : cellD (replD D) a = none := by
  unfold cellD replD
  simp only
  rw [if_neg (by decide)]
  have : ((List.replicate D.secs.length sct0).getD a.toNat sct0) = sct0 := by
    rw [List.getD_eq_getElem?_getD, List.getElem?_replicate]
    split <;> rfl
  rw [this, if_pos (show sct0.good = false from rfl)]
theorem replS_get {s : SS} {i : Int} (hi : i.toNat < s.ds.length) (j : Nat) : (replS s i).ds.getD j dsk0 = if i.toNat = j then replD (s.ds.getD i.toNat dsk0) else s.ds.getD j dsk0 := by
  unfold replS
  exact getD_setS hi _ _
theorem replS_dead {s : SS} {i : Int} (h0 : 0 ≤ i) (hi : i.toNat < s.ds.length) {j : Int} (hj : 0 ≤ j) : deadS (replS s i) j = if j = i then false else deadS s j := by
  unfold deadS
  rw [replS_get hi]
  by_cases e : i.toNat = j.toNat
  · rw [if_pos e, if_pos (by omega)]; rfl
  · rw [if_neg e, if_neg (fun h => e (by rw [h]))]
theorem replS_view {s : SS} {i : Int} (h0 : 0 ≤ i) (hi : i.toNat < s.ds.length) {j : Int} (hj : 0 ≤ j) (a : Int) : viewS (replS s i) j a = if j = i then none else viewS s j a := by
  unfold viewS
  rw [replS_get hi]
  by_cases e : i.toNat = j.toNat
  · rw [if_pos e, if_pos (by omega)]; exact replD_cell _ _
  · rw [if_neg e, if_neg (fun h => e (by rw [h]))]
theorem replS_good {g : Geo} {s : SS} {now : Int → Sec} {N : Int} (h : Good g s now N) {i : Int} (hi : 0 ≤ i ∧ i < g.d) : Good g (replS s i) now N := by
  have hn := h.ss.num
  have hm := h.ss.get hi.1 hi.2
  refine ⟨⟨h.ss.geo, by unfold replS; simpa using hn, fun D hD => ?_, fun D hD => ?_⟩, h.lit, fun j => ?_, fun st off hst hof k hk f hv => ?_, h.nok, h.st0, h.stN⟩
  · unfold replS at hD
    rcases List.mem_or_eq_of_mem_set hD with hD | rfl
    · exact h.ss.len D hD
    · rw [replD_len]; exact h.ss.len _ hm
  · unfold replS at hD
    rcases List.mem_or_eq_of_mem_set hD with hD | rfl
    · exact h.ss.ok D hD
    · exact replD_ok _
  · rw [replS_get (by omega)]
    split
    · show (0 : Int) ≤ 0; omega
    · exact h.key j
  · obtain ⟨pk1, pk2⟩ := plcP_ok h.ss.geo hst hof (k : Int)
    rw [replS_view hi.1 (by omega) pk1.1] at hv
    split at hv
    · cases hv
    · exact h.inv st off hst hof k hk f hv
/-- a rebuild where all rows can be had -/
theorem rebL_ok {g : Geo} {now : Int → Sec} {i : Int} (hi : 0 ≤ i ∧ i < g.d) : ∀ (n : Nat) (m : Int) (s : SS) (N : Int), Good g s now N → N + n < 1000000000 → deadS s i = false → 0 ≤ m → m + n ≤ g.c * g.s → (∀ st off : Int, 0 ≤ st ∧ st < g.s → 0 ≤ off ∧ off < g.c → lostN (colsS g s st off) ≤ 2) →
    ∃ s', rebL g 0 i n m s = (m + n, 0, s') ∧ Good g s' now (N + n) ∧ (∀ j, deadS s' j = deadS s j) ∧ ∀ j a, (0 ≤ j ∧ j < g.d) → (0 ≤ a ∧ a < g.c * g.s) → (viewS s' j a = none ↔ viewS s j a = none ∧ ¬ (j = i ∧ m ≤ a ∧ a < m + n))
  | 0, m, s, N, h, _, _, _, _, _ => ⟨s, by show (m, 0, s) = _; simp, h.mono (by omega), fun _ => rfl, fun j a _ _ => ⟨fun e => ⟨e, by omega⟩, fun e => e.1⟩⟩
  | n + 1, m, s, N, h, hN, hal, hm, hmn, hl => by
    have hg := h.ss.geo
    have hd := hg.d
    have hmr : 0 ≤ m ∧ m < g.c * g.s := by omega
    obtain ⟨st1, of1, sp1⟩ := at_split hg hmr
    rw [rebL_succ, if_neg (by rw [h.lit.1]; decide)]
    cases hv : viewS s i m with
    | some f =>
      rw [if_pos (show (some f).isSome = true from rfl)]
      obtain ⟨s', a1, a2, a3, a4⟩ := rebL_ok hi n (m + 1) s N h (by omega) hal (by omega) (by omega) hl
      refine ⟨s', by rw [a1, show m + 1 + (n : Int) = m + ((n + 1 : Nat) : Int) by omega], a2.mono (by omega), a3, fun j a hj ha => ?_⟩
      rw [a4 j a hj ha]
      refine ⟨fun ⟨e1, e2⟩ => ⟨e1, fun ⟨e3, e4⟩ => ?_⟩, fun ⟨e1, e2⟩ => ⟨e1, fun ⟨e3, e4⟩ => e2 ⟨e3, by omega⟩⟩⟩
      by_cases e : a = m
      · rw [e3, e, hv] at e1; cases e1
      · exact e2 ⟨e3, by omega⟩
    | none =>
      rw [if_neg (show ¬ (none : Option Sec).isSome = true by decide), if_pos (hl _ _ st1 of1)]
      obtain ⟨⟨cp0, cp1⟩, cpd⟩ := colP_ok hg hi (m / g.c) (m % g.c)
      have hrow := h.inv.rowR hg h.nok st1 of1 (hl _ _ st1 of1)
      have hst0 := h.st0
      have hstN := h.stN
      have hreb : rebP g s i m = putK g (m / g.c) (m % g.c) (fullT (rowT g now (m / g.c) (m % g.c))) (colP g i (m / g.c)) := by unfold rebP; rw [hrow]
      obtain ⟨s1, b1, b2, b3, b4, b5, b6, b7⟩ := applyS_ok (ep := 0) (xs := [rebP g s i m]) h.ss h.lit h.st0 (by show s.pw.steps + ((1 : Nat) : Int) < _; omega) (fun y hy => by
        rw [List.mem_singleton.1 hy, hreb]
        exact ⟨plcP_ok hg st1 of1 _, (putK_cok (g := g) (st := m / g.c) (off := m % g.c) (fullT_ok (rowT_ok (g := g) h.nok (m / g.c) (m % g.c))) _).1, rfl, by show deadS s (plcP g (m / g.c) (m % g.c) (colP g i (m / g.c))).dk = false; rw [cpd]; exact hal⟩) h.key
      have b4 : s1.pw.steps = s.pw.steps + 1 := b4
      obtain ⟨c1, c2⟩ := put_row h st1 of1 (ks := [colP g i (m / g.c)]) (fun k hk => by rw [List.mem_singleton.1 hk]; exact ⟨cp0, cp1⟩) (s' := s1) (by
        intro j a hj ha
        rw [b7 j a hj ha, hreb]
        rfl)
      have c2' : ∀ j a, (0 ≤ j ∧ j < g.d) → (0 ≤ a ∧ a < g.c * g.s) → (viewS s1 j a = none ↔ viewS s j a = none ∧ ¬ (j = i ∧ a = m)) := by
        intro j a hj ha
        rw [c2 j a hj ha]
        have hat : (plcP g (m / g.c) (m % g.c) (colP g i (m / g.c))).at_ = m := sp1
        constructor
        · rintro ⟨e1, e2⟩
          exact ⟨e1, fun e => e2 ⟨_, List.mem_singleton.2 rfl, by rw [cpd]; exact e.1, by rw [hat]; exact e.2⟩⟩
        · rintro ⟨e1, e2⟩
          refine ⟨e1, ?_⟩
          rintro ⟨k, hk, f1, f2⟩
          rw [List.mem_singleton.1 hk] at f1 f2
          rw [cpd] at f1
          rw [hat] at f2
          exact e2 ⟨f1, f2⟩
      have hG1 : Good g s1 now (N + 1) := ⟨b2, b3, fun j => by rw [b6]; exact h.key j, c1, h.nok, by omega, by omega⟩
      obtain ⟨s', a1, a2, a3, a4⟩ := rebL_ok hi n (m + 1) s1 (N + 1) hG1 (by omega) (by rw [b5]; exact hal) (by omega) (by omega) fun st off hst hof => Nat.le_trans (lostN_mono fun k hk hvk => by
        obtain ⟨pk1, pk2⟩ := plcP_ok hg hst hof (k : Int)
        exact ((c2' _ _ pk1 pk2).1 hvk).1) (hl st off hst hof)
      refine ⟨s', ?_, a2.mono (by omega), fun j => by rw [a3, b5], fun j a hj ha => ?_⟩
      · rw [b1, if_neg (by simp), a1, show m + 1 + (n : Int) = m + ((n + 1 : Nat) : Int) by omega]
      · rw [a4 j a hj ha, c2' j a hj ha]
        constructor
        · rintro ⟨⟨e1, e2⟩, e3⟩
          refine ⟨e1, fun ⟨e4, e5⟩ => ?_⟩
          by_cases e : a = m
          · exact e2 ⟨e4, e⟩
          · exact e3 ⟨e4, by omega⟩
        · rintro ⟨e1, e2⟩
          exact ⟨⟨e1, fun ⟨e3, e4⟩ => e2 ⟨e3, by omega⟩⟩, fun ⟨e3, e4⟩ => e2 ⟨e3, by omega⟩⟩
theorem rebS_ok {g : Geo} {now : Int → Sec} {i m n : Int} (hi : 0 ≤ i ∧ i < g.d) {s : SS} {N : Int} (h : Good g s now N) (hN : N < 100000000) (hal : deadS s i = false) (hm : 0 ≤ m ∧ m ≤ g.c * g.s) (hn : 0 ≤ n) (hl : ∀ st off : Int, 0 ≤ st ∧ st < g.s → 0 ≤ off ∧ off < g.c → lostN (colsS g s st off) ≤ 2) :
    ∃ s', rebS g s i m n 0 = (min (g.c * g.s) (m + n), 0, s') ∧ Good g s' now (N + (min (g.c * g.s) (m + n) - m)) ∧ (∀ j, deadS s' j = deadS s j) ∧ ∀ j a, (0 ≤ j ∧ j < g.d) → (0 ≤ a ∧ a < g.c * g.s) → (viewS s' j a = none ↔ viewS s j a = none ∧ ¬ (j = i ∧ m ≤ a ∧ a < m + n)) := by
  have hsz := h.ss.geo.size
  have hend : (if n < g.c * g.s - m then m + n else g.c * g.s) = min (g.c * g.s) (m + n) := by
    split
    · rw [Int.min_eq_right (by omega)]
    · rw [Int.min_eq_left (by omega)]
  have hmn : m ≤ min (g.c * g.s) (m + n) ∧ min (g.c * g.s) (m + n) ≤ g.c * g.s ∧ min (g.c * g.s) (m + n) ≤ m + n := by omega
  obtain ⟨s', a1, a2, a3, a4⟩ := rebL_ok hi (min (g.c * g.s) (m + n) - m).toNat m s N h (by omega) hal hm.1 (by omega) hl
  refine ⟨s', ?_, a2.mono (by omega), a3, fun j a hj ha => ?_⟩
  · unfold rebS
    rw [hend, a1, show m + ((min (g.c * g.s) (m + n) - m).toNat : Int) = min (g.c * g.s) (m + n) by omega]
  · rw [a4 j a hj ha]
    constructor
    · rintro ⟨e1, e2⟩
      exact ⟨e1, fun ⟨e3, e4⟩ => e2 ⟨e3, by omega⟩⟩
    · rintro ⟨e1, e2⟩
      exact ⟨e1, fun ⟨e3, e4⟩ => e2 ⟨e3, by omega⟩⟩

/-! ### the calls -/
theorem d_Replace {w : World} {m b r : Nat} {D : Dsk} {R : Value → World → Prop} (h : DiskAt w m b r D) (hlen : D.secs.length ≤ 1024) (hK : ∀ w', DiskAt w' m b w.heap.size (replD D) → Keep (fun k => k = b) w w' → R (.tuple #[]) w') :
    CallV Tryz.prog 98 #[.pointer (some ⟨b, 0, none⟩)] w R := by
  apply C_disk_Disk_Replace
  unfold F_disk_Disk_Replace
  refine LdV_has (v := .slice (some ⟨r, 0, none⟩) D.secs.length D.secs.length) h.cells rfl (OpS_slice.2 ?_)
  obtain ⟨w1, hr, o1, k1, z1⟩ := run_makeL (P := Tryz.prog) (L := kLay) (x0 := sct0) (t := 218) (e := 260) (i := (Tryz.prog.info? 260).get (by kernel_rfl)) (z := ((Tryz.prog.info? 260).get (by kernel_rfl)).zero.get (by kernel_rfl)) w (by kernel_rfl) (by kernel_rfl) (by kernel_rfl) (by kernel_rfl) (by kernel_rfl) D.secs.length
    (by show D.secs.length * 18 ≤ _; omega) (by have : ((Tryz.prog.info? 260).get (by kernel_rfl)).bytes = 24 := by kernel_rfl
                                                rw [this]; omega) (by simp only [maxLen]; omega)
  refine ⟨_, _, hr, OpS_slice.2 ?_⟩
  have hb1 := k1.has h.cells (by simp)
  have hD : (replD D).secs.length = D.secs.length := replD_len D
  refine StV_of hb1 (by show 1 < 4; decide) rfl ?_
  have hb2 := hb1.upd_same (.cells ((diskC m r D).setIfInBounds 1 (.slice (some ⟨w.heap.size, 0, none⟩) D.secs.length D.secs.length)) 220 (0, 0))
  have k2 := Keep.one w1 b (.cells ((diskC m r D).setIfInBounds 1 (.slice (some ⟨w.heap.size, 0, none⟩) D.secs.length D.secs.length)) 220 (0, 0))
  generalize w1.upd b (.cells ((diskC m r D).setIfInBounds 1 (.slice (some ⟨w.heap.size, 0, none⟩) D.secs.length D.secs.length)) 220 (0, 0)) = w2 at *
  refine StV_of hb2 (by show 2 < 4; decide) rfl ?_
  have hb3 := hb2.upd_same (.cells (((diskC m r D).setIfInBounds 1 (.slice (some ⟨w.heap.size, 0, none⟩) D.secs.length D.secs.length)).setIfInBounds 2 (.int .u32 0)) 220 (0, 0))
  have k3 := Keep.one w2 b (.cells (((diskC m r D).setIfInBounds 1 (.slice (some ⟨w.heap.size, 0, none⟩) D.secs.length D.secs.length)).setIfInBounds 2 (.int .u32 0)) 220 (0, 0))
  generalize w2.upd b (.cells (((diskC m r D).setIfInBounds 1 (.slice (some ⟨w.heap.size, 0, none⟩) D.secs.length D.secs.length)).setIfInBounds 2 (.int .u32 0)) 220 (0, 0)) = w3 at *
  refine StV_of hb3 (by show 3 < 4; decide) rfl (Ret_nil.2 ?_)
  have k4 := Keep.one w3 b (.cells ((((diskC m r D).setIfInBounds 1 (.slice (some ⟨w.heap.size, 0, none⟩) D.secs.length D.secs.length)).setIfInBounds 2 (.int .u32 0)).setIfInBounds 3 (.bool false)) 220 (0, 0))
  have k14 := (k2.trans k3).trans k4
  have hbr : b ≠ w.heap.size := by have := h.cells.lt; omega
  refine hK _ ⟨?_, ?_⟩ ((k1.mono fun _ h => h.elim).trans k14)
  · have := hb3.upd_same (.cells ((((diskC m r D).setIfInBounds 1 (.slice (some ⟨w.heap.size, 0, none⟩) D.secs.length D.secs.length)).setIfInBounds 2 (.int .u32 0)).setIfInBounds 3 (.bool false)) 220 (0, 0))
    unfold diskC
    rw [hD]
    exact this
  · rw [hD]
    exact (o1.rebase (Nat.zero_le _)).keep k14 fun k hk e => by cases hk; exact hbr e.symm
section calls
variable {w w' : World} {base : Nat} {g : Geo} {m : Nat} {bks : List (Nat × Nat)} {p : Option Addr} {c : Nat} {s : SS} {now : Int → Sec} {N : Int} {R : Value → World → Prop}
theorem GdI.rebuild (h : GdI w base g m bks p c s now N) (hN : N < 1000000) {i mk n : Int} (hi : 0 ≤ i ∧ i < g.d) (hal : deadS s i = false) (hm : 0 ≤ mk ∧ mk ≤ g.c * g.s) (hn : 0 ≤ n) (hl : ∀ st off : Int, 0 ≤ st ∧ st < g.s → 0 ≤ off ∧ off < g.c → lostN (colsS g s st off) ≤ 2)
    (hK : ∀ w' s', GdI w' base g m bks p c s' now (N + (min (g.c * g.s) (mk + n) - mk)) → (∀ j, deadS s' j = deadS s j) → (∀ j a, (0 ≤ j ∧ j < g.d) → (0 ≤ a ∧ a < g.c * g.s) → (viewS s' j a = none ↔ viewS s j a = none ∧ ¬ (j = i ∧ mk ≤ a ∧ a < mk + n))) → Keep (SFoot ⟨m, g, bks⟩) w w' → R (.tuple #[.int .i64 (min (g.c * g.s) (mk + n)), .int .i64 0]) w') :
    CallV Tryz.prog 137 #[.agg (setV g p g.d.toNat c), .int .i64 i, .int .i64 mk, .int .i64 n, .int .u32 0] w R := by
  have hsz := h.good.ss.geo.size
  refine sc_Rebuild h.set h.disks.sl h.disks.cap.1 h.st.off h.good.ss.ok (by omega) (by omega) (fun hb => absurd ⟨hi, hm, hn⟩ hb) (fun hd => absurd hd (by rw [hal]; decide)) fun _ _ _ _ w' hS k => ?_
  obtain ⟨s', a1, a2, a3, a4⟩ := rebS_ok hi h.good (by omega) hal hm hn hl
  have a1' : rebS (SB.mk m g bks).g s i mk n 0 = (min (g.c * g.s) (mk + n), 0, s') := a1
  rw [a1'] at hS ⊢
  exact hK w' s' ⟨hS, h.st.disks' k, a2⟩ a3 a4 k
end calls
end Go.Proofs

namespace Go.Proofs
open Go Go.Ev
set_option linter.unusedSimpArgs false
set_option linter.unusedVariables false
set_option maxRecDepth 100000
def V2 (g : Geo) (s : SS) (x y : Int) : Prop := ∀ j a, (0 ≤ j ∧ j < g.d) → (0 ≤ a ∧ a < g.c * g.s) → viewS s j a = none → j = x ∨ j = y
theorem V2.lost {g : Geo} (hg : GeoOk g) {s : SS} {x y : Int} (h : V2 g s x y) (st off : Int) (hst : 0 ≤ st ∧ st < g.s) (hof : 0 ≤ off ∧ off < g.c) : lostN (colsS g s st off) ≤ 2 :=
  lost_two hg hst hof x y fun k hk hv => by
    obtain ⟨pk1, pk2⟩ := plcP_ok hg hst hof (k : Int)
    exact h _ _ pk1 pk2 hv
theorem V2.fail {g : Geo} {s : SS} (hs : SsOk g s) {x y : Int} (h : V2 g s x x) (hy : 0 ≤ y ∧ y < g.d) : V2 g (failS s y) x y := fun j a hj ha hv => by
  rw [failS_view hy.1 (by have := hs.num; omega) hj.1] at hv
  split at hv
  · exact Or.inr ‹_›
  · exact Or.inl ((h j a hj ha hv).elim id id)
end Go.Proofs

namespace Go.Proofs
open Go Go.Ev
set_option linter.unusedSimpArgs false
set_option linter.unusedVariables false
set_option maxRecDepth 100000

/-- a put while the power holds, with room -/
theorem putP_lit {room sz : Int} {s : PS} {f : Bool} {lba : Int} {d : Sec} (hl : Lit0 s.pw) (hs0 : 0 ≤ s.pw.steps) (hs1 : s.pw.steps < 10000000000000) (hl0 : 0 ≤ s.last) (hl1 : s.last < 1000000000000) (h0 : 0 ≤ lba) (h1 : lba ≤ 100000) (hup : (cond f s.ub s.ua) = true)
    (hroom : mlook s.es lba = none → (s.es.length : Int) < room) (hver : ∀ e, mlook s.es lba = some e → e.2 ≤ s.last) (ha : 100 ≤ sz - (s.xa.length : Int)) (hb : 100 ≤ sz - (s.xb.length : Int)) :
    ∃ M : MS, LitM sz ((upS s f).length : Int) ⟨s.pw, s.xa, s.xb⟩ M ∧ putP room sz s f lba d = ((s.last + 1, 0), { s with last := s.last + 1, pw := M.pw, xa := M.xa, xb := M.xb, es := ins s.es lba (d, s.last + 1) }) := by
  have hlu := len_upS s f
  have hv : IntKind.wrap .u64 (s.last + 1) = s.last + 1 := wrapU64 (by omega) (by omega)
  have hpe : putE room s.es lba (s.last + 1) = 0 := by
    unfold putE
    rw [if_neg (by omega)]
    cases hm : mlook s.es lba with
    | none => simp only; rw [if_neg (by have := hroom hm; omega)]
    | some e => simp only; rw [if_neg (by have := hver e hm; omega)]
  obtain ⟨m1, m2⟩ := eachM_lit (sz := sz) (x := ⟨1, s.last + 1, lba, d⟩) (upS s f) ⟨s.pw, s.xa, s.xb⟩ hl hs0 (by show s.pw.steps + _ < _; omega) (by show _ ≤ sz - (s.xa.length : Int); omega) (by show _ ≤ sz - (s.xb.length : Int); omega)
  refine ⟨_, m2, ?_⟩
  unfold putP
  rw [if_neg (by omega), if_neg (by rw [hup]; decide), if_neg (by rintro ⟨e1, e2⟩; have := hroom e1; omega)]
  simp only [hv]
  unfold eachP
  rw [eachS_eq]
  have hu : upS { s with last := s.last + 1 } f = upS s f := rfl
  rw [hu]
  simp only [m1, hpe]
  rfl
/-- a set with power, whose keys are at most ep, that holds what was written -/
structure GoodE (g : Geo) (s : SS) (now : Int → Sec) (ep : Int) : Prop where
  ss : SsOk g s
  lit : Lit0 s.pw
  key : ∀ i : Nat, (s.ds.getD i dsk0).key ≤ ep
  inv : Inv g s now
  nok : ∀ l, SecOk (now l)
  st0 : 0 ≤ s.pw.steps
theorem GoodE.pow {g : Geo} {s : SS} {now : Int → Sec} {ep : Int} (h : GoodE g s now ep) {pw : Pow} (hl : Lit0 pw) (h0 : 0 ≤ pw.steps) : GoodE g ⟨s.ds, pw⟩ now ep :=
  ⟨⟨h.ss.geo, h.ss.num, h.ss.len, h.ss.ok⟩, hl, h.key, h.inv.see h.ss.geo (fun _ _ _ _ => rfl), h.nok, h0⟩
theorem GoodE.good {g : Geo} {s : SS} {now : Int → Sec} (h : GoodE g s now 0) : Good g s now s.pw.steps := ⟨h.ss, h.lit, h.key, h.inv, h.nok, h.st0, Int.le_refl _⟩
theorem Good.toE {g : Geo} {s : SS} {now : Int → Sec} {N : Int} (h : Good g s now N) : GoodE g s now 0 := ⟨h.ss, h.lit, h.key, h.inv, h.nok, h.st0⟩
structure Qv (q : AB) (s : AS) (fin : Int → Sec) (ep x y : Int) : Prop where
  good : ∃ now, GoodE q.g s.ss now ep ∧ ∀ l, mlook s.ps.es l = none → now l = fin l
  v2 : V2 q.g s.ss x y
  es : ∀ l e, mlook s.ps.es l = some e → (0 ≤ l ∧ l < capG20 q.g) ∧ e.1 = fin l ∧ 0 ≤ e.2 ∧ e.2 ≤ s.ps.last
  nd : (s.ps.es.map (·.1)).Nodup
  last : 0 ≤ s.ps.last
  fok : ∀ l, SecOk (fin l)
theorem Qv.read {q : AB} {s : AS} {fin : Int → Sec} {ep x y : Int} (h : Qv q s fin ep x y) {l : Int} (h0 : 0 ≤ l) (h1 : l < capG20 q.g) : readA q s l = (fin l, 0) := by
  unfold readA getV
  cases hl : mlook s.ps.es l with
  | some e => simp only [if_pos]; rw [(h.es l e hl).2.1]
  | none =>
    simp only
    rw [if_neg (by decide)]
    obtain ⟨now, hg, hf⟩ := h.good
    obtain ⟨pst, pco, pof⟩ := spotP_ok hg.ss.geo h0 h1
    rcases hg.inv.read hg.ss.geo hg.nok hg.lit.1 h0 h1 with e | ⟨_, e, _⟩
    · rw [e, hf l hl]
    · exact absurd (h.v2.lost hg.ss.geo _ _ pst pof) e
theorem Qv.put {q : AB} {s : AS} {fin : Int → Sec} {ep x y : Int} (h : Qv q s fin ep x y) {f : Bool} {lba : Int} {d : Sec} (hd : SecOk d) (h0 : 0 ≤ lba) (h1 : lba < capG20 q.g) (hup : (cond f s.ps.ub s.ps.ua) = true)
    (hroom : mlook s.ps.es lba = none → (s.ps.es.length : Int) < q.pb.room) (hst : s.ps.pw.steps < 10000000000000) (hla : s.ps.last < 1000000000000) (ha : 100 ≤ q.pb.sz - (s.ps.xa.length : Int)) (hb : 100 ≤ q.pb.sz - (s.ps.xb.length : Int)) (hcap : capG20 q.g ≤ 100000) :
    (putP q.pb.room q.pb.sz s.ps f lba d).1.2 = 0 ∧ Qv q { s with ps := (putP q.pb.room q.pb.sz s.ps f lba d).2 } (upd fin lba d) ep x y ∧ Cost s { s with ps := (putP q.pb.room q.pb.sz s.ps f lba d).2 } ((upS s.ps f).length : Int) 74 ∧
      (putP q.pb.room q.pb.sz s.ps f lba d).2.es = ins s.ps.es lba (d, s.ps.last + 1) := by
  obtain ⟨now, hg, hf⟩ := h.good
  have hs0 : 0 ≤ s.ps.pw.steps := hg.st0
  have hl0 := h.last
  have hlu := len_upS s.ps f
  obtain ⟨M, m, hput⟩ := putP_lit (room := q.pb.room) (sz := q.pb.sz) (d := d) hg.lit hs0 hst hl0 hla h0 (by omega) hup hroom (fun e he => (h.es lba e he).2.2.2) ha hb
  rw [hput]
  have m3 : M.pw.steps = s.ps.pw.steps + ((upS s.ps f).length : Int) := m.steps
  have m4 : (M.xa.length : Int) ≤ (s.ps.xa.length : Int) + 37 * ((upS s.ps f).length : Int) := m.a
  have m5 : (M.xb.length : Int) ≤ (s.ps.xb.length : Int) + 37 * ((upS s.ps f).length : Int) := m.b
  refine ⟨rfl, ⟨⟨now, hg.pow (pw := M.pw) m.lit (by omega), fun l hl => ?_⟩, h.v2, fun l e hl => ?_, keys_nodup_ins h.nd _ _, by show 0 ≤ s.ps.last + 1; omega, upd_ok h.fok hd lba⟩, ⟨m3, by show (M.xa.length : Int) ≤ _; omega, by show (M.xb.length : Int) ≤ _; omega, rfl, rfl, rfl⟩, rfl⟩
  · have hl : mlook (ins s.ps.es lba (d, s.ps.last + 1)) l = none := hl
    rw [look_ins] at hl
    split at hl
    · cases hl
    · rename_i hne
      unfold upd
      rw [if_neg hne, hf l hl]
  · have hl : mlook (ins s.ps.es lba (d, s.ps.last + 1)) l = some e := hl
    rw [look_ins] at hl
    unfold upd
    split at hl
    · rename_i he
      cases hl
      subst he
      exact ⟨⟨h0, h1⟩, by rw [if_pos rfl], by show 0 ≤ s.ps.last + 1; omega, by show s.ps.last + 1 ≤ s.ps.last + 1; omega⟩
    · rename_i hne
      obtain ⟨e1, e2, e3, e4⟩ := h.es l e hl
      exact ⟨e1, by rw [if_neg hne]; exact e2, e3, by show e.2 ≤ s.ps.last + 1; omega⟩
end Go.Proofs

namespace Go.Proofs
open Go Go.Ev
set_option linter.unusedSimpArgs false
set_option linter.unusedVariables false
set_option maxRecDepth 100000

theorem getD_mapA {s : SS} {f : Dsk → Dsk} {pw : Pow} (i : Nat) : (SS.mk (s.ds.map f) pw).ds.getD i dsk0 = if i < s.ds.length then f (s.ds.getD i dsk0) else dsk0 := by
  simp only
  rw [List.getD_eq_getElem?_getD, List.getElem?_map, List.getD_eq_getElem?_getD]
  by_cases h : i < s.ds.length
  · rw [if_pos h, List.getElem?_eq_getElem h]; rfl
  · rw [if_neg h, List.getElem?_eq_none (by omega)]; rfl
theorem fence_view (s : SS) (e : Int) (i a : Int) : viewS (fenceS s e).2 i a = viewS s i a := by
  unfold fenceS
  split
  · rfl
  · show viewS ⟨s.ds.map fun D => (fenceD s.pw D e).2, s.pw⟩ i a = _
    unfold viewS
    rw [getD_mapA]
    split
    · unfold cellD
      rw [fenceD_len]
      have : (fenceD s.pw (s.ds.getD i.toNat dsk0) e).2.dead = (s.ds.getD i.toNat dsk0).dead := by
        unfold fenceD
        split
        · rfl
        · split <;> rfl
      rw [this]
    · rename_i h
      rw [List.getD_eq_getElem?_getD, List.getElem?_eq_none (by omega)]; rfl
theorem fence_dead (s : SS) (e : Int) (i : Int) : deadS (fenceS s e).2 i = deadS s i := by
  unfold fenceS
  split
  · rfl
  · show deadS ⟨s.ds.map fun D => (fenceD s.pw D e).2, s.pw⟩ i = _
    unfold deadS
    rw [getD_mapA]
    split
    · unfold fenceD
      split
      · rfl
      · split <;> rfl
    · rename_i h
      rw [List.getD_eq_getElem?_getD, List.getElem?_eq_none (by omega)]; rfl
theorem fence_ok {g : Geo} {s : SS} (h : SsOk g s) {e : Int} (he : 0 ≤ e ∧ e ≤ 4294967295) : SsOk g (fenceS s e).2 := by
  unfold fenceS
  split
  · exact h
  · refine ⟨h.geo, by simpa using h.num, fun D hD => ?_, fun D hD => ?_⟩
    · obtain ⟨E, hE, rfl⟩ := List.mem_map.1 hD
      rw [fenceD_len]
      exact h.len E hE
    · obtain ⟨E, hE, rfl⟩ := List.mem_map.1 hD
      exact fenceD_ok (h.ok E hE) he
theorem fence_key {s : SS} {e : Int} (h0 : 0 ≤ e) (h : ∀ i : Nat, (s.ds.getD i dsk0).key ≤ e) (i : Nat) : ((fenceS s e).2.ds.getD i dsk0).key ≤ e := by
  unfold fenceS
  split
  · exact h i
  · show ((SS.mk (s.ds.map fun D => (fenceD s.pw D e).2) s.pw).ds.getD i dsk0).key ≤ e
    rw [getD_mapA]
    split
    · have := h i
      unfold fenceD
      split
      · exact this
      · split
        · exact this
        · show max _ _ ≤ e
          omega
    · exact h0
theorem keyL_le {e : Int} : ∀ (l : List Dsk) (k : Int), k ≤ e → (∀ D ∈ l, D.key ≤ e) → keyL k l ≤ e
  | [], k, hk, _ => hk
  | D :: l, k, hk, h => by
    show keyL (if D.dead = true then k else max k D.key) l ≤ e
    refine keyL_le l _ ?_ fun E hE => h E (by simp [hE])
    have := h D (by simp)
    split <;> omega
theorem keyS_le {s : SS} {e : Int} (h0 : 0 ≤ e) (h : ∀ i : Nat, (s.ds.getD i dsk0).key ≤ e) : keyS s ≤ e := by
  refine keyL_le _ _ h0 fun D hD => ?_
  obtain ⟨i, hi, rfl⟩ := List.mem_iff_getElem.1 hD
  have := h i
  rw [List.getD_eq_getElem?_getD, List.getElem?_eq_getElem hi] at this
  exact this
theorem keyS_nn (s : SS) : 0 ≤ keyS s := by
  have : ∀ (l : List Dsk) (k : Int), 0 ≤ k → 0 ≤ keyL k l := by
    intro l
    induction l with
    | nil => intro k h; exact h
    | cons D l ih =>
      intro k h
      show 0 ≤ keyL (if D.dead = true then k else max k D.key) l
      refine ih _ ?_
      split <;> omega
  exact this _ _ (by decide)
theorem Qt.ready {q : AB} {s : AS} {fin : Int → Sec} {f : Bool} (h : Qt q s fin (epA s f)) (hl : livesA s f = true) (he : 0 ≤ epA s f) : readyA s f = true := by
  unfold readyA
  rw [h.lit.1, hl, decide_eq_true (keyS_le (s := s.ss) he h.key)]
  rfl
/-- the side stands alone -/
theorem Qt.alone {q : AB} {s : AS} {fin : Int → Sec} {f : Bool} (h : Qt q s fin (epA s f)) (hua : s.ps.ua = true) (hub : s.ps.ub = true) (he : 0 ≤ epA s f) (he2 : epA s f < 1000000) (hst : s.ps.pw.steps < 10000000000) (ha : 100 ≤ q.pb.sz - (s.ps.xa.length : Int)) (hb : 100 ≤ q.pb.sz - (s.ps.xb.length : Int)) :
    (aloneA q s f).1 = 0 ∧ Qt q (aloneA q s f).2 fin (epA (aloneA q s f).2 f) ∧ (aloneA q s f).2.ps.pw.steps = s.ps.pw.steps + 1 ∧ (aloneA q s f).2.ps.es = s.ps.es ∧ upS (aloneA q s f).2.ps f = [f] ∧ upA (aloneA q s f).2 (!f) = false ∧ (aloneA q s f).2.ps.last = s.ps.last ∧ (aloneA q s f).2.d = s.d ∧
      (∀ g, livesA (aloneA q s f).2 g = livesA s g) ∧ 0 ≤ epA (aloneA q s f).2 f ∧ ((aloneA q s f).2.ps.xa.length : Int) ≤ (s.ps.xa.length : Int) + 74 ∧ ((aloneA q s f).2.ps.xb.length : Int) ≤ (s.ps.xb.length : Int) + 74 := by
  have hkn := keyS_nn s.ss
  have hkl := keyS_le (s := s.ss) he h.key
  have hmx : max (epA s f) (keyS s.ss) = epA s f := by omega
  have hside : sideOk (sideN f) := by cases f <;> first | exact side0 | exact side1
  obtain ⟨e, hA, hE1, hE2⟩ : ∃ e, afterS (max (epA s f) (keyS s.ss)) (sideN f) = (e, 0) ∧ epA s f < e ∧ e ≤ epA s f + 2 := by
    rw [hmx]
    unfold afterS
    rw [if_neg (by simpa using hside)]
    simp only
    generalize hx : (if (epA s f + 1) % 2 = sideN f then epA s f + 1 else epA s f + 2) = x
    have hx2 : epA s f < x ∧ x ≤ epA s f + 2 := by rw [← hx]; split <;> omega
    rw [if_neg (by omega)]
    exact ⟨x, rfl, hx2⟩
  have hlv : leaveP s.ps (!f) = (0, downS s.ps (!f) false) := by
    unfold leaveP
    rw [if_neg (by rw [hua, hub]; decide)]
  obtain ⟨M, hM, m1, m2, m3, m4, m5⟩ : ∃ M : Int × MS, eachP q.pb.sz ⟨6, IntKind.wrap .u64 e, 0, sec []⟩ false (downS s.ps (!f) false) = (M.1, { downS s.ps (!f) false with pw := M.2.pw, xa := M.2.xa, xb := M.2.xb }) ∧ M.1 = 0 ∧ Lit0 M.2.pw ∧ M.2.pw.steps = s.ps.pw.steps + 1 ∧ (M.2.xa.length : Int) ≤ (s.ps.xa.length : Int) + 74 ∧ (M.2.xb.length : Int) ≤ (s.ps.xb.length : Int) + 74 := by
    have hu : (upS (downS s.ps (!f) false) false).length = 1 := by
      unfold upS downS
      cases f <;> simp [hua, hub]
    obtain ⟨m1, m2, m3, m4, m5⟩ := eachM_lit (sz := q.pb.sz) (x := ⟨6, IntKind.wrap .u64 e, 0, sec []⟩) (upS (downS s.ps (!f) false) false) ⟨s.ps.pw, s.ps.xa, s.ps.xb⟩ h.lit h.stp (by rw [hu]; show s.ps.pw.steps + _ < _; omega) (by rw [hu]; show _ ≤ q.pb.sz - (s.ps.xa.length : Int); omega) (by rw [hu]; show _ ≤ q.pb.sz - (s.ps.xb.length : Int); omega)
    rw [hu] at m3 m4 m5
    refine ⟨_, eachS_eq _ _, m1, m2, m3, ?_, ?_⟩
    · exact Int.le_trans m4 (by show (s.ps.xa.length : Int) + _ ≤ _; omega)
    · exact Int.le_trans m5 (by show (s.ps.xb.length : Int) + _ ≤ _; omega)
  have hstamp : stampP q.pb.sz (downS s.ps (!f) false) e = (0, { downS s.ps (!f) false with pw := M.2.pw, xa := M.2.xa, xb := M.2.xb, epoch := e }) := by
    unfold stampP
    rw [hM]
    simp only
    rw [if_neg (by simp [m1])]
  have hAl : aloneA q s f = (0, setEpA { setUpA { s with ps := downS s.ps (!f) false } (!f) false with ps := { downS s.ps (!f) false with pw := M.2.pw, xa := M.2.xa, xb := M.2.xb, epoch := e }, ds := (fenceS ⟨s.ds, M.2.pw⟩ e).2.ds } f e) := by
    unfold aloneA
    rw [hA, hlv]
    simp only
    rw [if_neg (by decide)]
    have : (setUpA { s with ps := downS s.ps (!f) false } (!f) false).ps = downS s.ps (!f) false := rfl
    rw [this, hstamp]
    rw [if_neg (by simp)]
    rfl
  rw [hAl]
  have hep : epA (setEpA { setUpA { s with ps := downS s.ps (!f) false } (!f) false with ps := { downS s.ps (!f) false with pw := M.2.pw, xa := M.2.xa, xb := M.2.xb, epoch := e }, ds := (fenceS ⟨s.ds, M.2.pw⟩ e).2.ds } f e) f = e := by cases f <;> rfl
  have hss : (⟨(fenceS ⟨s.ds, M.2.pw⟩ e).2.ds, M.2.pw⟩ : SS) = (fenceS ⟨s.ds, M.2.pw⟩ e).2 := by
    have := fence_pw ⟨s.ds, M.2.pw⟩ e
    generalize fenceS ⟨s.ds, M.2.pw⟩ e = z at *
    obtain ⟨z1, ⟨zd, zp⟩⟩ := z
    simp only at this
    subst this
    rfl
  have hok := fence_ok (s := ⟨s.ds, M.2.pw⟩) ⟨h.ss.geo, h.ss.num, h.ss.len, h.ss.ok⟩ (e := e) ⟨by omega, by omega⟩
  have hv := fence_view ⟨s.ds, M.2.pw⟩ e
  have hdd := fence_dead ⟨s.ds, M.2.pw⟩ e
  have hk := fence_key (s := ⟨s.ds, M.2.pw⟩) (e := e) (by omega) (fun i => Int.le_trans (h.key i) (by omega))
  rw [← hss] at hok hv hdd
  obtain ⟨now, hi, hn, hf⟩ := h.now
  have hs0 := h.stp
  rw [hep]
  refine ⟨rfl, ⟨hok, m2, by show 0 ≤ M.2.pw.steps; omega, ⟨now, hi.see h.ss.geo fun i a _ _ => hv i a, hn, hf⟩, h.es, h.nd, h.last, h.fok, hk, fun i => by rw [← h.alive i]; exact hdd i, fun i a hi' ha' => by
    have := h.view i a hi' ha'
    intro hx
    exact this (by rw [← hx]; exact (hv i a).symm)⟩, m3, rfl, ?_, by cases f <;> rfl, rfl, rfl, fun g => by cases f <;> cases g <;> rfl, by omega, m4, m5⟩
  show upS { downS s.ps (!f) false with pw := M.2.pw, xa := M.2.xa, xb := M.2.xb, epoch := e } f = [f]
  unfold upS downS
  cases f <;> simp [hua, hub]
end Go.Proofs

namespace Go.Proofs
open Go Go.Ev
set_option linter.unusedSimpArgs false
set_option linter.unusedVariables false
set_option maxRecDepth 100000

theorem gate_ok {d : Dk} {cap init : Int} {c : Cmd} (hk : ¬ c.k = 4) (h : (gateD d cap init c).2 = false) : 1 ≤ cntC c ∧ cntC c ≤ 8 ∧ 0 ≤ c.lba ∧ c.lba + cntC c ≤ cap := by
  unfold gateD at h
  split at h
  · cases h
  · rename_i h1
    have h2 : cdE c cap = 0 := Classical.byContradiction fun e => h1 (Or.inr (Or.inr e))
    unfold cdE at h2
    rw [if_neg hk] at h2
    split at h2
    · cases h2
    · rename_i h3
      refine ⟨?_, ?_, ?_, ?_⟩ <;> omega
section calls
variable {w w0 : World} {q : AB} {s : AS} {b b1 : Nat} {c : Cmd} {R : Value → World → Prop}
theorem DoSt.grow (h : DoSt w0 w q s b b1 c) {w' : World} {p : Option Addr} {l cc : Nat} {xs : List Sec} (o : OwnL secLay w w0.heap.size 37 p l cc xs) (k : Keep (fun k => p = some ⟨k, 0, none⟩) w w') : DoSt w0 w' q s b b1 c := by
  cases p with
  | none => exact h.keep0 (k.mono fun i e => by cases e)
  | some a =>
    obtain ⟨b', cur, h0, hb', hg, _⟩ := (Own.cases o).resolve_left (by rintro ⟨e, _⟩; cases e)
    cases h0
    refine h.tmp hg (Or.inl rfl) hb' (fun e => ?_) (k.mono fun i e => by cases e; rfl)
    subst e
    have := hg.inj h.rep
    simp only [Obj.cells.injEq] at this
    exact absurd this.2.1 (by decide)
def readsA (q : AB) (s : AS) (lba : Int) (n : Nat) : List Sec := (List.range n).map fun (k : Nat) => (readA q s (lba + (k : Int))).1
theorem readsA_succ (q : AB) (s : AS) (lba : Int) (n : Nat) : readsA q s lba (n + 1) = readsA q s lba n ++ [(readA q s (lba + (n : Int))).1] := by
  unfold readsA; rw [List.range_succ, List.map_append]; rfl
theorem ar_DoRead (h : ArAt w q 0 s) (f : Bool) {init : Int} (hk : c.k = 2) (hr : readyA s f = true) {s' : AS} (hd : s'.d = s.d) (ha : ∀ (w1 : World) (R1 : Value → World → Prop), ArAt w1 q 1 s → (∀ w2, ArAt w2 q 1 s' → Keep (ArF q w1) w1 w2 → R1 (.int .i64 0) w2) → CallV Tryz.prog 79 #[.pointer (some ⟨q.a, 0, none⟩), .int .i64 (sideN f)] w1 R1)
    (hg : (gateD s.d ((q.g.d - 2) * q.g.c * q.g.s) init c).2 = false) (hok : ∀ D ∈ s'.ds, DskOk D) (hgood : ∀ k : Nat, (k : Int) < c.n → (readA q s' (c.lba + (k : Int))).2 = 0)
    (hK : ∀ p cc w', ArAt w' q 0 s' → Keep (ArF q w) w w' → OwnL secLay w' w.heap.size 37 p c.n.toNat cc (readsA q s' c.lba c.n.toNat) → R (.agg (repC 1 0 p c.n.toNat cc)) w') :
    CallV Tryz.prog 16 #[.pointer (some ⟨q.a, 0, none⟩), .int .i64 (sideN f), .int .i64 init, .agg (cmdC c)] w R := by
  refine ar_DoOpen h f (Or.inl hk) hr hd ha (fun ht => by rw [hg] at ht; cases ht) fun _ b b1 w1 hS => ?_
  obtain ⟨g1, g2, g3, g4⟩ := gate_ok (by omega) hg
  have hn : cntC c = c.n := by unfold cntC; rw [if_pos hk]
  rw [hn] at g1 g2 g4
  clear hn
  have hcap : 2 ≤ (q.g.d - 2) * q.g.c * q.g.s ∧ (q.g.d - 2) * q.g.c * q.g.s ≤ 15360 := h.set.geo.cap
  unfold DoBody
  refine DoQ_of (fun _ => bld_rep1 1 _) (OpA_agg.2 ⟨rfl, ?_⟩)
  refine alc_fresh fun w2 hb2 k2 z2 => ?_
  rw [zc_rep] at hb2
  have hS2 := hS.keep0 k2
  have hne : w1.heap.size ≠ b1 := fun e => by have := hS.rep.lt; omega
  have hlo : w.heap.size ≤ w1.heap.size := hS.keep.size
  refine StA_all hb2 rfl rfl (one_repC _ _ _ _ _) ?_
  have hS3 := hS2.tmp hb2 (Or.inr rfl) hlo hne (Keep.one _ _ (.cells (repC 1 0 none 0 0) 34 (0, 0)))
  have hb3 := hb2.upd_same (.cells (repC 1 0 none 0 0) 34 (0, 0))
  clear hS2 hb2 k2
  generalize w2.upd w1.heap.size (.cells (repC 1 0 none 0 0) 34 (0, 0)) = w3 at *
  generalize w1.heap.size = b7 at *
  refine LdV_has (v := .int .i64 c.k) hS3.cmd rfl (OpI_int.2 ?_)
  rw [hk]
  refine ⟨fun _ w' => ∃ p cc, Has w' b7 (.cells (repC 1 0 p c.n.toNat cc) 34 (0, 0)) ∧ OwnL secLay w' w.heap.size 37 p c.n.toNat cc (readsA q s' c.lba c.n.toNat) ∧ DoSt w w' q s' b b1 c, ?_, ?_⟩
  · refine (Cb_true (q := _)).2 ?_
    refine LdV_has (v := .int .i64 c.n) hS3.cmd rfl (OpI_int.2 ?_)
    refine LoopC_of (σ := Int × Unit) (fun st w' => ∃ (k : Nat) (p : Option Addr) (cc : Nat), st.1 = (k : Int) ∧ (k : Int) ≤ c.n ∧ Has w' b7 (.cells (repC 1 0 p k cc) 34 (0, 0)) ∧ OwnL secLay w' w.heap.size 37 p k cc (readsA q s' c.lba k) ∧ DoSt w w' q s' b b1 c) (fun st _ => (c.n - st.1).toNat)
      ⟨0, none, 0, rfl, by omega, hb3, OwnL.nil, hS3⟩ ?_
    clear hS3 hb3 hS
    rintro _ ⟨i, u⟩ w4 ⟨k, p, cc, hi, hkn, hb4, o4, hS4⟩
    simp only at hi ⊢
    subst hi
    refine Cb_of (fun hc => ?_) (fun hc => ?_)
    · have hc : (k : Int) < c.n := by simpa using hc
      refine LdV_has (v := .int .i64 c.lba) hS4.cmd rfl (OpI_int.2 ?_)
      rw [wrapI (by omega) (by omega)]
      refine ar_read hS4.ar hok (by omega) (by omega) fun w5 k5 => ?_
      rw [hgood k hc]
      refine T2_mk.2 (OpA_agg.2 ⟨rfl, OpI_int.2 ?_⟩)
      refine alc_fresh fun w6 hb6 k6 z6 => ?_
      have k46 := k5.trans k6
      have hS6 := hS4.keep0 k46
      have hne5 : w5.heap.size ≠ b1 := fun e => by have := (hS4.keep0 k5).rep.lt; omega
      have hlo5 : w.heap.size ≤ w5.heap.size := (hS4.keep0 k5).keep.size
      have hb46 := k46.has hb4 (by simp)
      have h75 : w5.heap.size ≠ b7 := fun e => by have := (k5.has hb4 (by simp)).lt; omega
      refine StA_all hb6 rfl (by rw [zc_sec]; rfl) (one_secV _) ?_
      have ku := Keep.one w6 w5.heap.size (.cells (secV (readA q s' (c.lba + (k : Int))).1) 37 (0, 0))
      have hS7 := hS6.tmp hb6 (Or.inl rfl) hlo5 hne5 ku
      have hb7 := hb6.upd_same (.cells (secV (readA q s' (c.lba + (k : Int))).1) 37 (0, 0))
      have hr7 := ku.has hb46 (fun e => h75 e.symm)
      have o7 := (o4.keep k46 (by simp)).keep ku fun x hx e => by
        have := (o4.keep k5 (by simp)).lt hx
        omega
      clear ku hS6 hb46 hb6
      generalize w6.upd w5.heap.size (.cells (secV (readA q s' (c.lba + (k : Int))).1) 37 (0, 0)) = w7 at *
      refine (Cb_false (p := _)).2 ?_
      refine LdV_has (v := .slice p k cc) hr7 rfl (OpS_slice.2 ?_)
      refine LdA_all hb7 rfl ?_
      refine ⟨_, _, bsl_s1 _ w7, OpS_slice.2 ?_⟩
      have k8 : Keep (fun _ => False) w7 (w7.alloc (.cells (secV (readA q s' (c.lba + (k : Int))).1) 37)) := Keep.new _ _ _
      have hb8 : Has (w7.alloc (.cells (secV (readA q s' (c.lba + (k : Int))).1) 37)) w7.heap.size (.cells (secV (readA q s' (c.lba + (k : Int))).1) 37 (0, 0)) := Has.new _ _
      generalize w7.alloc (.cells (secV (readA q s' (c.lba + (k : Int))).1) 37) = w8 at *
      have hS8 := hS7.keep0 k8
      have hr8 := k8.has hr7 (by simp)
      have o8 := o7.keep k8 (by simp)
      obtain ⟨p9, c9, w9, hr, o9, k9, _⟩ := run_appendF1 secLayT o8 (y := (readA q s' (c.lba + (k : Int))).1) hb8 (by show secV _ = ((secV _).toList).toArray; simp) (ty := 32) (by omega) (by simp only [maxLen]; omega) hS8.keep.size (c2 := 1)
      refine ⟨_, _, hr, OpS_slice.2 ?_⟩
      have hS9 := hS8.grow o8 k9
      have hr9 := k9.has hr8 fun e => by
        obtain ⟨_, cur, hh⟩ := own_has o8 _ _ e
        have := hh.inj hr8
        simp only [Obj.cells.injEq] at this
        exact absurd this.2.1 (by decide)
      refine StV_of hr9 (by show 2 < 3; decide) rfl ?_
      have ku := Keep.one w9 b7 (.cells ((repC 1 0 p k cc).setIfInBounds 2 (.slice p9 (k + 1) c9)) 34 (0, 0))
      have hS10 := hS9.tmp hr9 (Or.inr rfl) hlo hne ku
      have hr10 := hr9.upd_same (.cells (repC 1 0 p9 (k + 1) c9) 34 (0, 0))
      have o10 := o9.keep ku fun x hx e => by
        obtain ⟨_, cur, hh⟩ := own_has o9 _ _ hx
        subst e
        have := hh.inj hr9
        simp only [Obj.cells.injEq] at this
        exact absurd this.2.1 (by decide)
      rw [wrapI (by omega) (by omega)]
      refine ⟨_, ?_, ⟨k + 1, p9, c9, by show (k : Int) + 1 = ((k + 1 : Nat) : Int); omega, by omega, hr10, by rw [readsA_succ]; exact o10, hS10⟩, rfl⟩
      show (c.n - ((k : Int) + 1)).toNat < (c.n - (k : Int)).toNat
      omega
    · have hc : ¬ (k : Int) < c.n := by simpa using hc
      have e : c.n.toNat = k := by omega
      rw [e]
      exact ⟨p, cc, hb4, o4, hS4⟩
  rintro _ _ w4 ⟨p, cc, hb4, o4, hS4⟩
  refine LdA_all hb4 rfl ?_
  refine doEnd hS4 rfl (one_repC _ _ _ _ _) fun w5 h5 k5 kk => hK p cc w5 h5 k5 (o4.keep kk fun x hx e => ?_)
  obtain ⟨_, cur, hh⟩ := own_has o4 _ _ hx
  rcases e with e | e
  · subst e
    have := hh.inj hS4.rep
    simp only [Obj.cells.injEq] at this
    exact absurd this.2.1 (by decide)
  · subst e
    have := hh.inj hS4.ar.cells
    simp only [Obj.cells.injEq] at this
    exact absurd this.2.1 (by decide)
theorem ar_DoWrite (h : ArAt w q 0 s) (f : Bool) {init : Int} (hk : c.k = 3) (hr : readyA s f = true) {s' : AS} (hd : s'.d = s.d) (ha : ∀ (w1 : World) (R1 : Value → World → Prop), ArAt w1 q 1 s → (∀ w2, ArAt w2 q 1 s' → Keep (ArF q w1) w1 w2 → R1 (.int .i64 0) w2) → CallV Tryz.prog 79 #[.pointer (some ⟨q.a, 0, none⟩), .int .i64 (sideN f)] w1 R1)
    (hg : (gateD s.d ((q.g.d - 2) * q.g.c * q.g.s) init c).2 = false) {xs : List Sec} (hlen : c.dl = xs.length) (hx : ∀ w', Keep (ArF q w) w w' → SlL secLay w' c.dp c.dl xs) (Iv : Nat → AS → Prop) (Bad : AS → Prop) (h0 : Iv 0 s')
    (hstep : ∀ (k : Nat) (x : Sec) (s1 : AS) (w1 : World) (R1 : Value → World → Prop), xs[k]? = some x → Iv k s1 → ArAt w1 q 1 s1 → (∀ e s2 w2, ArAt w2 q 1 s2 → Keep (ArF q w1) w1 w2 → (e = 0 ∧ Iv (k + 1) s2 ∨ e ≠ 0 ∧ Bad s2) → R1 (.int .i64 e) w2) →
      CallV Tryz.prog 82 #[.pointer (some ⟨q.a, 0, none⟩), .int .i64 (sideN f), .int .i64 (c.lba + (k : Int)), .agg (secV x)] w1 R1)
    (hK : ∀ s' w', Iv xs.length s' → ArAt w' q 0 s' → Keep (ArF q w) w w' → R (.agg (repC 1 0 none 0 0)) w')
    (hB : ∀ s' w', Bad s' → ArAt w' q 0 s' → Keep (ArF q w) w w' → R (.agg (if s'.ps.pw.on = true then repC 2 13 none 0 0 else repC 0 0 none 0 0)) w') :
    CallV Tryz.prog 16 #[.pointer (some ⟨q.a, 0, none⟩), .int .i64 (sideN f), .int .i64 init, .agg (cmdC c)] w R := by
  refine ar_DoOpen h f (Or.inr (Or.inl hk)) hr hd ha (fun ht => by rw [hg] at ht; cases ht) fun _ b b1 w1 hS => ?_
  obtain ⟨g1, g2, g3, g4⟩ := gate_ok (by omega) hg
  have hn : cntC c = (c.dl : Int) := by unfold cntC; rw [if_neg (by omega)]
  rw [hn] at g1 g2 g4
  clear hn
  have hcap : 2 ≤ (q.g.d - 2) * q.g.c * q.g.s ∧ (q.g.d - 2) * q.g.c * q.g.s ≤ 15360 := h.set.geo.cap
  unfold DoBody
  refine DoQ_of (fun _ => bld_rep1 1 _) (OpA_agg.2 ⟨rfl, ?_⟩)
  refine alc_fresh fun w2 hb2 k2 z2 => ?_
  rw [zc_rep] at hb2
  have hS2 := hS.keep0 k2
  have hne : w1.heap.size ≠ b1 := fun e => by have := hS.rep.lt; omega
  have hlo : w.heap.size ≤ w1.heap.size := hS.keep.size
  refine StA_all hb2 rfl rfl (one_repC _ _ _ _ _) ?_
  have hS3 := hS2.tmp hb2 (Or.inr rfl) hlo hne (Keep.one _ _ (.cells (repC 1 0 none 0 0) 34 (0, 0)))
  have hb3 := hb2.upd_same (.cells (repC 1 0 none 0 0) 34 (0, 0))
  clear hS2 hb2 k2
  generalize w2.upd w1.heap.size (.cells (repC 1 0 none 0 0) 34 (0, 0)) = w3 at *
  generalize w1.heap.size = b7 at *
  refine LdV_has (v := .int .i64 c.k) hS3.cmd rfl (OpI_int.2 ?_)
  rw [hk]
  refine ⟨fun _ w' => ∃ s', Iv xs.length s' ∧ Has w' b7 (.cells (repC 1 0 none 0 0) 34 (0, 0)) ∧ DoSt w w' q s' b b1 c, ?_, ?_⟩
  · refine (Cb_false (p := _)).2 ⟨fun st w' => st.1 = true ∧ w' = w3, (Cb_true (q := _)).2 ⟨rfl, rfl⟩, ?_⟩
    rintro _ ⟨g, u⟩ w4 ⟨hg4, rfl⟩
    simp only at hg4 ⊢
    subst hg4
    refine (Cb_true (q := _)).2 ?_
    refine LdV_has (v := .slice c.dp c.dl c.dc) hS3.cmd rfl (OpS_slice.2 ?_)
    refine LdV_has (v := .int .i64 c.k) hS3.cmd rfl (OpI_int.2 ?_)
    rw [hk]
    refine ⟨fun st w' => st.1 = (c.dp, c.dl, c.dc) ∧ w' = w4, (Cb_false (p := _)).2 ⟨rfl, rfl⟩, ?_⟩
    rintro _ ⟨g, u⟩ w5 ⟨hg5, rfl⟩
    simp only at hg5 ⊢
    subst hg5
    refine LoopC_of (σ := Int × Unit) (fun st w' => ∃ (k : Nat) (s' : AS), st.1 = (k : Int) ∧ k ≤ xs.length ∧ Iv k s' ∧ Has w' b7 (.cells (repC 1 0 none 0 0) 34 (0, 0)) ∧ DoSt w w' q s' b b1 c) (fun st _ => ((xs.length : Int) - st.1).toNat)
      ⟨0, s', rfl, by omega, h0, hb3, hS3⟩ ?_
    clear hS3 hb3 hS
    rintro _ ⟨i, u⟩ w4 ⟨k, s', hi, hkn, hv, hb4, hS4⟩
    simp only at hi ⊢
    subst hi
    refine Cb_of (fun hc => ?_) (fun hc => ?_)
    · have hc : (k : Int) < (c.dl : Int) := by simpa using hc
      obtain ⟨x, hxk⟩ : ∃ x, xs[k]? = some x := ⟨_, List.getElem?_eq_getElem (show k < xs.length by omega)⟩
      have hx4 := hx _ hS4.keep
      refine hx4.ldA rfl (by omega) (by simpa using hxk) ?_
      show Alc _ _ _ _
      refine copy_of (by rw [zc_sec]; rfl) (by simp [secLay]) (by intro v hv; exact one_secV x v (by simpa [secLay] using hv)) fun w6 hb6 k6 z6 => ?_
      have e : (secLay.row x).toArray = secV x := by simp [secLay]
      rw [e] at hb6
      have hS6 := hS4.keep0 k6
      have hb46 := k6.has hb4 (by simp)
      refine LdV_has (v := .int .i64 c.lba) hS6.cmd rfl (OpI_int.2 ?_)
      refine LdA_all hb6 rfl ?_
      rw [wrapI (by omega) (by omega)]
      refine hstep k x s' w6 _ hxk hv hS6.ar fun e2 s2 w7 h7 k7 hor => OpI_int.2 ?_
      have hS7 := hS6.to h7 k7
      have hb7 := k7.has hb46 (ArF.not hS6.ar hb46 (by decide) (by decide) (by decide) (by decide) (by decide) (by decide) (by decide))
      rcases hor with ⟨he, hv2⟩ | ⟨he, hbad⟩
      · subst he
        refine (Cb_false (p := _)).2 ?_
        rw [wrapI (by omega) (by omega)]
        refine ⟨_, ?_, ⟨k + 1, s2, by show (k : Int) + 1 = ((k + 1 : Nat) : Int); omega, by omega, hv2, hb7, hS7⟩, rfl⟩
        show ((xs.length : Int) - ((k : Int) + 1)).toNat < ((xs.length : Int) - (k : Int)).toNat
        omega
      · have e3 : (e2 != 0) = true := by simpa using he
        rw [e3]
        refine (Cb_true (q := _)).2 ?_
        refine ar_check hS7.ar 13 fun w8 k8 => ?_
        refine OpA_agg.2 ⟨by split <;> rfl, ?_⟩
        refine doEnd (hS7.keep0 k8) (by split <;> rfl) (by intro v hv; split at hv <;> exact one_repC _ _ _ _ _ v hv) fun w9 h9 k9 _ => hB s2 w9 hbad h9 k9
    · have hc : ¬ (k : Int) < (c.dl : Int) := by simpa using hc
      have e : xs.length = k := by omega
      rw [e]
      exact ⟨s', hv, hb4, hS4⟩
  rintro _ _ w4 ⟨s', hv, hb4, hS4⟩
  refine LdA_all hb4 rfl ?_
  exact doEnd hS4 rfl (one_repC _ _ _ _ _) fun w5 h5 k5 _ => hK s' w5 hv h5 k5
end calls
end Go.Proofs

namespace Go.Proofs
open Go Go.Ev
set_option linter.unusedSimpArgs false
set_option linter.unusedVariables false
set_option maxRecDepth 100000
section calls
variable {w w0 : World} {q : AB} {s : AS} {b b1 : Nat} {c : Cmd} {R : Value → World → Prop}
theorem ar_DoSync (h : ArAt w q 0 s) (f : Bool) {init : Int} (hk : c.k = 4) (hr : readyA s f = true) {s' : AS} (hd : s'.d = s.d) (ha : ∀ (w1 : World) (R1 : Value → World → Prop), ArAt w1 q 1 s → (∀ w2, ArAt w2 q 1 s' → Keep (ArF q w1) w1 w2 → R1 (.int .i64 0) w2) → CallV Tryz.prog 79 #[.pointer (some ⟨q.a, 0, none⟩), .int .i64 (sideN f)] w1 R1)
    (hg : (gateD s.d ((q.g.d - 2) * q.g.c * q.g.s) init c).2 = false) (Iv : AS → Prop) (Bad : AS → Prop) (h0 : Iv s')
    (hstep : ∀ (s1 : AS) (w1 : World) (R1 : Value → World → Prop), Iv s1 → s1.ps.es ≠ [] → ArAt w1 q 1 s1 → (∀ e s2 w2, ArAt w2 q 1 s2 → Keep (ArF q w1) w1 w2 → (e = 0 ∧ Iv s2 ∧ s2.ps.es.length < s1.ps.es.length ∨ e ≠ 0 ∧ Bad s2) → R1 (.int .i64 e) w2) →
      CallV Tryz.prog 84 #[.pointer (some ⟨q.a, 0, none⟩), .int .i64 (sideN f)] w1 R1)
    (hK : ∀ s' w', Iv s' → s'.ps.es = [] → ArAt w' q 0 s' → Keep (ArF q w) w w' → R (.agg (repC 1 0 none 0 0)) w')
    (hB : ∀ s' w', Bad s' → ArAt w' q 0 s' → Keep (ArF q w) w w' → R (.agg (if s'.ps.pw.on = true then repC 2 3 none 0 0 else repC 0 0 none 0 0)) w') :
    CallV Tryz.prog 16 #[.pointer (some ⟨q.a, 0, none⟩), .int .i64 (sideN f), .int .i64 init, .agg (cmdC c)] w R := by
  refine ar_DoOpen h f (Or.inr (Or.inr hk)) hr hd ha (fun ht => by rw [hg] at ht; cases ht) fun _ b b1 w1 hS => ?_
  unfold DoBody
  refine DoQ_of (fun _ => bld_rep1 1 _) (OpA_agg.2 ⟨rfl, ?_⟩)
  refine alc_fresh fun w2 hb2 k2 z2 => ?_
  rw [zc_rep] at hb2
  have hS2 := hS.keep0 k2
  have hne : w1.heap.size ≠ b1 := fun e => by have := hS.rep.lt; omega
  have hlo : w.heap.size ≤ w1.heap.size := hS.keep.size
  refine StA_all hb2 rfl rfl (one_repC _ _ _ _ _) ?_
  have hS3 := hS2.tmp hb2 (Or.inr rfl) hlo hne (Keep.one _ _ (.cells (repC 1 0 none 0 0) 34 (0, 0)))
  have hb3 := hb2.upd_same (.cells (repC 1 0 none 0 0) 34 (0, 0))
  clear hS2 hb2 k2
  generalize w2.upd w1.heap.size (.cells (repC 1 0 none 0 0) 34 (0, 0)) = w3 at *
  generalize w1.heap.size = b7 at *
  refine LdV_has (v := .int .i64 c.k) hS3.cmd rfl (OpI_int.2 ?_)
  rw [hk]
  refine ⟨fun _ w' => ∃ s', Iv s' ∧ s'.ps.es = [] ∧ Has w' b7 (.cells (repC 1 0 none 0 0) 34 (0, 0)) ∧ DoSt w w' q s' b b1 c, ?_, ?_⟩
  · refine (Cb_false (p := _)).2 ⟨fun st w' => st.1 = false ∧ w' = w3, (Cb_false (p := _)).2 ⟨rfl, rfl⟩, ?_⟩
    rintro _ ⟨g, u⟩ w4 ⟨hg4, rfl⟩
    simp only at hg4 ⊢
    subst hg4
    refine (Cb_false (p := _)).2 ((Cb_false (p := _)).2 ((Cb_true (q := _)).2 ?_))
    refine ⟨fun m _ w' => ∃ s', s'.ps.es.length = m ∧ Iv s' ∧ Has w' b7 (.cells (repC 1 0 none 0 0) 34 (0, 0)) ∧ DoSt w w' q s' b b1 c, ⟨_, s', rfl, h0, hb3, hS3⟩, ?_⟩
    clear hS3 hb3 hS
    rintro _ m _ w5 ⟨s1, hm, hv, hb5, hS5⟩
    refine LdV_has (v := .pointer (some ⟨q.pb.p, 0, none⟩)) hS5.ar.cells rfl (OpN_some.2 ?_)
    refine LdV_has (v := .pointer (some ⟨q.pb.c, 0, none⟩)) hS5.ar.pair.cells rfl (OpN_some.2 ?_)
    refine cache_Len hS5.ar.pair.cache (OpI_int.2 ?_)
    refine Cb_of (fun hc => ?_) (fun hc => ?_)
    · have hc : 0 < s1.ps.es.length := by simpa using hc
      refine hstep s1 w5 _ hv (fun e => by rw [e] at hc; cases hc) hS5.ar fun e2 s2 w7 h7 k7 hor => OpI_int.2 ?_
      have hS7 := hS5.to h7 k7
      have hb7 := k7.has hb5 (ArF.not hS5.ar hb5 (by decide) (by decide) (by decide) (by decide) (by decide) (by decide) (by decide))
      rcases hor with ⟨he, hv2, hlt⟩ | ⟨he, hbad⟩
      · subst he
        exact (Cb_false (p := _)).2 ⟨_, by rw [← hm]; exact hlt, s2, rfl, hv2, hb7, hS7⟩
      · have e3 : (e2 != 0) = true := by simpa using he
        rw [e3]
        refine (Cb_true (q := _)).2 ?_
        refine ar_check hS7.ar 3 fun w8 k8 => ?_
        refine OpA_agg.2 ⟨by split <;> rfl, ?_⟩
        refine doEnd (hS7.keep0 k8) (by split <;> rfl) (by intro v hv; split at hv <;> exact one_repC _ _ _ _ _ v hv) fun w9 h9 k9 _ => hB s2 w9 hbad h9 k9
    · have hc : ¬ 0 < s1.ps.es.length := by simpa using hc
      exact ⟨s1, hv, List.length_eq_zero_iff.1 (by omega), hb5, hS5⟩
  rintro _ _ w4 ⟨s', hv, he, hb4, hS4⟩
  refine LdA_all hb4 rfl ?_
  exact doEnd hS4 rfl (one_repC _ _ _ _ _) fun w5 h5 k5 _ => hK s' w5 hv he h5 k5
end calls
end Go.Proofs

namespace Go.Proofs
open Go.Ev
set_option linter.unusedVariables false
set_option maxRecDepth 100000
def F_ravelinlaw20_awake  (w : World) (R : Value → World → Prop) : Prop :=
  DoQ Tryz.prog (Instr.build 24 #[(0, .int .i64 4), (1, .int .i64 1), (2, .int .i64 2)]) (At w) fun v => OpA 3 v fun cs => CallV Tryz.prog 13 #[.agg cs, .int .i64 2] w fun
  v1 w => T2 v1 fun v2 v3 => OpN v2 fun b o => OpI .i64 v3 fun n => Req ((n != 0) = (n != 0)) (Req ((n != 0) = (n != 0)) (Cb (cond (n != 0) true false) (Ret [] (R (.bool
  false) w)) (DoQ Tryz.prog (Instr.build 37 #[(0, .int .u8 7)]) (At w) fun v4 => OpA 16 v4 fun cs1 => DoV Tryz.prog (Instr.buildSlice 32 1 #[(0, .agg cs1)]) w fun v5 w =>
  OpS v5 fun p l c => DoQ Tryz.prog (Instr.build 41 #[(0, .int .i64 3), (3, .slice p l c)]) (At w) fun v6 => OpA 7 v6 fun cs2 => CallV Tryz.prog 16 #[.pointer (some ⟨b, o,
  none⟩), .int .i64 0, .int .i64 0, .agg cs2] w fun v7 w => OpA 3 v7 fun cs3 => DoQ Tryz.prog (Instr.build 41 #[(0, .int .i64 2), (2, .int .i64 1)]) (At w) fun v8 => OpA 7
  v8 fun cs4 => CallV Tryz.prog 16 #[.pointer (some ⟨b, o, none⟩), .int .i64 1, .int .i64 0, .agg cs4] w fun v9 w => OpA 3 v9 fun cs5 => Alc 34 (zc Tryz.prog 34) w fun b1 w
  => StA 3 b1 0 cs5 w fun w => LdV b1 0 (At w) fun v10 => OpI .i64 v10 fun n1 => Cb (n1 == 1) (LdV b1 2 (At w) fun v11 => OpS v11 fun p1 l1 c1 => Cb (((l1 : Nat) : Int) ==
  1) (LdV b1 2 (At w) fun v12 => OpS v12 fun p2 l2 c2 => IdxS p2 l2 0 16 fun b2 o1 => LdA 16 b2 o1 (At w) fun cs6 => DoQ Tryz.prog (Instr.build 37 #[(0, .int .u8 7)]) (At w)
  fun v13 => OpA 16 v13 fun cs7 => EqB Tryz.prog .eql 37 (.tmp 36) (.tmp 37) (.agg cs6 : Value) (.agg cs7 : Value) (At w) fun g => Cb g (CallV Tryz.prog 50 #[.pointer (some
  ⟨b, o, none⟩)] w fun v14 w => OpI .i64 v14 fun n2 => Ret [] (R (.bool (n2 == 2)) w)) (Ret [] (R (.bool false) w))) (Ret [] (R (.bool false) w))) (Ret [] (R (.bool false)
  w)))))
theorem C_ravelinlaw20_awake  {w : World} {R : Value → World → Prop} (h : F_ravelinlaw20_awake  w R) : CallV Tryz.prog 63 #[] w R := by
  exact calls_of_F (args := []) (mkAnn [] [] [] [] [100006]) Tryz_mixed Tryz.func63 rfl rfl (by kernel_rfl) h
end Go.Proofs

