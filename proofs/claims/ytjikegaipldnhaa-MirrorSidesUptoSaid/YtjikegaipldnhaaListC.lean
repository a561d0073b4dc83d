/-
  THE CACHE's LIST: the records of what it holds, by rising versions; Next and Clean.
-/
import Derived.Test.YtjikegaipldnhaaCache
import Derived.Test.YtjikegaipldnhaaSortRec
import Derived.Test.YtjikegaipldnhaaFCmpC
import Derived.Test.YtjikegaipldnhaaFCache2
import Derived.Shelf.SlSortCmp.NoneTotal
namespace Go.Proofs
open Go Go.Ev Go.Sort
set_option linter.unusedSimpArgs false
set_option linter.unusedVariables false
set_option maxRecDepth 100000

theorem under_ints : Try.prog.underlying 35 = some (.slice 3) := by kernel_rfl
/-- the comparison, to the world -/
theorem cmp_list (r s : Rec) (w : World) : Calls Try.prog 89 #[.agg (recV r), .agg (recV s)] w fun e w' => e = .returned (.int .i64 (cmpR r s)) ∧ ∃ q os, w' = grow (w.drewN q) os := by
  have key : CallV Try.prog 89 #[.agg (recV r), .agg (recV s)] w fun v w' => v = .int .i64 (cmpR r s) ∧ ∃ q os, w' = grow (w.drewN q) os := by
    apply C_cache_Cache_List_1
    unfold F_cache_Cache_List_1
    rw [Alc_iff, Alc_iff]
    have ha := (Has.new w (.cells (recV r) 46)).alloc (y := .cells (recV s) 46)
    have hb := Has.new (w.alloc (.cells (recV r) 46)) (.cells (recV s) 46)
    have hg : ∃ q : Nat, ∀ d, w.drawn ≤ d → ((w.alloc (.cells (recV r) 46)).alloc (.cells (recV s) 46)).dr d = grow (w.drewN (d - w.drawn)) #[.cells (recV r) 46, .cells (recV s) 46] := by
      refine ⟨0, fun d hd => ?_⟩
      have : w.drawn + (d - w.drawn) = d := by omega
      unfold World.dr World.alloc grow World.drewN
      simp only [this]
      congr 1
    obtain ⟨_, hg⟩ := hg
    generalize hw2 : (w.alloc (.cells (recV r) 46)).alloc (.cells (recV s) 46) = w2 at *
    have hdr : w2.drawn = w.drawn := by rw [← hw2]; rfl
    intro d hd
    rw [hdr] at hd
    refine LdV_has (v := .int .u64 r.ver) (ha.dr d) rfl ?_
    simp only [OpI_int]
    refine LdV_has (v := .int .u64 s.ver) (hb.dr d) rfl ?_
    simp only [OpI_int]
    refine ⟨.int .i64 (cmpI r.ver s.ver), ?_, ?_⟩
    · exact Calls.mono (compare_u64 (R := fun v w' => v = .int .i64 (cmpI r.ver s.ver) ∧ w' = w2.dr d) r.ver s.ver (w2.dr d) ⟨rfl, rfl⟩) fun e w' ⟨v, he, hv, hw⟩ => by subst hv; exact ⟨he, hw⟩
    simp only [OpI_int]
    refine LdV_has (v := .int .i64 r.lba) (ha.dr d) rfl ?_
    simp only [OpI_int]
    refine LdV_has (v := .int .i64 s.lba) (hb.dr d) rfl ?_
    simp only [OpI_int]
    refine ⟨.int .i64 (cmpI r.lba s.lba), ?_, ?_⟩
    · exact Calls.mono (compare_int (R := fun v w' => v = .int .i64 (cmpI r.lba s.lba) ∧ w' = w2.dr d) r.lba s.lba (w2.dr d) ⟨rfl, rfl⟩) fun e w' ⟨v, he, hv, hw⟩ => by subst hv; exact ⟨he, hw⟩
    simp only [OpI_int]
    refine ⟨_, _, run_buildSlice (w2.dr d) 35 3 2 _ #[.int .i64 (cmpI r.ver s.ver), .int .i64 (cmpI r.lba s.lba)] ((Try.prog.info? 3).get (by kernel_rfl)) (.int .i64 0) (by kernel_rfl) (by kernel_rfl) (by kernel_rfl) (by decide +kernel) (by decide +kernel) (by kernel_rfl), ?_⟩
    simp only [OpS_slice]
    refine or_int _ _ _ _ _ (Has.new _ _) ?_
    simp only [OpI_int, Ret_nil]
    refine ⟨rfl, d - w.drawn, #[.cells (recV r) 46, .cells (recV s) 46, .cells #[.int .i64 (cmpI r.ver s.ver), .int .i64 (cmpI r.lba s.lba)] 3], ?_⟩
    rw [hg d hd, alloc_eq_grow, grow_grow]
    rfl
  exact Calls.mono key fun e w' ⟨v, he, hv, hw⟩ => by subst hv; exact ⟨he, hw⟩

/-- the record of an entry -/
def recOf (p : Int × Ent) : Rec := ⟨1, p.2.2, p.1, p.2.1⟩
/-- the records by rising versions -/
def ByVer (rs : List Rec) : Prop := rs.Pairwise fun r s => ¬ cmpR s r < 0

def numOf : Option Value → Int
  | some (.int _ n) => n
  | _ => 0
def unEnt (v : Value) : Ent := (fun i => numOf v.cells[i.val]?, numOf v.cells[16]?)
theorem un_entV (e : Ent) : unEnt (entV e) = e := by
  obtain ⟨f, n⟩ := e
  refine Prod.ext ?_ rfl
  funext i
  match i with
  | ⟨0, _⟩ => rfl | ⟨1, _⟩ => rfl | ⟨2, _⟩ => rfl | ⟨3, _⟩ => rfl | ⟨4, _⟩ => rfl | ⟨5, _⟩ => rfl | ⟨6, _⟩ => rfl | ⟨7, _⟩ => rfl
  | ⟨8, _⟩ => rfl | ⟨9, _⟩ => rfl | ⟨10, _⟩ => rfl | ⟨11, _⟩ => rfl | ⟨12, _⟩ => rfl | ⟨13, _⟩ => rfl | ⟨14, _⟩ => rfl | ⟨15, _⟩ => rfl
  | ⟨n + 16, hn⟩ => exact absurd hn (by omega)
/-- taking one out of tagged entries -/
theorem tag_out {α : Type} {f : α → Value} {g : Value → α} (hg : ∀ e, g (f e) = e) {l : List (Int × α)} {x : Int} {v : Value} {r : List (Int × Value)} (h : (tag f l).Perm ((x, v) :: r)) :
    ∃ e l', v = f e ∧ r = tag f l' ∧ l.Perm ((x, e) :: l') := by
  have hmem : ∀ p ∈ (x, v) :: r, ∃ e, p.2 = f e := by
    intro p hp
    have := h.symm.subset hp
    obtain ⟨q, _, rfl⟩ := List.mem_map.1 this
    exact ⟨q.2, rfl⟩
  obtain ⟨e, he⟩ := hmem (x, v) (by simp)
  have hr : r = tag f (r.map fun p => (p.1, g p.2)) := by
    unfold tag
    rw [List.map_map]
    conv => lhs; rw [← List.map_id r]
    apply List.map_congr_left
    intro p hp
    obtain ⟨e', he'⟩ := hmem p (by simp [hp])
    simp only [Function.comp, he', hg, id]
    rw [← he']
  refine ⟨e, _, he, hr, ?_⟩
  have h2 := h.map fun p : Int × Value => (p.1, g p.2)
  have h3 : (tag f l).map (fun p : Int × Value => (p.1, g p.2)) = l := by
    unfold tag
    rw [List.map_map]
    conv => rhs; rw [← List.map_id l]
    apply List.map_congr_left
    intro p _
    simp [hg]
  rw [h3] at h2
  simpa [show v = f e from he, hg] using h2

/-- sorting a row that may be nil -/
theorem sort_row {g : Nat} (hg : ∀ (r s : Rec) (w : World), Calls Try.prog g #[.agg (recV r), .agg (recV s)] w fun e w' => e = .returned (.int .i64 (cmpR r s)) ∧ ∃ q os, w' = grow (w.drewN q) os)
    (eg : ∀ args w, (callFunc g args).run Try.prog w = .ok (.enter g args) w) {w : World} {base : Nat} {T : TypeId} {p : Option Addr} {l c : Nat} {rs : List Rec} (h : Own w base T 19 p l c (rs.flatMap recL)) (hsz : l < 4611686018427387904)
    {R : Value → World → Prop} (hK : ∀ (rs' : List Rec) (w' : World), rs'.Perm rs → ByVer rs' → Own w' base T 19 p l c (rs'.flatMap recL) → Keep (fun k => p = some ⟨k, 0, none⟩) w w' → R (.tuple #[]) w') :
    CallV Try.prog 88 #[.slice p l c, .func (.func g) #[] #[]] w R := by
  rcases h.cases with ⟨rfl, rfl, rfl, h0⟩ | ⟨b, cur, rfl, _⟩
  · have hrs : rs = [] := by
      cases rs with
      | nil => rfl
      | cons r rs => simp [recL] at h0
    subst hrs
    exact Calls.mono (AnyF.slices_SortFunc_none Try.sortRec none 0 (.func (.func g) #[] #[]) w) fun e w' ⟨he, hw⟩ => ⟨_, he, by subst hw; exact hK [] _ (List.Perm.refl _) List.Pairwise.nil h (Keep.refl _ _)⟩
  · exact sort_recs hg eg h hsz fun rs' w' hp hs ho hk => hK rs' w' hp hs ho (hk.mono fun k hk => by rw [hk])

theorem bld_rec (k v l : Int) (f : Sec) (w : World) : (Instr.build 46 #[(0, .int .i64 k), (1, .int .u64 v), (2, .int .i64 l), (3, .agg (secV f))]).run Try.prog w = .ok (.agg (recV ⟨k, v, l, f⟩)) w := run_build _ _ _ _ (by kernel_rfl)
theorem bsl_rec (r : Rec) (w : World) : (Instr.buildSlice 41 1 #[(0, .agg (recV r))]).run Try.prog w = .ok (.slice (some ⟨w.heap.size, 0, none⟩) 1 1) (w.alloc (.cells (recV r) 46)) :=
  run_buildSlice w 41 46 1 _ (recV r) ((Try.prog.info? 46).get (by kernel_rfl)) ((((Try.prog.info? 46).get (by kernel_rfl)).zero).get (by kernel_rfl)) (by kernel_rfl) (by kernel_rfl) (by kernel_rfl) (by decide +kernel) (by decide +kernel) (by kernel_rfl)
/-- one record more -/
theorem app_rec {w : World} {base : Nat} {p : Option Addr} {l c : Nat} {rs : List Rec} (h : Own w base 46 19 p l c (rs.flatMap recL)) {a : Nat} {r : Rec} (ha : Has w a (.cells (recV r) 46 (0, 0))) (hl : l ≤ 1000000000) (hbase : base ≤ w.heap.size) :
    ∃ p' c' w', (Builtin.append_ #[41, 41] 41 #[.slice p l c, .slice (some ⟨a, 0, none⟩) 1 1]).run Try.prog w = .ok (.slice p' (l + 1) c') w' ∧
      Own w' base 46 19 p' (l + 1) c' ((rs ++ [r]).flatMap recL) ∧ Keep (fun k => p = some ⟨k, 0, none⟩) w w' := by
  have := run_appendOwn (P := Try.prog) (t := 41) (ty := 41) (i := ((Try.prog.info? 46).get (by kernel_rfl))) (z := ((((Try.prog.info? 46).get (by kernel_rfl)).zero).get (by kernel_rfl))) (size := 19) (bytes := 40) (by kernel_rfl) (by kernel_rfl) (by kernel_rfl) (by kernel_rfl) (by kernel_rfl) (by kernel_rfl) (by decide) h
      (a := ⟨a, 0, none⟩) (m := 1) (c2 := 1) (news := recL r) rfl (fun jj u hu => by
        have : Addr.add ⟨a, 0, none⟩ jj = ⟨a, jj, none⟩ := by unfold Addr.add; split <;> simp_all
        rw [this, cell_of ha]
        simpa [recV] using hu) (one_recL' r) (by omega) (by simp [maxLen]; omega) hbase
  simpa using this

theorem cache_List {c m : Nat} {room : Int} {es : List (Int × Ent)} {w : World} {R : Value → World → Prop} (h : CacheAt w c m room es) (hlen : es.length ≤ 1000000)
    (hK : ∀ (p : Option Addr) (l cp : Nat) (rs : List Rec) (w' : World), rs.Perm (es.map recOf) → ByVer rs → Own w' w.heap.size 46 19 p l cp (rs.flatMap recL) → Keep (fun _ => False) w w' → R (.slice p l cp) w') :
    CallV Try.prog 58 #[.pointer (some ⟨c, 0, none⟩)] w R := by
  apply C_cache_Cache_List
  unfold F_cache_Cache_List
  refine LdV_has (v := .map (some m)) h.1 rfl ?_
  simp only [OpM_map]
  obtain ⟨w1, hr, hI, k1⟩ := run_rangeM (P := Try.prog) under_map h.2
  refine ⟨_, _, hr, ?_⟩
  simp only [OpN_some]
  have hm : m < w.heap.size := h.2.lt
  refine LoopC_of (σ := (Option Addr × Nat × Nat) × Unit) (fun s w' => ∃ (left done : List (Int × Ent)), Iter .i64 w' w.heap.size m (tag entV left) ∧ (done ++ left).Perm es ∧
      Own w' (w.heap.size + 1) 46 19 s.1.1 s.1.2.1 s.1.2.2 ((done.map recOf).flatMap recL) ∧ s.1.2.1 = done.length ∧ Keep (fun _ => False) w w' ∧ w.heap.size + 1 ≤ w'.heap.size) (fun s w' => es.length - s.1.2.1)
    ⟨es, [], hI, by simp, Own.nil _ _ _ _, rfl, k1, by have := hI.lt.1; omega⟩ ?_
  intro _ s w2 hs
  obtain ⟨⟨p, l, cp⟩, u⟩ := s
  obtain ⟨left, done, hI2, hperm, ho, hl, k2, hsz⟩ := hs
  simp only at ho hl ⊢
  have hln : done.length + left.length = es.length := by have := hperm.length_eq; simpa using this
  rcases run_nextM (P := Try.prog) (ty := 0) hI2 with ⟨hnil, hr2⟩ | ⟨x, v, left', w3, hp3, hr2, hI3, hA3, k3⟩
  · refine ⟨_, _, hr2, Or.inr ⟨rfl, ?_⟩⟩
    have hleft : left = [] := by
      cases left with
      | nil => rfl
      | cons a b => simp [tag] at hnil
    subst hleft
    rw [List.append_nil] at hperm
    have eg : ∀ args w, (callFunc 89 args).run Try.prog w = .ok (.enter 89 args) w := enters_of Try.func89 (by kernel_rfl) rfl
    refine sort_row cmp_list eg ho (by omega) fun rs w4 hrp hrs ho4 k4 => ?_
    simp only [Ret_nil]
    have k4' : Keep (fun _ => False) w w4 := k2.trans' k4 (fun k hk e => by have := (ho.lt e).1; omega)
    refine hK p l cp rs w4 (hrp.trans (hperm.map _)) hrs ?_ k4'
    rcases ho4.cases with ⟨rfl, rfl, rfl, h0⟩ | ⟨b, cur, rfl, hb, hg, hle, hmx, hss, ht⟩
    · rw [h0]; exact Own.nil _ _ _ _
    · exact Own.mk (by omega) hg hle hmx hss ht
  · obtain ⟨e, left2, rfl, rfl, hp2⟩ := tag_out un_entV hp3
    refine ⟨_, _, hr2, Or.inl ⟨_, _, rfl, ?_⟩⟩
    refine DoQ_of (fun d => run_entryM (hA3.keep (Keep.drew (fun _ => False) w3 d) (by simp) (by simp))) ?_
    simp only [T2_mk, OpI_int, entV, OpA_agg]
    refine ⟨rfl, ?_⟩
    have k23 : Keep (fun _ => False) w w3 := k2.trans' k3 (fun k hk e => by omega)
    have ho3 := ho.keep k3 (fun k hp => by have := (ho.lt hp).1; omega)
    have hsz3 : w.heap.size + 1 ≤ w3.heap.size := by have := k3.size; omega
    rw [Alc_iff]
    have hb1 := Has.new w3 (.cells (zc Try.prog 157) 157)
    have k4 := Keep.new (fun _ => False) w3 (.cells (zc Try.prog 157) 157)
    generalize hw4 : w3.alloc (.cells (zc Try.prog 157) 157) = w4 at *
    refine StA_all hb1 rfl (by rw [zc_ent]; rfl) ?_ ?_
    · intro v hv
      simp only [List.mem_cons, List.not_mem_nil, or_false] at hv
      rcases hv with rfl | rfl | rfl | rfl | rfl | rfl | rfl | rfl | rfl | rfl | rfl | rfl | rfl | rfl | rfl | rfl | rfl <;> rfl
    generalize hcs : (#[Value.int IntKind.u8 _, _, _, _, _, _, _, _, _, _, _, _, _, _, _, _, _] : Array Value) = cs
    have hb2 := hb1.upd_same (.cells cs 157)
    have k5 := Keep.one w4 w3.heap.size (.cells cs 157)
    have hI5 := (hI3.keep k4 (by simp) (by simp)).keep k5 (by have := hI3.lt.1; omega) (by have := hI3.lt.2; omega)
    have ho5 := (ho3.keep k4 (by simp)).keep k5 (fun k hp => by have := (ho3.lt hp).2; omega)
    have k25 : Keep (fun _ => False) w (w4.upd w3.heap.size (.cells cs 157)) := (k23.trans k4).trans' k5 (fun k hk e => by omega)
    have hsz5 : w.heap.size + 1 ≤ (w4.upd w3.heap.size (.cells cs 157)).heap.size := by have := k4.size; simp; omega
    generalize hw5 : w4.upd w3.heap.size (.cells cs 157) = w5 at *
    subst hcs
    refine LdV_has (v := .int .u64 e.2) hb2 rfl ?_
    simp only [OpI_int]
    refine LdA_has (cs := secV e.1) hb2 (by simp) rfl ?_
    refine DoQ_of (fun d => bld_rec _ _ _ _ _) ?_
    simp only [OpA_agg]
    refine ⟨rfl, _, _, bsl_rec _ _, ?_⟩
    simp only [OpS_slice]
    have ha := Has.new w5 (.cells (recV ⟨1, e.2, x, e.1⟩) 46)
    have k6 := Keep.new (fun _ => False) w5 (.cells (recV ⟨1, e.2, x, e.1⟩) 46)
    have ho6 := ho5.keep k6 (by simp)
    have hI6 := hI5.keep k6 (by simp) (by simp)
    have hlt : left.length = left2.length + 1 := by have := hp2.length_eq; simpa using this
    obtain ⟨p', c', w7, hr7, ho7, k7⟩ := app_rec ho6 ha (by omega) (by have := k6.size; omega)
    refine ⟨_, _, hr7, ?_⟩
    simp only [OpS_slice]
    have k67 := k25.trans k6
    refine ⟨_, by omega, ⟨left2, done ++ [(x, e)], hI6.keep k7 (fun hp => ?_) (fun hp => ?_), ?_, by simpa [recOf] using ho7, by simp [hl], k67.trans' k7 (fun k hk hp => by have := (ho6.lt hp).1; omega), by have := k7.size; have := k6.size; omega⟩, rfl⟩
    · have := (ho6.lt hp).1; omega
    · have := (ho6.lt hp).1; omega
    · have h9 : (done ++ left).Perm (done ++ (x, e) :: left2) := hp2.append_left done
      have := h9.symm.trans hperm
      simpa using this
end Go.Proofs
