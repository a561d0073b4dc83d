/-
  merge.Dirty: what is left of lists of records, by rising versions.
-/
import Derived.Test.YtacnieopbkeoiaaConcat
import Derived.Test.YtacnieopbkeoiaaNext
import Derived.Test.YtacnieopbkeoiaaFCmpM
namespace Go.Proofs
open Go Go.Ev Go.Sort
set_option linter.unusedSimpArgs false
set_option linter.unusedVariables false
set_option maxRecDepth 100000

theorem under_newest : Try.prog.underlying 81 = some (.map 3 42) := by kernel_rfl
theorem under_clean : Try.prog.underlying 82 = some (.map 3 32) := by kernel_rfl
theorem zero_rec (w : World) : (zeroValue 42).run Try.prog w = .ok (.agg (recV rec00)) w := run_zeroValue (i := ((Try.prog.info? 42).get (by kernel_rfl))) (by kernel_rfl) (by kernel_rfl)
theorem zero_u64 (w : World) : (zeroValue 32).run Try.prog w = .ok (.int .u64 0) w := run_zeroValue (i := ((Try.prog.info? 32).get (by kernel_rfl))) (by kernel_rfl) (by kernel_rfl)
def recA (r : Rec) : Value := .agg (recV r)
def u64V (n : Int) : Value := .int .u64 n
theorem look_newest {w : World} {m : Nat} {nw : List (Int × Rec)} (h : MapAt .i64 w m (tag recA nw)) (x : Int) :
    (Instr.lookup 81 (.map (some m)) (.int .i64 x) true).run Try.prog w = .ok (.tuple #[.agg (recV ((mlook nw x).getD rec00)), .bool (mlook nw x).isSome]) w := by
  rw [run_lookup under_newest under_int zero_rec h, look_tag]
  cases mlook nw x <;> rfl
theorem look_clean {w : World} {m : Nat} {cl : List (Int × Int)} (h : MapAt .i64 w m (tag u64V cl)) (x : Int) :
    (Instr.lookup 82 (.map (some m)) (.int .i64 x) true).run Try.prog w = .ok (.tuple #[.int .u64 ((mlook cl x).getD 0), .bool (mlook cl x).isSome]) w := by
  rw [run_lookup under_clean under_int zero_u64 h, look_tag]
  cases mlook cl x <;> rfl

abbrev Sta := List (Int × Rec) × List (Int × Int)
def stepD (s : Sta) (r : Rec) : Sta :=
  if r.kind = 2 then (s.1, match mlook s.2 r.lba with
    | none => ins s.2 r.lba r.ver
    | some v => if v < r.ver then ins s.2 r.lba r.ver else s.2)
  else if r.kind = 1 then (match mlook s.1 r.lba with
    | none => ins s.1 r.lba r
    | some o => if o.ver < r.ver then ins s.1 r.lba r else s.1, s.2)
  else s
def keptB (cl : List (Int × Int)) (p : Int × Rec) : Bool := match mlook cl p.1 with
  | none => true
  | some v => decide (v < p.2.ver)
def leftD (s : Sta) : List Rec := (s.1.filter (keptB s.2)).map (·.2)
structure StaAt (w : World) (m m1 : Nat) (s : Sta) : Prop where
  nw : MapAt .i64 w m (tag recA s.1)
  cl : MapAt .i64 w m1 (tag u64V s.2)
  ne : m ≠ m1
theorem StaAt.keep {w w' : World} {m m1 : Nat} {s : Sta} {S : Nat → Prop} (h : StaAt w m m1 s) (hk : Keep S w w') (h1 : ¬ S m) (h2 : ¬ S m1) : StaAt w' m m1 s := ⟨h.nw.keep hk h1, h.cl.keep hk h2, h.ne⟩
/-- a store into the map of newest -/
theorem put_newest {w : World} {m m1 : Nat} {s : Sta} (h : StaAt w m m1 s) (r : Rec) {K : World → Prop} (hK : ∀ w', StaAt w' m m1 (ins s.1 r.lba r, s.2) → Keep (fun k => k = m ∨ k = m1) w w' → K w') :
    DoU Try.prog (Instr.mapUpdate 81 (.map (some m)) (.int .i64 r.lba) (.agg (recV r))) w K := by
  obtain ⟨arr, clk, hr, ho⟩ := run_mapUpdate (P := Try.prog) under_newest under_int h.nw r.lba (recA r)
  refine ⟨_, hr, ?_⟩
  rw [ins_tag] at ho
  obtain ⟨arr0, clk0, hm, _⟩ := h.nw
  have k : Keep (fun k => k = m) w (w.upd m (.map arr clk)) := Keep.one _ _ _
  exact hK _ ⟨⟨arr, clk, hm.upd_same _, ho⟩, h.cl.keep k (fun e => h.ne e.symm), h.ne⟩ (k.mono fun _ h => Or.inl h)
theorem put_clean {w : World} {m m1 : Nat} {s : Sta} (h : StaAt w m m1 s) (x v : Int) {K : World → Prop} (hK : ∀ w', StaAt w' m m1 (s.1, ins s.2 x v) → Keep (fun k => k = m ∨ k = m1) w w' → K w') :
    DoU Try.prog (Instr.mapUpdate 82 (.map (some m1)) (.int .i64 x) (.int .u64 v)) w K := by
  obtain ⟨arr, clk, hr, ho⟩ := run_mapUpdate (P := Try.prog) under_clean under_int h.cl x (u64V v)
  refine ⟨_, hr, ?_⟩
  rw [ins_tag] at ho
  obtain ⟨arr0, clk0, hm, _⟩ := h.cl
  have k : Keep (fun k => k = m1) w (w.upd m1 (.map arr clk)) := Keep.one _ _ _
  exact hK _ ⟨h.nw.keep k h.ne, ⟨arr, clk, hm.upd_same _, ho⟩, h.ne⟩ (k.mono fun _ h => Or.inr h)

theorem cmp_dirty (r s : Rec) (w : World) : Calls Try.prog 38 #[.agg (recV r), .agg (recV s)] w fun e w' => e = .returned (.int .i64 (cmpR r s)) ∧ ∃ q os, w' = grow (w.drewN q) os := by
  have key : CallV Try.prog 38 #[.agg (recV r), .agg (recV s)] w fun v w' => v = .int .i64 (cmpR r s) ∧ ∃ q os, w' = grow (w.drewN q) os := by
    apply C_merge_Dirty_1
    unfold F_merge_Dirty_1
    rw [Alc_iff, Alc_iff]
    have ha := (Has.new w (.cells (recV r) 42)).alloc (y := .cells (recV s) 42)
    have hb := Has.new (w.alloc (.cells (recV r) 42)) (.cells (recV s) 42)
    have hg : ∃ q : Nat, ∀ d, w.drawn ≤ d → ((w.alloc (.cells (recV r) 42)).alloc (.cells (recV s) 42)).dr d = grow (w.drewN (d - w.drawn)) #[.cells (recV r) 42, .cells (recV s) 42] := by
      refine ⟨0, fun d hd => ?_⟩
      have : w.drawn + (d - w.drawn) = d := by omega
      unfold World.dr World.alloc grow World.drewN
      simp only [this]
      congr 1
    obtain ⟨_, hg⟩ := hg
    generalize hw2 : (w.alloc (.cells (recV r) 42)).alloc (.cells (recV s) 42) = w2 at *
    have hdr : w2.drawn = w.drawn := by rw [← hw2]; rfl
    intro d hd
    rw [hdr] at hd
    refine LdV_has (v := .int .u64 r.ver) (ha.dr d) rfl ?_
    simp only [OpI_int]
    refine LdV_has (v := .int .u64 s.ver) (hb.dr d) rfl ?_
    simp only [OpI_int]
    refine ⟨.int .i64 (cmpI r.ver s.ver), ?_, ?_⟩
    · exact Calls.mono (compare_u64 (R := fun v w' => v = .int .i64 (cmpI r.ver s.ver) ∧ w' = w2.dr d) r.ver s.ver (w2.dr d) ⟨rfl, rfl⟩) fun e w' ⟨v, he, hv, hw⟩ => by subst hv; exact ⟨he, hw⟩
    simp only [OpI_int]
    refine LdV_has (v := .int .i64 r.lba) (ha.dr d) rfl ?_
    simp only [OpI_int]
    refine LdV_has (v := .int .i64 s.lba) (hb.dr d) rfl ?_
    simp only [OpI_int]
    refine ⟨.int .i64 (cmpI r.lba s.lba), ?_, ?_⟩
    · exact Calls.mono (compare_int (R := fun v w' => v = .int .i64 (cmpI r.lba s.lba) ∧ w' = w2.dr d) r.lba s.lba (w2.dr d) ⟨rfl, rfl⟩) fun e w' ⟨v, he, hv, hw⟩ => by subst hv; exact ⟨he, hw⟩
    simp only [OpI_int]
    refine ⟨_, _, run_buildSlice (w2.dr d) 28 3 2 _ #[.int .i64 (cmpI r.ver s.ver), .int .i64 (cmpI r.lba s.lba)] ((Try.prog.info? 3).get (by kernel_rfl)) (.int .i64 0) (by kernel_rfl) (by kernel_rfl) (by kernel_rfl) (by decide +kernel) (by decide +kernel) (by kernel_rfl), ?_⟩
    simp only [OpS_slice]
    refine or_int _ _ _ _ _ (Has.new _ _) ?_
    simp only [OpI_int, Ret_nil]
    refine ⟨rfl, d - w.drawn, #[.cells (recV r) 42, .cells (recV s) 42, .cells #[.int .i64 (cmpI r.ver s.ver), .int .i64 (cmpI r.lba s.lba)] 3], ?_⟩
    rw [hg d hd, alloc_eq_grow, grow_grow]
    rfl
  exact Calls.mono key fun e w' ⟨v, he, hv, hw⟩ => by subst hv; exact ⟨he, hw⟩

def unRec (v : Value) : Rec := ⟨numOf v.cells[0]?, numOf v.cells[1]?, numOf v.cells[2]?, fun i => numOf v.cells[3 + i.val]?⟩
theorem un_recA (r : Rec) : unRec (recA r) = r := by
  obtain ⟨k, v, l, f⟩ := r
  have : (fun i : Fin 16 => numOf (recA ⟨k, v, l, f⟩).cells[3 + i.val]?) = f := by
    funext i
    match i with
    | ⟨0, _⟩ => rfl | ⟨1, _⟩ => rfl | ⟨2, _⟩ => rfl | ⟨3, _⟩ => rfl | ⟨4, _⟩ => rfl | ⟨5, _⟩ => rfl | ⟨6, _⟩ => rfl | ⟨7, _⟩ => rfl
    | ⟨8, _⟩ => rfl | ⟨9, _⟩ => rfl | ⟨10, _⟩ => rfl | ⟨11, _⟩ => rfl | ⟨12, _⟩ => rfl | ⟨13, _⟩ => rfl | ⟨14, _⟩ => rfl | ⟨15, _⟩ => rfl
    | ⟨n + 16, hn⟩ => exact absurd hn (by omega)
  unfold unRec
  rw [this]
  rfl
/-- a copy of a record in a block of its own -/
theorem copy_rec {w : World} {r : Rec} {K : Nat → World → Prop} (hK : ∀ w', Has w' w.heap.size (.cells (recV r) 42 (0, 0)) → Keep (fun _ => False) w w' → w.heap.size < w'.heap.size → K w.heap.size w') :
    Alc 42 (zc Try.prog 42) w fun b w => StA 19 b 0 (recV r) w fun w => K b w := by
  rw [Alc_iff]
  refine StA_all (Has.new _ _) rfl (by rw [zc_rec']; rfl) (one_recV' _) ?_
  exact hK _ ((Has.new _ _).upd_same _) ((Keep.new _ _ _).upd (by omega) _) (by simp)

theorem merge_Dirty {xp : Option Addr} {n c : Nat} {rss : List (List Rec)} {w : World} {R : Value → World → Prop} (h : Lists w xp n rss) (hn : n ≤ 1000000000) (ht : total rss ≤ 10000000)
    (hK : ∀ (p : Option Addr) (l cp : Nat) (rs : List Rec) (w' : World), rs.Perm (leftD (rss.flatten.foldl stepD ([], []))) → ByVer rs → Own w' w.heap.size 42 19 p l cp (rs.flatMap recL) → Keep (fun _ => False) w w' → R (.slice p l cp) w') :
    CallV Try.prog 20 #[.slice xp n c] w R := by
  apply C_merge_Dirty
  unfold F_merge_Dirty
  refine ⟨_, _, run_makeMap, ?_⟩
  simp only [OpM_map]
  have hm := Has.new w (.map #[] 0)
  have k1 := Keep.new (fun _ => False) w (.map #[] 0)
  refine ⟨_, _, run_makeMap, ?_⟩
  simp only [OpM_map]
  have hm1 := Has.new (w.alloc (.map #[] 0)) (.map #[] 0)
  have hm' := hm.alloc (y := .map #[] 0)
  have k2 := k1.alloc (.map #[] 0)
  have hne : w.heap.size ≠ (w.alloc (.map #[] 0)).heap.size := hm.ne_new
  have hgt : w.heap.size < (w.alloc (.map #[] 0)).heap.size := hm.lt
  generalize hw2 : (w.alloc (.map #[] 0)).alloc (.map #[] 0) = w2 at *
  generalize (w.alloc (.map #[] 0)).heap.size = m1 at *
  have hst : StaAt w2 w.heap.size m1 ([], []) := ⟨⟨#[], 0, hm', MapOk.nil _⟩, ⟨#[], 0, hm1, MapOk.nil _⟩, hne⟩
  have hl2 := h.keep k2 (by simp)
  have hm1lt := hm1.lt
  refine concat_recs hl2 hn (by omega) fun p l cp w3 ho k3 => ?_
  simp only [OpS_slice]
  have hst3 := hst.keep k3 (by simp) (by simp)
  have hlen : l = rss.flatten.length := by
    have h5 := ho
    rw [flatMap_rows] at h5
    have h6 := h5.count (rows_len _) (by decide)
    rwa [List.length_map] at h6
  have hbd : rss.flatten.length ≤ 10000000 := ht
  generalize hall : rss.flatten = all at *
  have hsz3 := k3.size
  have k23 := k2.trans k3
  refine LoopC_of (σ := Int × Unit) (fun s w' => ∃ j : Nat, s.1 = j ∧ j ≤ l ∧ StaAt w' w.heap.size m1 ((all.take j).foldl stepD ([], [])) ∧ Own w' w2.heap.size 42 19 p l cp (all.flatMap recL) ∧ Keep (fun _ => False) w w' ∧ w2.heap.size ≤ w'.heap.size)
    (fun s _ => (l - s.1).toNat) ⟨0, rfl, by omega, by simpa using hst3, ho, k23, hsz3⟩ ?_
  clear hst3 ho
  intro _ s w4 hs
  obtain ⟨i, u⟩ := s
  obtain ⟨j, hij, hjl, hst, ho, k4, hsz4⟩ := hs
  simp only at hij ⊢
  subst hij
  refine Cb_of (fun hc => ?_) (fun hc => ?_)
  · have hj : j < l := by simp only [decide_eq_true_eq] at hc; omega
    have hget : all[((j : Nat) : Int).toNat]? = some all[j] := by simp [show j < all.length by omega]
    generalize hr : all[j] = r at *
    refine LdA_row ho (by omega) hget ?_
    have hstep : (all.take (j + 1)).foldl stepD ([], []) = stepD ((all.take j).foldl stepD ([], [])) r := by
      rw [List.take_add_one, List.foldl_append, show all[j]? = some r by simpa using hget]
      rfl
    generalize hS : (all.take j).foldl stepD ([], []) = S at *
    have ew : IntKind.wrap .i64 ((j : Int) + 1) = ((j + 1 : Nat) : Int) := by rw [wrapI (by omega) (by omega)]; omega
    rw [ew]
    have fin : ∀ w', StaAt w' w.heap.size m1 (stepD S r) → Own w' w2.heap.size 42 19 p l cp (all.flatMap recL) → Keep (fun _ => False) w w' → w2.heap.size ≤ w'.heap.size →
        ∃ m', m' < ((l : Int) - (j : Int)).toNat ∧ ((∃ j' : Nat, ((j + 1 : Nat) : Int) = j' ∧ j' ≤ l ∧ StaAt w' w.heap.size m1 ((all.take j').foldl stepD ([], [])) ∧ Own w' w2.heap.size 42 19 p l cp (all.flatMap recL) ∧ Keep (fun _ => False) w w' ∧ w2.heap.size ≤ w'.heap.size) ∧ ((l : Int) - ((j + 1 : Nat) : Int)).toNat = m') :=
      fun w' a b c d => ⟨_, by omega, ⟨j + 1, rfl, hj, by rw [hstep]; exact a, b, c, d⟩, rfl⟩
    refine copy_rec (K := fun b1 w => _) fun w5 hb1 k5 hs5 => ?_
    have hst5 := hst.keep k5 (by simp) (by simp)
    refine LdV_has (v := .int .i64 r.lba) hb1 rfl ?_
    simp only [OpI_int]
    refine DoQ_of (fun d => look_newest (hst5.nw.dr d) r.lba) ?_
    simp only [T2_mk, OpA_agg, OpB_bool]
    refine ⟨rfl, copy_rec (K := fun b2 w => _) fun w6 hb2 k6 hs6 => ?_⟩
    have hb1' := k6.has hb1 (by simp)
    have hst6 := hst5.keep k6 (by simp) (by simp)
    have k56 := k5.trans k6
    have ho6 := ho.keep k56 (by simp)
    have k46 := k4.trans k56
    have hsz6 : w2.heap.size ≤ w6.heap.size := by have := k56.size; omega
    have finP : ∀ w', StaAt w' w.heap.size m1 (stepD S r) → Keep (fun k => k = w.heap.size ∨ k = m1) w6 w' → ∃ m', m' < ((l : Int) - (j : Int)).toNat ∧ ((∃ j' : Nat, ((j + 1 : Nat) : Int) = j' ∧ j' ≤ l ∧ StaAt w' w.heap.size m1 ((all.take j').foldl stepD ([], [])) ∧ Own w' w2.heap.size 42 19 p l cp (all.flatMap recL) ∧ Keep (fun _ => False) w w' ∧ w2.heap.size ≤ w'.heap.size) ∧ ((l : Int) - ((j + 1 : Nat) : Int)).toNat = m') :=
      fun w' a b => fin w' a (ho6.keep b (fun k hp => by have := (ho6.lt hp).1; omega)) (k46.trans' b (fun k hk e => by omega)) (by have := b.size; omega)
    refine LdV_has (v := .int .i64 r.kind) hb1' rfl ?_
    simp only [OpI_int]
    refine Cb_of (fun hk => ?_) (fun hk => ?_)
    · have hk' : r.kind = 2 := by simpa using hk
      refine LdV_has (v := .int .i64 r.lba) hb1' rfl ?_
      simp only [OpI_int]
      refine DoQ_of (fun d => look_clean (hst6.cl.dr d) r.lba) ?_
      simp only [T2_mk, OpI_int, OpB_bool]
      cases hl : mlook S.2 r.lba with
      | none =>
        simp only [Option.isSome_none, Bool.not_false, Cb_true]
        refine LdV_has (v := .int .i64 r.lba) hb1' rfl ?_
        simp only [OpI_int]
        refine LdV_has (v := .int .u64 r.ver) hb1' rfl ?_
        simp only [OpI_int]
        have e : stepD S r = (S.1, ins S.2 r.lba r.ver) := by simp [stepD, hk', hl]
        rw [e] at finP
        exact put_clean hst6 _ _ finP
      | some v =>
        simp only [Option.isSome_some, Bool.not_true, Cb_false, Option.getD_some]
        refine LdV_has (v := .int .u64 r.ver) hb1' rfl ?_
        simp only [OpI_int]
        refine Cb_of (fun hv => ?_) (fun hv => ?_)
        · have hv' : v < r.ver := by simpa using hv
          refine LdV_has (v := .int .i64 r.lba) hb1' rfl ?_
          simp only [OpI_int]
          refine LdV_has (v := .int .u64 r.ver) hb1' rfl ?_
          simp only [OpI_int]
          have e : stepD S r = (S.1, ins S.2 r.lba r.ver) := by simp [stepD, hk', hl, hv']
          rw [e] at finP
          exact put_clean hst6 _ _ finP
        · have hv' : ¬ v < r.ver := by simpa using hv
          have e : stepD S r = S := by simp [stepD, hk', hl, hv']
          rw [e] at finP
          exact finP w6 hst6 (Keep.refl _ _)
    · have hk' : ¬ r.kind = 2 := by simpa using hk
      refine LdV_has (v := .int .i64 r.kind) hb1' rfl ?_
      simp only [OpI_int]
      refine Cb_of (fun hd => ?_) (fun hd => ?_)
      · have hd' : r.kind = 1 := by simpa using hd
        cases hl : mlook S.1 r.lba with
        | none =>
          simp only [Option.isSome_none, Bool.not_false, Cb_true]
          refine LdV_has (v := .int .i64 r.lba) hb1' rfl ?_
          simp only [OpI_int]
          refine LdA_all hb1' rfl ?_
          have e : stepD S r = (ins S.1 r.lba r, S.2) := by simp [stepD, hd', hl]
          rw [e] at finP
          exact put_newest hst6 r finP
        | some o =>
          rw [hl] at hb2
          simp only [Option.isSome_some, Bool.not_true, Cb_false]
          refine LdV_has (v := .int .u64 o.ver) hb2 rfl ?_
          simp only [OpI_int]
          refine LdV_has (v := .int .u64 r.ver) hb1' rfl ?_
          simp only [OpI_int]
          refine Cb_of (fun hv => ?_) (fun hv => ?_)
          · have hv' : o.ver < r.ver := by simpa using hv
            refine LdV_has (v := .int .i64 r.lba) hb1' rfl ?_
            simp only [OpI_int]
            refine LdA_all hb1' rfl ?_
            have e : stepD S r = (ins S.1 r.lba r, S.2) := by simp [stepD, hd', hl, hv']
            rw [e] at finP
            exact put_newest hst6 r finP
          · have hv' : ¬ o.ver < r.ver := by simpa using hv
            have e : stepD S r = S := by simp [stepD, hd', hl, hv']
            rw [e] at finP
            exact finP w6 hst6 (Keep.refl _ _)
      · have hd' : ¬ r.kind = 1 := by simpa using hd
        have e : stepD S r = S := by simp [stepD, hk', hd']
        rw [e] at finP
        exact finP w6 hst6 (Keep.refl _ _)
  · have hj : j = l := by simp only [decide_eq_false_iff_not] at hc; omega
    subst hj
    have e0 : all.take j = all := by rw [hlen]; simp
    rw [e0] at hst
    generalize hS : all.foldl stepD ([], []) = S at *
    have hlnw : S.1.length ≤ all.length := by
      rw [← hS]
      have : ∀ (l : List Rec) (t : Sta), (l.foldl stepD t).1.length ≤ t.1.length + l.length := by
        intro l
        induction l with
        | nil => intro t; simp
        | cons r l ih =>
          intro t
          rw [List.foldl_cons]
          have h1 := ih (stepD t r)
          have h2 : (stepD t r).1.length ≤ t.1.length + 1 := by
            unfold stepD
            split
            · simp
            · split
              · simp only
                split
                · rw [length_ins]; split <;> omega
                · split
                  · rw [length_ins]; split <;> omega
                  · omega
              · simp
          simp only [List.length_cons]
          omega
      have := this all ([], [])
      simpa using this
    obtain ⟨w5, hr5, hI5, k5⟩ := run_rangeM (P := Try.prog) under_newest hst.nw
    refine ⟨_, _, hr5, ?_⟩
    simp only [OpN_some]
    have hcl5 := hst.cl.keep k5 (by simp)
    have k45 := k4.trans k5
    have hrw := hI5.lt
    refine ⟨fun (mm : Nat) (s : (Option Addr × Nat × Nat) × Unit) w' => ∃ (left done : List (Int × Rec)), left.length = mm ∧ Iter .i64 w' w4.heap.size w.heap.size (tag recA left) ∧ (done ++ left).Perm S.1 ∧ MapAt .i64 w' m1 (tag u64V S.2) ∧
        Own w' (w4.heap.size + 1) 42 19 s.1.1 s.1.2.1 s.1.2.2 (((done.filter (keptB S.2)).map (·.2)).flatMap recL) ∧ Keep (fun _ => False) w w' ∧ w4.heap.size + 1 ≤ w'.heap.size,
      ⟨_, S.1, [], rfl, hI5, by simp, hcl5, Own.nil _ _ _ _, k45, by omega⟩, ?_⟩
    intro _ mm s w6 hs
    obtain ⟨⟨q, ql, qc⟩, u⟩ := s
    obtain ⟨left, done, hmm, hI6, hperm, hcl6, ho6, k6, hsz6⟩ := hs
    simp only at ho6 ⊢
    have hcnt : ∀ (rs : List Rec) {w : World} {q : Option Addr} {ql qc : Nat}, Own w (w4.heap.size + 1) 42 19 q ql qc (rs.flatMap recL) → ql = rs.length := by
      intro rs w q ql qc h5
      rw [flatMap_rows] at h5
      have h6 := h5.count (rows_len _) (by decide)
      rwa [List.length_map] at h6
    have hdl : done.length + left.length = S.1.length := by have := hperm.length_eq; simpa using this
    have hql : ql ≤ done.length := by
      rw [hcnt _ ho6, List.length_map]
      exact List.length_filter_le _ _
    have hS1 : S.1.length ≤ 10000000 := by omega
    rcases run_nextM (P := Try.prog) (ty := 0) hI6 with ⟨hnil, hr6⟩ | ⟨x, v, left', w7, hp7, hr7, hI7, hA7, k7⟩
    · refine ⟨_, _, hr6, Or.inr ⟨rfl, ?_⟩⟩
      have hleft : left = [] := by
        cases left with
        | nil => rfl
        | cons a b => simp [tag] at hnil
      subst hleft
      rw [List.append_nil] at hperm
      have eg : ∀ args w, (callFunc 38 args).run Try.prog w = .ok (.enter 38 args) w := enters_of Try.func38 (by kernel_rfl) rfl
      refine sort_row cmp_dirty eg ho6 (by omega) fun rs w8 hrp hrs ho8 k8 => ?_
      simp only [Ret_nil]
      have hz4 := k4.size
      have k8' : Keep (fun _ => False) w w8 := k6.trans' k8 (fun k hk e => by have := (ho6.lt e).1; omega)
      refine hK q ql qc rs w8 (hrp.trans ?_) hrs ?_ k8'
      · exact (hperm.filter _).map _
      · rcases ho8.cases with ⟨rfl, rfl, rfl, h0⟩ | ⟨b, cur, rfl, hb, hg, hle, hmx, hss, ht'⟩
        · rw [h0]; exact Own.nil _ _ _ _
        · exact Own.mk (by omega) hg hle hmx hss ht'
    · obtain ⟨e, left2, rfl, rfl, hp2⟩ := tag_out un_recA hp7
      refine ⟨_, _, hr7, Or.inl ⟨_, _, rfl, ?_⟩⟩
      have hlt2 : left.length = left2.length + 1 := by have := hp2.length_eq; simpa using this
      refine DoQ_of (fun d => run_entryM (hA7.keep (Keep.drew (fun _ => False) w7 d) (by simp) (by simp))) ?_
      simp only [T2_mk, OpI_int, recA, OpA_agg]
      have hz4 := k4.size
      have k67 : Keep (fun _ => False) w w7 := k6.trans' k7 (fun k hk e => by omega)
      have ho7 := ho6.keep k7 (fun k hp => by have := (ho6.lt hp).1; omega)
      have hcl7 := hcl6.keep k7 (by omega)
      refine ⟨rfl, copy_rec (K := fun b2 w => _) fun w8 hb8 k8 hs8 => ?_⟩
      have hI8 := hI7.keep k8 (by simp) (by simp)
      have hcl8 := hcl7.keep k8 (by simp)
      have ho8 := ho7.keep k8 (by simp)
      have k08 := k67.trans k8
      have hsz8 : w4.heap.size + 1 ≤ w8.heap.size := by have := k7.size; have := k8.size; omega
      refine DoQ_of (fun d => look_clean (hcl8.dr d) x) ?_
      simp only [T2_mk, OpI_int, OpB_bool]
      have hperm2 : ((done ++ [(x, e)]) ++ left2).Perm S.1 := by
        have h9 : (done ++ left).Perm (done ++ (x, e) :: left2) := hp2.append_left done
        have := h9.symm.trans hperm
        simpa using this
      have ha := Has.new w8 (.cells (recV e) 42)
      have k9 := Keep.new (fun _ => False) w8 (.cells (recV e) 42)
      have ho9 := ho8.keep k9 (by simp)
      obtain ⟨p', c', w10, hr10, ho10, k10⟩ := app_rec ho9 ha (by omega) (by have := k9.size; omega)
      have hI9 := hI8.keep k9 (by simp) (by simp)
      have hcl9 := hcl8.keep k9 (by simp)
      have hz9 := k9.size
      have hz10 := k10.size
      have bl : ∀ k, q = some ⟨k, 0, none⟩ → w4.heap.size + 1 ≤ k := fun k hp => (ho9.lt hp).1
      refine Cb_of (fun hb => ?_) (fun hb => ?_)
      · have hl : mlook S.2 x = none := by simpa using hb
        have hkp : keptB S.2 (x, e) = true := by simp [keptB, hl]
        refine LdA_all hb8 rfl ?_
        refine ⟨_, _, bsl_rec e w8, ?_⟩
        simp only [OpS_slice]
        refine ⟨_, _, hr10, ?_⟩
        simp only [OpS_slice]
        exact ⟨left2.length, by omega, left2, done ++ [(x, e)], rfl, hI9.keep k10 (fun hp => by have := bl _ hp; omega) (fun hp => by have := bl _ hp; omega), hperm2, hcl9.keep k10 (fun hp => by have := bl _ hp; omega),
          by simpa [List.filter_append, hkp] using ho10, (k08.trans k9).trans' k10 (fun k hk hp => by have := bl _ hp; omega), by omega⟩
      · cases hl : mlook S.2 x with
        | none => simp [hl] at hb
        | some v =>
          refine LdV_has (v := .int .u64 e.ver) hb8 rfl ?_
          simp only [OpI_int, Option.getD_some]
          refine Cb_of (fun hv => ?_) (fun hv => ?_)
          · have hkp : keptB S.2 (x, e) = true := by simp only [keptB, hl]; exact hv
            refine LdA_all hb8 rfl ?_
            refine ⟨_, _, bsl_rec e w8, ?_⟩
            simp only [OpS_slice]
            refine ⟨_, _, hr10, ?_⟩
            simp only [OpS_slice]
            exact ⟨left2.length, by omega, left2, done ++ [(x, e)], rfl, hI9.keep k10 (fun hp => by have := bl _ hp; omega) (fun hp => by have := bl _ hp; omega), hperm2, hcl9.keep k10 (fun hp => by have := bl _ hp; omega),
              by simpa [List.filter_append, hkp] using ho10, (k08.trans k9).trans' k10 (fun k hk hp => by have := bl _ hp; omega), by omega⟩
          · have hkp : keptB S.2 (x, e) = false := by simp only [keptB, hl]; exact hv
            exact ⟨left2.length, by omega, left2, done ++ [(x, e)], rfl, hI8, hperm2, hcl8, by simpa [List.filter_append, hkp] using ho8, k08, hsz8⟩
end Go.Proofs
