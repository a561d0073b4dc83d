import Derived.Test.YtdeaollkgckppaaScrubM
import Derived.Test.YtdeaollkgckppaaFLaw16

/-
  WHAT A SCRUB AND A REBUILD DO TO A SET WHOSE ROWS CAN BE HAD: plain.
-/
namespace Go.Proofs
open Go Go.Ev
set_option linter.unusedSimpArgs false
set_option linter.unusedVariables false
set_option maxRecDepth 100000

/-- a set with power, noughts as keys, that holds what was written -/
structure Good (g : Geo) (s : SS) (now : Int → Sec) (N : Int) : Prop where
  ss : SsOk g s
  lit : Lit0 s.pw
  key : ∀ i : Nat, (s.ds.getD i dsk0).key ≤ 0
  inv : Inv g s now
  nok : ∀ l, SecOk (now l)
  st0 : 0 ≤ s.pw.steps
  stN : s.pw.steps ≤ N
theorem right_full {T : List Sec} : rightS (fullT T) = fullT T := by
  unfold rightS
  have e : (fullT T).length - 2 = T.length := by rw [len_fullT]; omega
  rw [e]
  unfold fullT
  rw [List.take_left' rfl]
/-- the wrong columns of a row that can be had -/
theorem mem_wrongS {g : Geo} {s : SS} {now : Int → Sec} {N : Int} (h : Good g s now N) {st off : Int} (hst : 0 ≤ st ∧ st < g.s) (hof : 0 ≤ off ∧ off < g.c) (hl : lostN (colsS g s st off) ≤ 2) {k : Int} :
    k ∈ wrongS g s st off ↔ (0 ≤ k ∧ k < g.d) ∧ viewS s (plcP g st off k).dk (plcP g st off k).at_ = none ∧ deadS s (plcP g st off k).dk = false := by
  have hg := h.ss.geo
  have hd := hg.d
  unfold wrongS
  rw [h.inv.rowR hg h.nok hst hof hl, right_full]
  have gone_iff : ∀ n : Nat, n < g.d.toNat → (((n : Int) ∈ goneL (colsS g s st off)) ↔ viewS s (plcP g st off (n : Int)).dk (plcP g st off (n : Int)).at_ = none) := by
    intro n hn
    refine ⟨fun hm => ?_, fun hv => lost_mem hn hv⟩
    obtain ⟨n', h1, h2, h3⟩ := goneI_lt (colsS g s st off) _ _ hm
    have : n = n' := by omega
    subst this
    rw [colsS_view hn] at h3
    exact Option.some.inj h3
  constructor
  · intro hm
    obtain ⟨hk, hw⟩ := mem_wrongL hm
    have hk : 0 ≤ k ∧ k < g.d := by omega
    refine ⟨hk, ?_⟩
    unfold wrongB at hw
    rw [Bool.and_eq_true, Bool.or_eq_true] at hw
    obtain ⟨h1, h2⟩ := hw
    refine ⟨?_, by unfold deadS; simpa using h2⟩
    rcases h1 with h1 | h1
    · have h1 : k ∈ goneL (colsS g s st off) := of_decide_eq_true h1
      have := (gone_iff k.toNat (by omega)).1 (by rw [show ((k.toNat : Nat) : Int) = k by omega]; exact h1)
      rw [show ((k.toNat : Nat) : Int) = k by omega] at this
      exact this
    · simp at h1
  · rintro ⟨hk, hv, hd'⟩
    unfold wrongL
    refine List.mem_filter.2 ⟨List.mem_map.2 ⟨k.toNat, List.mem_range.2 (by omega), by omega⟩, ?_⟩
    unfold wrongB
    rw [Bool.and_eq_true, Bool.or_eq_true]
    refine ⟨Or.inl (decide_eq_true ?_), by unfold deadS at hd'; rw [hd']; rfl⟩
    have := (gone_iff k.toNat (by omega)).2 (by rw [show ((k.toNat : Nat) : Int) = k by omega]; exact hv)
    rw [show ((k.toNat : Nat) : Int) = k by omega] at this
    exact this
theorem nodup_wrongS (g : Geo) (s : SS) (st off : Int) : (wrongS g s st off).Nodup := by
  unfold wrongS wrongL
  refine List.Nodup.sublist List.filter_sublist ?_
  exact List.pairwise_map.2 (List.nodup_range.imp fun h e => h (by omega))
/-- the cells of a row that are written again -/
theorem mendL_ok {g : Geo} {st off : Int} (hst : 0 ≤ st ∧ st < g.s) (hof : 0 ≤ off ∧ off < g.c) {row : List Sec} (hrow : ∀ f ∈ row, SecOk f) {ep : Int} : ∀ (ks : List Int) (x : Int) (s : SS), SsOk g s → Lit0 s.pw → 0 ≤ s.pw.steps → s.pw.steps + ks.length < 4611686018427387904 → (∀ i : Nat, (s.ds.getD i dsk0).key ≤ ep) → (∀ k ∈ ks, deadS s (plcP g st off k).dk = false) →
    ∃ s', mendL g ep st off row ks x s = (0, x + ks.length, s') ∧ SsOk g s' ∧ Lit0 s'.pw ∧ s'.pw.steps = s.pw.steps + ks.length ∧ (∀ i, deadS s' i = deadS s i) ∧ (∀ i : Nat, (s'.ds.getD i dsk0).key = (s.ds.getD i dsk0).key) ∧
      ∀ i a, 0 ≤ i → 0 ≤ a → viewS s' i a = putV (ks.map (putK g st off row)) (viewS s) i a
  | [], x, s, hs, hl, _, _, _, _ => ⟨s, by show (0, x, s) = (0, x + ((0 : Nat) : Int), s); rw [show x + ((0 : Nat) : Int) = x by omega], hs, hl, by simp, fun _ => rfl, fun _ => rfl, fun _ _ _ _ => rfl⟩
  | k :: ks, x, s, hs, hl, h0, h1, hep, hal => by
    have h1 : s.pw.steps + ((ks.length + 1 : Nat) : Int) < 4611686018427387904 := h1
    have hk := hal k (by simp)
    obtain ⟨pk1, pk2⟩ := plcP_ok hs.geo hst hof k
    have hc := (putK_cok (g := g) (st := st) (off := off) hrow k).1
    have hseal : ∀ x ∈ [putK g st off row k], Sealed g s x := by
      intro y hy
      rw [List.mem_singleton.1 hy]
      exact ⟨⟨pk1, pk2⟩, hc, rfl, hk⟩
    obtain ⟨s1, a1, a2, a3, a4, a5, a6, a7⟩ := applyS_ok hs hl h0 (xs := [putK g st off row k]) (by show s.pw.steps + ((1 : Nat) : Int) < _; omega) hseal hep
    have a4 : s1.pw.steps = s.pw.steps + 1 := a4
    obtain ⟨s', b1, b2, b3, b4, b5, b6, b7⟩ := mendL_ok hst hof hrow (ep := ep) ks (x + 1) s1 a2 a3 (by omega) (by omega) (fun i => by rw [a6]; exact hep i) (fun j hj => by rw [a5]; exact hal j (by simp [hj]))
    refine ⟨s', ?_, b2, b3, ?_, fun i => by rw [b5, a5], fun i => by rw [b6, a6], fun i a hi ha => ?_⟩
    · rw [mendL_cons, a1, if_neg (by simp), b1]
      show (0, x + 1 + (ks.length : Int), s') = (0, x + ((ks.length + 1 : Nat) : Int), s')
      rw [show x + 1 + (ks.length : Int) = x + ((ks.length + 1 : Nat) : Int) by omega]
    · rw [b4, a4]
      show s.pw.steps + 1 + (ks.length : Int) = s.pw.steps + ((ks.length + 1 : Nat) : Int)
      omega
    · rw [b7 i a hi ha, List.map_cons, putV_cons]
      exact putV_congr _ (a7 i a hi ha)
/-- what is seen of a row's cell behind its columns are written -/
theorem putV_row {g : Geo} (hg : GeoOk g) {st off : Int} (hst : 0 ≤ st ∧ st < g.s) (hof : 0 ≤ off ∧ off < g.c) {row : List Sec} : ∀ (ks : List Int) {v : Int → Int → Option Sec}, (∀ k ∈ ks, 0 ≤ k ∧ k < g.d) → ∀ k, (0 ≤ k ∧ k < g.d) → k ∈ ks →
    putV (ks.map (putK g st off row)) v (plcP g st off k).dk (plcP g st off k).at_ = some (row.getD k.toNat (sec []))
  | [], _, _, k, _, h => by cases h
  | j :: ks, v, hr, k, hk, h => by
    rw [List.map_cons, putV_cons]
    by_cases hm : k ∈ ks
    · exact putV_row hg hst hof ks (fun i hi => hr i (by simp [hi])) k hk hm
    · have e : k = j := by
        rcases List.mem_cons.1 h with h | h
        · exact h
        · exact absurd h hm
      subst e
      rw [putV_other _ fun y hy he => ?_]
      · rw [if_pos ⟨rfl, rfl⟩]; rfl
      · obtain ⟨j, hj, rfl⟩ := List.mem_map.1 hy
        have := plcP_inj hg hst hof hst hof hk (hr j (by simp [hj])) he.1 he.2
        exact hm (by rw [this.2.2]; exact hj)
/-- columns of a row that can be had are written: the set stays true -/
theorem put_row {g : Geo} {s s' : SS} {now : Int → Sec} {N : Int} (h : Good g s now N) {st off : Int} (hst : 0 ≤ st ∧ st < g.s) (hof : 0 ≤ off ∧ off < g.c) {ks : List Int} (hks : ∀ k ∈ ks, 0 ≤ k ∧ k < g.d)
    (hv : ∀ i a, 0 ≤ i → 0 ≤ a → viewS s' i a = putV (ks.map (putK g st off (fullT (rowT g now st off)))) (viewS s) i a) : Inv g s' now ∧ (∀ i a, (0 ≤ i ∧ i < g.d) → (0 ≤ a ∧ a < g.c * g.s) → (viewS s' i a = none ↔ viewS s i a = none ∧ ¬ ∃ k ∈ ks, i = (plcP g st off k).dk ∧ a = (plcP g st off k).at_)) := by
  have hg := h.ss.geo
  have hd := hg.d
  have other : ∀ i a, (∀ k ∈ ks, ¬ (i = (plcP g st off k).dk ∧ a = (plcP g st off k).at_)) → putV (ks.map (putK g st off (fullT (rowT g now st off)))) (viewS s) i a = viewS s i a := fun i a hne => putV_other _ fun y hy => by
    obtain ⟨k, hk, rfl⟩ := List.mem_map.1 hy
    exact hne k hk
  refine ⟨fun st2 off2 hst2 hof2 k hk f hf => ?_, fun i a hi ha => ?_⟩
  · obtain ⟨pk1, pk2⟩ := plcP_ok hg hst2 hof2 (k : Int)
    rw [hv _ _ pk1.1 pk2.1] at hf
    by_cases hex : ∃ j ∈ ks, (plcP g st2 off2 (k : Int)).dk = (plcP g st off j).dk ∧ (plcP g st2 off2 (k : Int)).at_ = (plcP g st off j).at_
    · obtain ⟨j, hj, e1, e2⟩ := hex
      have hinj := plcP_inj hg hst2 hof2 hst hof (k := (k : Int)) (k2 := j) (by omega) (hks j hj) e1 e2
      obtain ⟨rfl, rfl, rfl⟩ := hinj
      rw [putV_row hg hst hof ks hks _ (by omega) hj] at hf
      rw [← Option.some.inj hf, Int.toNat_natCast, List.getD_eq_getElem?_getD]
      have hlt : k < (fullT (rowT g now st2 off2)).length := by rw [len_fullT, len_rowT]; omega
      rw [List.getElem?_eq_getElem hlt]; rfl
    · rw [other _ _ fun j hj he => hex ⟨j, hj, he⟩] at hf
      exact h.inv st2 off2 hst2 hof2 k hk f hf
  · rw [hv _ _ hi.1 ha.1]
    by_cases hex : ∃ k ∈ ks, i = (plcP g st off k).dk ∧ a = (plcP g st off k).at_
    · obtain ⟨k, hk, rfl, rfl⟩ := hex
      rw [putV_row hg hst hof ks hks k (hks k hk) hk]
      exact ⟨fun e => (by cases e), fun e => absurd ⟨k, hk, rfl, rfl⟩ e.2⟩
    · rw [other _ _ fun k hk he => hex ⟨k, hk, he⟩]
      exact ⟨fun e => ⟨e, hex⟩, fun e => e.1⟩
/-- a row that can be had is mended -/
theorem row_mend {g : Geo} {s : SS} {now : Int → Sec} {N : Int} (h : Good g s now N) (hN : N < 1000000000) {st off : Int} (hst : 0 ≤ st ∧ st < g.s) (hof : 0 ≤ off ∧ off < g.c) (hl : lostN (colsS g s st off) ≤ 2) (x : Int) :
    ∃ s', mendL g 0 st off (rightS (rowR (colsS g s st off))) (wrongS g s st off) x s = (0, x + (wrongS g s st off).length, s') ∧ Good g s' now (N + 32) ∧ s'.pw.steps = s.pw.steps + (wrongS g s st off).length ∧ (∀ i, deadS s' i = deadS s i) ∧
      ∀ i a, (0 ≤ i ∧ i < g.d) → (0 ≤ a ∧ a < g.c * g.s) → (viewS s' i a = none ↔ viewS s i a = none ∧ (deadS s i = true ∨ a ≠ st * g.c + off)) := by
  have hg := h.ss.geo
  have hd := hg.d
  have hlen : (wrongS g s st off).length ≤ 32 := Nat.le_trans (wrongL_len _ _ _ _ _ _ _ _) (by omega)
  have hmem := fun k => mem_wrongS h hst hof hl (k := k)
  rw [h.inv.rowR hg h.nok hst hof hl, right_full]
  generalize wrongS g s st off = ws at *
  have hst0 := h.st0
  have hstN := h.stN
  obtain ⟨s', a1, a2, a3, a4, a5, a6, a7⟩ := mendL_ok hst hof (fullT_ok (rowT_ok (g := g) h.nok st off)) (ep := 0) ws x s h.ss h.lit h.st0 (by omega) h.key fun k hk => ((hmem k).1 hk).2.2
  obtain ⟨b1, b2⟩ := put_row h hst hof (fun k hk => ((hmem k).1 hk).1) a7
  refine ⟨s', a1, ⟨a2, a3, fun i => by rw [a6]; exact h.key i, b1, h.nok, by omega, by omega⟩, a4, a5, fun i a hi ha => ?_⟩
  rw [b2 i a hi ha]
  constructor
  · rintro ⟨hv, hne⟩
    refine ⟨hv, ?_⟩
    cases hdd : deadS s i with
    | true => exact Or.inl rfl
    | false =>
      right
      intro e
      obtain ⟨ck, cd⟩ := colP_ok hg hi st off
      have hat : (plcP g st off (colP g i st)).at_ = a := e.symm
      exact hne ⟨colP g i st, (hmem _).2 ⟨ck, by rw [cd, hat]; exact hv, by rw [cd]; exact hdd⟩, cd.symm, hat.symm⟩
  · rintro ⟨hv, hne⟩
    refine ⟨hv, ?_⟩
    rintro ⟨k, hk, e1, e2⟩
    rcases hne with e | e
    · have := ((hmem k).1 hk).2.2
      rw [← e1, e] at this
      cases this
    · exact e e2
end Go.Proofs

/-
  A SCRUB OF A STRIPE, plain.
-/
namespace Go.Proofs
open Go Go.Ev
set_option linter.unusedSimpArgs false
set_option linter.unusedVariables false
set_option maxRecDepth 100000

theorem lostN_count (Cs : List (Option Sec)) : lostN Cs = Cs.countP Option.isNone := by
  unfold lostN
  rw [List.countP_eq_length_filter]
theorem colsS_map (g : Geo) (s : SS) (st off : Int) : colsS g s st off = (List.range g.d.toNat).map fun k => viewS s (plcP g st off ((k : Nat) : Int)).dk (plcP g st off ((k : Nat) : Int)).at_ := by
  apply List.ext_getElem?
  intro i
  by_cases hi : i < g.d.toNat
  · rw [colsS_view hi, List.getElem?_map, List.getElem?_range hi]; rfl
  · rw [List.getElem?_eq_none (by rw [len_colsS]; omega), List.getElem?_eq_none (by simp; omega)]
theorem lostN_mono {g : Geo} {s s' : SS} {st off : Int} (h : ∀ k : Nat, k < g.d.toNat → viewS s' (plcP g st off (k : Int)).dk (plcP g st off (k : Int)).at_ = none → viewS s (plcP g st off (k : Int)).dk (plcP g st off (k : Int)).at_ = none) : lostN (colsS g s' st off) ≤ lostN (colsS g s st off) := by
  rw [lostN_count, lostN_count, colsS_map, colsS_map, List.countP_map, List.countP_map]
  refine List.countP_mono_left fun k hk hv => ?_
  have hk := List.mem_range.1 hk
  simp only [Function.comp, Option.isNone_iff_eq_none] at hv ⊢
  exact h k hk hv
theorem len_one {l : List Int} (hn : l.Nodup) {c : Int} (h : ∀ k, k ∈ l ↔ k = c) : l.length = 1 := by
  match l, hn, h with
  | [], _, h => exact absurd ((h c).2 rfl) (by simp)
  | [x], _, _ => rfl
  | x :: y :: r, hn, h =>
    have e1 := (h x).1 (by simp)
    have e2 := (h y).1 (by simp)
    rw [List.nodup_cons] at hn
    exact absurd (by rw [e1, e2]; simp) hn.1
theorem len_none {l : List Int} (h : ∀ k, ¬ k ∈ l) : l = [] := List.eq_nil_iff_forall_not_mem.2 h
theorem Good.mono {g : Geo} {s : SS} {now : Int → Sec} {N M : Int} (h : Good g s now N) (hM : N ≤ M) : Good g s now M := ⟨h.ss, h.lit, h.key, h.inv, h.nok, h.st0, by have := h.stN; omega⟩
/-- the rows of a stripe, from one on, where all of them can be had -/
theorem scrubL_ok {g : Geo} {now : Int → Sec} {st : Int} (hst : 0 ≤ st ∧ st < g.s) : ∀ (n : Nat) (off : Int) (x : Rep) (s : SS) (N : Int), Good g s now N → N + 32 * n < 1000000000 → 0 ≤ off → off + n = g.c → (∀ o : Int, off ≤ o ∧ o < g.c → lostN (colsS g s st o) ≤ 2) →
    ∃ (s' : SS) (j : Nat), scrubL g 0 st n off x s = (0, ⟨x.rows + n, x.bad + j, x.fixed + j, x.lost⟩, s') ∧ Good g s' now (N + 32 * n) ∧ s'.pw.steps = s.pw.steps + j ∧ (∀ i, deadS s' i = deadS s i) ∧
      (∀ i a, (0 ≤ i ∧ i < g.d) → (0 ≤ a ∧ a < g.c * g.s) → (viewS s' i a = none ↔ viewS s i a = none ∧ (deadS s i = true ∨ ¬ (st * g.c + off ≤ a ∧ a < st * g.c + off + n)))) ∧ (Whole g s → j = 0)
  | 0, off, x, s, N, h, _, _, _, _ => by
    refine ⟨s, 0, ?_, h.mono (by omega), by simp, fun _ => rfl, fun i a _ _ => ⟨fun e => ⟨e, Or.inr (by omega)⟩, fun e => e.1⟩, fun _ => rfl⟩
    show (0, x, s) = _
    obtain ⟨a, b, c, d⟩ := x
    simp
  | n + 1, off, x, s, N, h, hN, h0, hn, hl => by
    have hg := h.ss.geo
    have hof : 0 ≤ off ∧ off < g.c := by omega
    have hl1 := hl off (by omega)
    obtain ⟨s1, a1, a2, a3, a4, a5⟩ := row_mend h (by omega) hst hof hl1 x.fixed
    have hlen : (wrongS g s st off).length ≤ 32 := Nat.le_trans (wrongL_len _ _ _ _ _ _ _ _) (by have := hg.d; omega)
    have hl' : ∀ o : Int, off + 1 ≤ o ∧ o < g.c → lostN (colsS g s1 st o) ≤ 2 := fun o ho => Nat.le_trans (lostN_mono fun k hk hv => by
      obtain ⟨pk1, pk2⟩ := plcP_ok hg hst (off := o) (by omega) (k : Int)
      exact ((a5 _ _ pk1 pk2).1 hv).1) (hl o (by omega))
    obtain ⟨s', j, b1, b2, b3, b4, b5, b6⟩ := scrubL_ok hst n (off + 1) ⟨x.rows + 1, x.bad + (wrongS g s st off).length, x.fixed + (wrongS g s st off).length, x.lost⟩ s1 (N + 32) a2 (by omega) (by omega) (by omega) hl'
    refine ⟨s', (wrongS g s st off).length + j, ?_, b2.mono (by omega), by rw [b3, a3]; omega, fun i => by rw [b4, a4], fun i a hi ha => ?_, fun hW => ?_⟩
    · rw [scrubL_succ, if_neg (by rw [h.lit.1]; decide), if_pos hl1, a1, if_neg (by simp), b1]
      simp only [Prod.mk.injEq, Rep.mk.injEq, true_and, and_true]
      omega
    · rw [b5 i a hi ha, a5 i a hi ha, a4 i]
      constructor
      · rintro ⟨⟨c1, c2⟩, c3⟩
        refine ⟨c1, ?_⟩
        rcases c2 with c2 | c2
        · exact Or.inl c2
        · rcases c3 with c3 | c3
          · exact Or.inl c3
          · exact Or.inr (by omega)
      · rintro ⟨c1, c2⟩
        refine ⟨⟨c1, ?_⟩, ?_⟩
        · rcases c2 with c2 | c2
          · exact Or.inl c2
          · exact Or.inr (by omega)
        · rcases c2 with c2 | c2
          · exact Or.inl c2
          · exact Or.inr (by omega)
    · have e1 : wrongS g s st off = [] := len_none fun k hk => by
        obtain ⟨c1, c2, c3⟩ := (mem_wrongS h hst hof hl1).1 hk
        obtain ⟨pk1, pk2⟩ := plcP_ok hg hst hof k
        exact hW _ _ pk1 pk2 c2
      have e2 := b6 fun i a hi ha hv => hW i a hi ha ((a5 i a hi ha).1 hv).1
      rw [e1, e2]; rfl
theorem scrubS_ok {g : Geo} {now : Int → Sec} {st : Int} (hst : 0 ≤ st ∧ st < g.s) {s : SS} {N : Int} (h : Good g s now N) (hN : N < 100000000) (hl : ∀ o : Int, 0 ≤ o ∧ o < g.c → lostN (colsS g s st o) ≤ 2) :
    ∃ (s' : SS) (j : Nat), scrubS g s st 0 = (0, ⟨g.c, j, j, 0⟩, s') ∧ Good g s' now (N + 256) ∧ s'.pw.steps = s.pw.steps + j ∧ (∀ i, deadS s' i = deadS s i) ∧
      (∀ i a, (0 ≤ i ∧ i < g.d) → (0 ≤ a ∧ a < g.c * g.s) → (viewS s' i a = none ↔ viewS s i a = none ∧ (deadS s i = true ∨ ¬ (st * g.c ≤ a ∧ a < st * g.c + g.c)))) ∧ (Whole g s → j = 0) := by
  have hc := h.ss.geo.c
  obtain ⟨s', j, a1, a2, a3, a4, a5, a6⟩ := scrubL_ok hst g.c.toNat 0 rep0 s N h (by omega) (by omega) (by omega) hl
  have e : ((g.c.toNat : Nat) : Int) = g.c := by omega
  rw [e] at a1 a2 a5
  refine ⟨s', j, ?_, a2.mono (by omega), a3, a4, fun i a hi ha => ?_, a6⟩
  · unfold scrubS
    rw [a1]
    simp [rep0]
  · rw [a5 i a hi ha, Int.add_zero]
/-- a set all of whose cells are seen, and whose disks live, is sound -/
theorem whole_sound {g : Geo} {s : SS} {now : Int → Sec} {N : Int} (h : Good g s now N) (hW : Whole g s) : SetSound g s := by
  intro st off hst hof
  have hg := h.ss.geo
  have hl := hW.lost hg hst hof
  refine ⟨by omega, List.all_eq_true.2 fun x hx => ?_, len_none fun k hk => ?_⟩
  · have hx1 := rowP_in hg hst hof hx
    unfold aliveP
    have hs := hg.size
    cases hd : (s.ds.getD x.dk.toNat dsk0).dead with
    | false => rfl
    | true => exact absurd (view_dead (a := 0) (by unfold deadS; exact hd)) (hW x.dk 0 hx1 (by omega))
  · obtain ⟨c1, c2, c3⟩ := (mem_wrongS h hst hof (by omega)).1 hk
    obtain ⟨pk1, pk2⟩ := plcP_ok hg hst hof k
    exact hW _ _ pk1 pk2 c2
/-- a rebuild of a disk all of whose cells are seen changes nothing -/
theorem rebL_still {g : Geo} {i : Int} {s : SS} (hon : s.pw.on = true) : ∀ (n : Nat) (m : Int), (∀ a, m ≤ a ∧ a < m + n → viewS s i a ≠ none) → rebL g 0 i n m s = (m + n, 0, s)
  | 0, m, _ => by show (m, 0, s) = _; simp
  | n + 1, m, h => by
    rw [rebL_succ, if_neg (by rw [hon]; decide), if_pos, rebL_still hon n (m + 1) fun a ha => h a (by omega)]
    · rw [show m + 1 + (n : Int) = m + ((n + 1 : Nat) : Int) by omega]
    · have := h m (by omega)
      cases hv : viewS s i m with
      | none => exact absurd hv this
      | some f => rfl
end Go.Proofs

/-
  THE LAWS OF SCRUB: a set in use, its calls; small and awake.
-/
namespace Go.Proofs
open Go Go.Ev
set_option linter.unusedSimpArgs false
set_option linter.unusedVariables false
set_option maxRecDepth 100000

def smallG16 (a b c : Int) : Geo := ⟨a % 4 + 4, b % 2 + 1, c % 3 + 1⟩
theorem smallG16_ok {a b c : Int} : GeoOk (smallG16 a b c) := by
  have h1 := Int.emod_nonneg a (show (4 : Int) ≠ 0 by decide)
  have h2 := Int.emod_lt_of_pos a (show (0 : Int) < 4 by decide)
  have h3 := Int.emod_nonneg b (show (2 : Int) ≠ 0 by decide)
  have h4 := Int.emod_lt_of_pos b (show (0 : Int) < 2 by decide)
  have h5 := Int.emod_nonneg c (show (3 : Int) ≠ 0 by decide)
  have h6 := Int.emod_lt_of_pos c (show (0 : Int) < 3 by decide)
  exact ⟨⟨by show 4 ≤ a % 4 + 4; omega, by show a % 4 + 4 ≤ 32; omega⟩, ⟨by show 1 ≤ b % 2 + 1; omega, by show b % 2 + 1 ≤ 8; omega⟩, ⟨by show 1 ≤ c % 3 + 1; omega, by show c % 3 + 1 ≤ 64; omega⟩⟩
theorem EqB_rep {x y : Operand} {a b : Rep} {N : Int} (ha : RepLe a N) (hb : RepLe b N) (hN : N ≤ 1000000000) {C : World → Prop} {K : Bool → Prop} (hK : ∀ r : Bool, (r = true ↔ a = b) → K r) :
    EqB Try.prog .eql 97 x y (.agg (repV a)) (.agg (repV b)) C K := by
  have ok : ∀ n : Int, 0 ≤ n ∧ n ≤ N → CK.ok (.int .i64) (.int .i64 n) := fun n hn => ⟨_, rfl, by show (-9223372036854775808 : Int) ≤ n; omega, by show n ≤ (9223372036854775807 : Int); omega⟩
  have hf : ∀ r : Rep, RepLe r N → Fits [.int .i64, .int .i64, .int .i64, .int .i64] (repV r).toList := fun r hr => ⟨ok _ hr.1, ok _ hr.2.1, ok _ hr.2.2.1, ok _ hr.2.2.2, trivial⟩
  refine EqB_flat (ks := [.int .i64, .int .i64, .int .i64, .int .i64]) (by kernel_rfl) (by kernel_rfl) (by kernel_rfl) (by kernel_rfl) (by kernel_rfl) (hf a ha) (hf b hb) fun r hr => hK r (hr.trans ⟨fun e => ?_, fun e => by rw [e]⟩)
  have e : (repV a).toList = (repV b).toList := by rw [e]
  have e : [Value.int .i64 a.rows, .int .i64 a.bad, .int .i64 a.fixed, .int .i64 a.lost] = [Value.int .i64 b.rows, .int .i64 b.bad, .int .i64 b.fixed, .int .i64 b.lost] := e
  simp only [List.cons.injEq, Value.int.injEq, true_and, and_true] at e
  cases a; cases b; simp_all
/-- a set in use -/
structure GdI (w : World) (base : Nat) (g : Geo) (m : Nat) (bks : List (Nat × Nat)) (p : Option Addr) (c : Nat) (s : SS) (now : Int → Sec) (N : Int) : Prop where
  set : SetAt w ⟨m, g, bks⟩ s
  disks : OwnL dLay w base 59 p g.d.toNat c (bks.map Prod.fst)
  good : Good g s now N
theorem newS_good {g : Geo} (hg : GeoOk g) : Good g (newS g pw0) now0 0 := ⟨newS_ok hg pw0, lit0, fun i => by rw [newS_key]; omega, newS_inv hg pw0, now0_ok, by show (0 : Int) ≤ 0; omega, by show (0 : Int) ≤ 0; omega⟩
theorem wrong_one {g : Geo} {s : SS} {now : Int → Sec} {N : Int} (h : Good g s now N) {st off : Int} (hst : 0 ≤ st ∧ st < g.s) (hof : 0 ≤ off ∧ off < g.c) (hl : lostN (colsS g s st off) ≤ 2) {x : Int} (hx : 0 ≤ x ∧ x < g.d) (hal : deadS s x = false)
    (hv : ∀ i, (0 ≤ i ∧ i < g.d) → (viewS s i (st * g.c + off) = none ↔ i = x)) : (wrongS g s st off).length = 1 := by
  have hg := h.ss.geo
  obtain ⟨ck, cd⟩ := colP_ok hg hx st off
  refine len_one (nodup_wrongS g s st off) (c := colP g x st) fun k => ?_
  rw [mem_wrongS h hst hof hl]
  constructor
  · rintro ⟨hk, hvv, _⟩
    obtain ⟨pk1, pk2⟩ := plcP_ok hg hst hof k
    have e := (hv _ pk1).1 hvv
    exact (plcP_inj hg hst hof hst hof hk ck (by rw [cd, e]) rfl).2.2
  · intro e
    subst e
    exact ⟨ck, by rw [cd]; exact (hv x hx).2 rfl, by rw [cd]; exact hal⟩
theorem newS_al (g : Geo) (pw : Pow) : ∀ i, deadS (newS g pw) i = false := newS_dead g pw
/-- Hurt and what it answers, at a sector of a living disk -/
theorem d_HurtE {w : World} {m b r : Nat} {D : Dsk} {R : Value → World → Prop} (h : DiskAt w m b r D) {at_ : Int} (hin : 0 ≤ at_ ∧ at_ < (D.secs.length : Int)) (hd : D.dead = false) (hK : ∀ w', DiskAt w' m b r (hurtD D at_) → Keep (fun k => k = r) w w' → R (.int .i64 0) w') :
    CallV Try.prog 26 #[.pointer (some ⟨b, 0, none⟩), .int .i64 at_] w R := by
  apply C_disk_Disk_Hurt
  unfold F_disk_Disk_Hurt
  unfold hurtD at hK
  refine d_in h (OpB_bool.2 ?_)
  rw [decide_eq_true hin]
  refine (Cb_false (p := _)).2 ?_
  rw [if_pos hin] at hK
  refine LdV_has (v := .bool D.dead) h.cells rfl (OpB_bool.2 ?_)
  rw [hd]
  refine (Cb_false (p := _)).2 ?_
  rw [if_neg (by simp [hd])] at hK
  refine LdV_has (v := .slice (some ⟨r, 0, none⟩) D.secs.length D.secs.length) h.cells rfl (OpS_slice.2 ?_)
  have hget : D.secs[at_.toNat]? = some (D.secs.getD at_.toNat sct0) := by
    have := getD_at (xs := D.secs) (i := at_.toNat) (by omega) sct0
    rwa [Int.toNat_natCast] at this
  generalize D.secs.getD at_.toNat sct0 = x at *
  refine h.row.stF (i := at_) (n := 18) (t := 17) (x := x) (y := { x with good := false }) (v := .bool false) rfl hin.1 hget (by decide) rfl rfl fun w' ho k _ => ?_
  have k' : Keep (fun k => k = r) w w' := k.mono fun k hk => by
    injection hk with hk
    injection hk with hk
    exact hk.symm
  have hl : (D.secs.set at_.toNat { x with good := false }).length = D.secs.length := by simp
  refine Ret_nil.2 (hK w' ⟨?_, ?_⟩ k')
  · have := k'.has h.cells h.ne
    unfold diskC at this ⊢
    rw [hl]
    exact this
  · rw [hl]
    exact ho
section calls
variable {w w' : World} {base : Nat} {g : Geo} {m : Nat} {bks : List (Nat × Nat)} {p : Option Addr} {c : Nat} {s : SS} {now : Int → Sec} {N : Int} {R : Value → World → Prop}
theorem GdI.st (h : GdI w base g m bks p c s now N) : StI w base g m bks p c s now := ⟨h.set, h.disks, h.good.ss, h.good.lit, h.good.key, h.good.inv, h.good.nok⟩
theorem GdI.keep0 (h : GdI w base g m bks p c s now N) (k : Keep (fun _ => False) w w') : GdI w' base g m bks p c s now N := ⟨h.set.keep0 k, h.disks.keep k (by simp), h.good⟩
theorem GdI.keep {S : Nat → Prop} (h : GdI w base g m bks p c s now N) (k : Keep S w w') (hS : ∀ b, SFoot ⟨m, g, bks⟩ b → ¬ S b) (hD : ∀ b, p = some ⟨b, 0, none⟩ → ¬ S b) : GdI w' base g m bks p c s now N :=
  ⟨h.set.keep k hS, h.disks.keep k hD, h.good⟩
theorem GdI.apply (h : GdI w base g m bks p c s now N) (hN : N < 1000000) (hW : Whole g s) (hal : ∀ i, deadS s i = false) {lba : Int} (h0 : 0 ≤ lba) (h1 : lba < (g.d - 2) * g.c * g.s) {data : Sec} (hdat : SecOk data)
    {pb : Nat} {pp : Option Addr} {pl pc : Nat} (hpl : pl ≤ 3) (o : OwnL puLay w pb 110 pp pl pc (planS g s lba data).1)
    (hK : ∀ w' s', GdI w' base g m bks p c s' (upd now lba data) (N + 3) → Whole g s' → (∀ i, deadS s' i = false) → s'.pw.steps = s.pw.steps + 3 → Keep (SFoot ⟨m, g, bks⟩) w w' → R (.int .i64 0) w') :
    CallV Try.prog 18 #[.agg (setV g p g.d.toNat c), .slice pp pl pc, .int .u32 0] w R := by
  have hg := h.good.ss.geo
  obtain ⟨pst, pco, pof⟩ := spotP_ok hg h0 h1
  have hlost : lostN (colsS g s (spotP g lba).1 (spotP g lba).2.2) ≤ 2 := by rw [hW.lost hg pst pof]; omega
  refine h.st.apply h0 h1 hdat hlost hpl o fun w' s' hap hw hT k => ?_
  have h00 := h.good.st0
  have h0N := h.good.stN
  obtain ⟨_, hst, hal', _, _⟩ := write_alive h.good.ss h.good.inv h.good.nok h.good.lit h0 h1 hdat h.good.key hlost hal h.good.st0 (by omega) hap
  exact hK w' s' ⟨hT.set, hT.disks, ⟨hT.ss, hT.lit, hT.key, hT.inv, hT.nok, by omega, by omega⟩⟩ (hW.write hw) hal' hst k
theorem GdI.plan (h : GdI w base g m bks p c s now N) (hW : Whole g s) {lba : Int} (h0 : 0 ≤ lba) (h1 : lba < (g.d - 2) * g.c * g.s) {data : Sec} (hdat : SecOk data)
    (hK : ∀ p' n c' w', n ≤ 3 → OwnL puLay w' w.heap.size 110 p' n c' (planS g s lba data).1 → Keep (fun _ => False) w w' → R (.tuple #[.slice p' n c', .int .i64 0]) w') :
    CallV Try.prog 17 #[.agg (setV g p g.d.toNat c), .int .i64 lba, .agg (secV data)] w R := by
  have hg := h.good.ss.geo
  obtain ⟨pst, pco, pof⟩ := spotP_ok hg h0 h1
  have hlost : lostN (colsS g s (spotP g lba).1 (spotP g lba).2.2) ≤ 2 := by rw [hW.lost hg pst pof]; omega
  exact h.st.plan h0 h1 hdat hlost fun p' n c' w' _ h3 o k => hK p' n c' w' h3 o k
theorem GdI.scrub (h : GdI w base g m bks p c s now N) (hN : N < 1000000) {st : Int} (hl : ∀ o : Int, (0 ≤ st ∧ st < g.s) → 0 ≤ o ∧ o < g.c → lostN (colsS g s st o) ≤ 2)
    (hBad : ¬ (0 ≤ st ∧ st < g.s) → ∀ w', Keep (fun _ => False) w w' → R (.tuple #[.agg (repV rep0), .int .i64 2]) w')
    (hK : (0 ≤ st ∧ st < g.s) → ∀ w' s' (j : Nat), GdI w' base g m bks p c s' now (N + 256) → s'.pw.steps = s.pw.steps + j → (∀ i, deadS s' i = deadS s i) → (∀ i a, (0 ≤ i ∧ i < g.d) → (0 ≤ a ∧ a < g.c * g.s) → (viewS s' i a = none ↔ viewS s i a = none ∧ (deadS s i = true ∨ ¬ (st * g.c ≤ a ∧ a < st * g.c + g.c)))) → (Whole g s → j = 0) → Keep (SFoot ⟨m, g, bks⟩) w w' → R (.tuple #[.agg (repV ⟨g.c, j, j, 0⟩), .int .i64 0]) w') :
    CallV Try.prog 38 #[.agg (setV g p g.d.toNat c), .int .i64 st, .int .u32 0] w R := by
  refine sc_Scrub h.set h.disks.sl h.disks.cap.1 h.st.off h.good.ss.ok (st := st) hBad fun hst w' hS k => ?_
  obtain ⟨s', j, a1, a2, a3, a4, a5, a6⟩ := scrubS_ok hst h.good (by omega) (fun o ho => hl o hst ho)
  have a1' : scrubS (SB.mk m g bks).g s st 0 = (0, ⟨g.c, j, j, 0⟩, s') := a1
  rw [a1'] at hS ⊢
  exact hK hst w' s' j ⟨hS, h.st.disks' k, a2⟩ a3 a4 a5 a6 k
theorem GdI.sound (h : GdI w base g m bks p c s now N) (hK : ∀ (g1 : Bool) w', (g1 = true ↔ SetSound g s) → Keep (fun _ => False) w w' → R (.tuple #[.bool g1, .int .i64 0]) w') :
    CallV Try.prog 39 #[.agg (setV g p g.d.toNat c)] w R :=
  sc_Sound h.set h.disks.sl h.disks.cap.1 h.good.ss.ok (fun hp => absurd hp (by rw [h.good.lit.1]; decide)) fun _ => hK
/-- a sector is hurt -/
theorem GdI.hurtT (h : GdI w base g m bks p c s now N) {i a : Int} (hi : 0 ≤ i ∧ i < g.d) (ha : 0 ≤ a ∧ a < g.c * g.s) (hal : deadS s i = false) (hK : ∀ w', GdI w' base g m bks p c (hurtS s i a) now N → Keep (SFoot ⟨m, g, bks⟩) w w' → R (.int .i64 0) w') :
    IdxS p g.d.toNat i 1 fun b o => LdV b o (At w) fun v => OpN v fun b2 o2 => CallV Try.prog 26 #[.pointer (some ⟨b2, o2, none⟩), .int .i64 a] w R := by
  have hnum : (s.ds.length : Int) = g.d := h.set.num
  obtain ⟨b, r, D, hbk, hD, hda, hdl⟩ := h.set.get (i := i.toNat) (by omega)
  have hDg : s.ds.getD i.toNat dsk0 = D := by rw [List.getD_eq_getElem?_getD, hD]; rfl
  have hbk : bks[i.toNat]? = some (b, r) := hbk
  refine h.disks.sl.ld0 (i := i) (n := 1) (x := b) (v := .pointer (some ⟨b, 0, none⟩)) rfl hi.1 (by rw [List.getElem?_map, hbk]; rfl) rfl (OpN_some.2 ?_)
  have hdl : (D.secs.length : Int) = g.c * g.s := hdl
  refine d_HurtE hda (by rw [hdl]; exact ha) (by unfold deadS at hal; rw [hDg] at hal; exact hal) fun w2 hd2 k2 => ?_
  have kf : Keep (SFoot ⟨m, g, bks⟩) w w2 := k2.mono fun k hk => Or.inr (Or.inr (by rw [hk]; exact List.mem_map.2 ⟨(b, r), List.mem_of_getElem? hbk, rfl⟩))
  have hm2 : MaAt w2 m s.pw := k2.has h.set.main (fun e => (hda.nem h.set.main).2 e.symm)
  have hS2 := h.set.upd hbk (k2.mono fun k hk => Or.inr (Or.inr hk)) hd2 (by rw [hurtD_len]; exact hdl) hm2
  refine hK w2 ⟨?_, h.st.disks' kf, ⟨hurtS_ok h.good.ss hi a, h.good.lit, fun j => by rw [hurtS_key (by omega)]; exact h.good.key j, hurtS_inv h.good.ss h.good.inv hi ha, h.good.nok, h.good.st0, h.good.stN⟩⟩ kf
  unfold hurtS
  rw [hDg]
  exact hS2
/-- a rebuild of a disk all of whose cells are seen -/
theorem GdI.rebuildStill (h : GdI w base g m bks p c s now N) (hW : Whole g s) {i n : Int} (hi : 0 ≤ i ∧ i < g.d) (hal : deadS s i = false) (hn : g.c * g.s ≤ n) (hK : ∀ w', GdI w' base g m bks p c s now N → Keep (SFoot ⟨m, g, bks⟩) w w' → R (.tuple #[.int .i64 (g.c * g.s), .int .i64 0]) w') :
    CallV Try.prog 41 #[.agg (setV g p g.d.toNat c), .int .i64 i, .int .i64 0, .int .i64 n, .int .u32 0] w R := by
  have hsz := h.good.ss.geo.size
  refine sc_Rebuild h.set h.disks.sl h.disks.cap.1 h.st.off h.good.ss.ok (by omega) (by omega) (fun hb => absurd ⟨hi, ⟨by omega, by show (0 : Int) ≤ g.c * g.s; omega⟩, by omega⟩ hb) (fun hd => absurd hd (by rw [hal]; decide)) fun _ _ _ _ w' hS k => ?_
  have e : rebS (SB.mk m g bks).g s i 0 n 0 = (g.c * g.s, 0, s) := by
    show rebS g s i 0 n 0 = _
    unfold rebS
    rw [if_neg (by omega), Int.sub_zero, rebL_still h.good.lit.1 _ _ fun a ha => hW i a hi (by omega)]
    rw [show (0 : Int) + ((g.c * g.s).toNat : Nat) = g.c * g.s by omega]
  rw [e] at hS ⊢
  exact hK w' ⟨hS, h.st.disks' k, h.good⟩ k
theorem w_small16 {a b c : Int} (ha : 0 ≤ a ∧ a ≤ 255) (hb : 0 ≤ b ∧ b ≤ 255) (hc : 0 ≤ c ∧ c ≤ 255) (hK : ∀ w', Keep (fun _ => False) w w' → R (.agg (geoV (smallG16 a b c))) w') : CallV Try.prog 35 #[.int .u8 a, .int .u8 b, .int .u8 c] w R := by
  apply C_ravelinlaw16_small
  unfold F_ravelinlaw16_small
  refine alc_fresh fun w1 hb1 k1 z1 => ?_
  refine ⟨by decide, by decide, by decide, ?_⟩
  have h1 := Int.emod_nonneg a (show (4 : Int) ≠ 0 by decide)
  have h2 := Int.emod_lt_of_pos a (show (0 : Int) < 4 by decide)
  have h3 := Int.emod_nonneg b (show (2 : Int) ≠ 0 by decide)
  have h4 := Int.emod_lt_of_pos b (show (0 : Int) < 2 by decide)
  have h5 := Int.emod_nonneg c (show (3 : Int) ≠ 0 by decide)
  have h6 := Int.emod_lt_of_pos c (show (0 : Int) < 3 by decide)
  rw [Int.tmod_eq_emod_of_nonneg ha.1, Int.tmod_eq_emod_of_nonneg hb.1, Int.tmod_eq_emod_of_nonneg hc.1, wrapI (x := a % 4) (by omega) (by omega), wrapI (x := b % 2) (by omega) (by omega), wrapI (x := c % 3) (by omega) (by omega), wrapI (x := a % 4 + 4) (by omega) (by omega), wrapI (x := b % 2 + 1) (by omega) (by omega), wrapI (x := c % 3 + 1) (by omega) (by omega)]
  refine DoQ_of (v := .agg (geoV (smallG16 a b c))) (fun _ => run_build _ _ _ _ (by kernel_rfl)) (OpA_agg.2 ⟨rfl, ?_⟩)
  refine StA_all hb1 rfl (by kernel_rfl) (one_geoV _) ?_
  refine LdA_all (hb1.upd_same _) rfl (Ret_nil.2 (hK _ ?_))
  exact k1.trans' ((Keep.refl (fun k => k = w.heap.size) _).upd (fun _ => rfl) _) fun i hi e => by omega
theorem w_awake16 (hK : ∀ w', Keep (fun _ => False) w w' → R (.bool true) w') : CallV Try.prog 36 #[] w R := by
  apply C_ravelinlaw16_awake
  unfold F_ravelinlaw16_awake
  refine DoQ_of (v := .agg (geoV g4)) (fun _ => run_build _ _ _ _ (by kernel_rfl)) (OpA_agg.2 ⟨rfl, ?_⟩)
  refine ma_New fun m w1 hm hma k1 z1 => OpN_some.2 ?_
  refine st_New g4_ok hma fun p c bks w2 hS o2 hfr k2 => ?_
  refine T2_mk.2 (OpA_agg.2 ⟨rfl, OpI_int.2 ?_⟩)
  refine copy_of (by kernel_rfl) rfl (one_setV _ _ _ _) fun w3 hb3 k3 z3 => ?_
  refine (Cb_false (p := _)).2 ?_
  refine LdV_has (v := .slice p g4.d.toNat c) hb3 rfl (OpS_slice.2 ((Cb_false (p := _)).2 ?_))
  refine LdV_has (v := .slice p g4.d.toNat c) hb3 rfl (OpS_slice.2 ?_)
  have hG2 : GdI w2 w1.heap.size g4 m bks p c (newS g4 pw0) now0 0 := ⟨hS, o2, newS_good g4_ok⟩
  have hG3 := hG2.keep0 k3
  have hsf : ∀ b, SFoot ⟨m, g4, bks⟩ b → w.heap.size ≤ b := by
    intro b hb
    rcases hb with e | hb | hb
    · have e : b = m := e
      omega
    · obtain ⟨br, hbr, rfl⟩ := List.mem_map.1 hb
      have := (hfr br hbr).1; have := k1.size; omega
    · obtain ⟨br, hbr, rfl⟩ := List.mem_map.1 hb
      have := (hfr br hbr).2; have := k1.size; omega
  have k03 := (k1.trans k2).trans k3
  refine hG3.hurtT (i := 1) (a := 0) (by decide) (by decide) (newS_dead g4 pw0 1) fun w4 hG4 k4 => OpI_int.2 ?_
  have hb4 := k4.has hb3 (hG3.set.typ hb3 (by decide) (by decide) (by decide))
  refine LdA_all hb4 rfl ?_
  have hW0 := newS_whole g4_ok pw0
  have hGo := (hW0.gone 0).hurt (newS_ok g4_ok pw0) (i := 1) (by decide) (by decide)
  have hl1 : lostN (colsS g4 (hurtS (newS g4 pw0) 1 0) 0 0) ≤ 1 := lost_le1 g4_ok (by decide) (by decide) 1 fun k hk hv => by
    obtain ⟨pk1, pk2⟩ := plcP_ok g4_ok (st := 0) (off := 0) (by decide) (by decide) (k : Int)
    have := ((hGo _ _ pk1 pk2).1 hv).2
    simpa using this
  have hal : ∀ i, deadS (hurtS (newS g4 pw0) 1 0) i = false := fun i => by rw [hurtS_dead (by decide)]; exact newS_dead g4 pw0 i
  refine sc_Scrub hG4.set hG4.disks.sl hG4.disks.cap.1 hG4.st.off hG4.good.ss.ok (st := 0) (fun h => absurd (show 0 ≤ (0 : Int) ∧ (0 : Int) < g4.s from by decide) h) fun _ w5 hS5 k5 => ?_
  obtain ⟨s1, a1, a2, a3, a4, a5⟩ := row_mend hG4.good (by decide) (st := 0) (off := 0) (by decide) (by decide) (by omega) 0
  have hw1 := wrong_one hG4.good (st := 0) (off := 0) (by decide) (by decide) (by omega) (x := 1) (by decide) (hal 1) fun i hi => by
    rw [hGo i _ hi (by decide)]
    simp
  have hsc : scrubS g4 (hurtS (newS g4 pw0) 1 0) 0 0 = (0, ⟨1, 1, 1, 0⟩, s1) := by
    unfold scrubS
    show scrubL g4 0 0 (0 + 1) 0 rep0 _ = _
    rw [scrubL_succ, if_neg (by decide), if_pos (by omega)]
    rw [show rep0.fixed = 0 from rfl, a1, if_neg (by simp), hw1]
    rfl
  have hsc' : scrubS (SB.mk m g4 bks).g (hurtS (newS g4 pw0) 1 0) 0 0 = (0, ⟨1, 1, 1, 0⟩, s1) := hsc
  rw [hsc']
  show T2 (.tuple #[.agg (repV ⟨1, 1, 1, 0⟩), .int .i64 0]) _
  refine T2_mk.2 (OpA_agg.2 ⟨rfl, OpI_int.2 ?_⟩)
  refine copy_of (by rw [repV_zero]; rfl) rfl (one_repV _) fun w6 hb6 k6 z6 => ?_
  refine (Cb_true (q := _)).2 ?_
  refine LdA_all hb6 rfl ?_
  refine DoQ_of (v := .agg (repV ⟨1, 1, 1, 0⟩)) (fun _ => run_build _ _ _ _ (by kernel_rfl)) (OpA_agg.2 ⟨rfl, ?_⟩)
  refine EqB_rep (N := 10) ⟨by decide, by decide, by decide, by decide⟩ ⟨by decide, by decide, by decide, by decide⟩ (by decide) fun r hr => Ret_nil.2 ?_
  rw [hr.2 rfl]
  exact hK w6 (((k03.trans' k4 fun i hi e => by have := hsf i e; omega).trans' k5 fun i hi e => by have := hsf i e; omega).trans k6)
end calls
end Go.Proofs
