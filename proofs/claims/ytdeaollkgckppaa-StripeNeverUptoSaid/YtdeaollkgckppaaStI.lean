import Derived.Test.YtdeaollkgckppaaRowsP

/-
  A SET THAT IS USED: what stands, and its calls, each at once.
-/
namespace Go.Proofs
open Go Go.Ev
set_option linter.unusedSimpArgs false
set_option linter.unusedVariables false
set_option maxRecDepth 100000

/-- a set whose power is on and whose keys are noughts, that holds what was written -/
structure StI (w : World) (base : Nat) (g : Geo) (m : Nat) (bks : List (Nat × Nat)) (p : Option Addr) (c : Nat) (s : SS) (now : Int → Sec) : Prop where
  set : SetAt w ⟨m, g, bks⟩ s
  disks : OwnL dLay w base 59 p g.d.toNat c (bks.map Prod.fst)
  ss : SsOk g s
  lit : Lit0 s.pw
  key : ∀ i : Nat, (s.ds.getD i dsk0).key ≤ 0
  inv : Inv g s now
  nok : ∀ l, SecOk (now l)
section calls
variable {w w' : World} {base : Nat} {g : Geo} {m : Nat} {bks : List (Nat × Nat)} {p : Option Addr} {c : Nat} {s : SS} {now : Int → Sec} {R : Value → World → Prop}
theorem StI.keep0 (h : StI w base g m bks p c s now) (k : Keep (fun _ => False) w w') : StI w' base g m bks p c s now :=
  ⟨h.set.keep0 k, h.disks.keep k (by simp), h.ss, h.lit, h.key, h.inv, h.nok⟩
theorem StI.keep {S : Nat → Prop} (h : StI w base g m bks p c s now) (k : Keep S w w') (hS : ∀ b, SFoot ⟨m, g, bks⟩ b → ¬ S b) (hD : ∀ b, p = some ⟨b, 0, none⟩ → ¬ S b) : StI w' base g m bks p c s now :=
  ⟨h.set.keep k hS, h.disks.keep k hD, h.ss, h.lit, h.key, h.inv, h.nok⟩
theorem StI.off (h : StI w base g m bks p c s now) : ∀ b o, p = some ⟨b, o, none⟩ → ¬ SFoot ⟨m, g, bks⟩ b := fun b o hb hi => by
  rcases Own.cases h.disks with ⟨h0, _⟩ | ⟨b', cur, h0, _, hg, _⟩
  · rw [h0] at hb; cases hb
  · rw [h0] at hb; cases hb
    exact h.set.typ hg (by decide) (by decide) (by decide) hi
theorem StI.disks' (h : StI w base g m bks p c s now) (k : Keep (SFoot ⟨m, g, bks⟩) w w') : OwnL dLay w' base 59 p g.d.toNat c (bks.map Prod.fst) :=
  h.disks.keep k fun b hb => h.off b 0 hb
theorem StI.plan (h : StI w base g m bks p c s now) {lba : Int} (h0 : 0 ≤ lba) (h1 : lba < (g.d - 2) * g.c * g.s) {data : Sec} (hdat : SecOk data) (hlost : lostN (colsS g s (spotP g lba).1 (spotP g lba).2.2) ≤ 2)
    (hK : ∀ p' n c' w', n = (planS g s lba data).1.length → n ≤ 3 → OwnL puLay w' w.heap.size 110 p' n c' (planS g s lba data).1 → Keep (fun _ => False) w w' → R (.tuple #[.slice p' n c', .int .i64 0]) w') :
    CallV Try.prog 17 #[.agg (setV g p g.d.toNat c), .int .i64 lba, .agg (secV data)] w R := by
  obtain ⟨hp2, -⟩ := h.inv.write (ep := 0) h.ss h.nok h.lit h0 h1 hdat h.key hlost
  refine st_Plan h.set h.disks.sl h.disks.cap.1 h.ss.ok h0 h1 hdat fun p' c' w' o k => ?_
  have hp2' : (planS (SB.mk m g bks).g s lba data).2 = 0 := hp2
  rw [hp2']
  have hlen : (planS g s lba data).1.length ≤ 3 := by
    have : planS g s lba data = (planL g s (spotP g lba).1 (spotP g lba).2.2 (rowW (rowR (colsS g s (spotP g lba).1 (spotP g lba).2.2)) (spotP g lba).2.1.toNat data) [(spotP g lba).2.1, g.d - 2, g.d - 1], 0) := by
      unfold planS
      simp only
      rw [if_neg (by rw [h.lit.1]; decide), if_pos hlost]
    rw [this]
    exact Nat.le_trans (List.length_filterMap_le _ _) (by simp)
  exact hK p' _ c' w' rfl hlen o k
theorem StI.apply (h : StI w base g m bks p c s now) {lba : Int} (h0 : 0 ≤ lba) (h1 : lba < (g.d - 2) * g.c * g.s) {data : Sec} (hdat : SecOk data) (hlost : lostN (colsS g s (spotP g lba).1 (spotP g lba).2.2) ≤ 2)
    {pb : Nat} {pp : Option Addr} {pl pc : Nat} (hpl : pl ≤ 3) (o : OwnL puLay w pb 110 pp pl pc (planS g s lba data).1)
    (hK : ∀ w' s', applyS g s (planS g s lba data).1 0 = (0, s') → Written g s s' now lba data → StI w' base g m bks p c s' (upd now lba data) → Keep (SFoot ⟨m, g, bks⟩) w w' → R (.int .i64 0) w') :
    CallV Try.prog 18 #[.agg (setV g p g.d.toNat c), .slice pp pl pc, .int .u32 0] w R := by
  obtain ⟨-, s', hap, hw⟩ := h.inv.write (ep := 0) h.ss h.nok h.lit h0 h1 hdat h.key hlost
  refine st_Apply h.set h.disks.sl h.disks.cap.1 h.off o.sl (by omega) (fun b' o' hb' hi => ?_) fun w3 hS3 k3 => ?_
  · rcases Own.cases o with ⟨e0, _⟩ | ⟨b'', cur, e0, _, hg', _⟩
    · rw [e0] at hb'; cases hb'
    · rw [e0] at hb'; cases hb'
      exact h.set.typ hg' (by decide) (by decide) (by decide) hi
  have hap' : applyS (SB.mk m g bks).g s (planS g s lba data).1 0 = (0, s') := hap
  rw [hap'] at hS3 ⊢
  exact hK w3 s' hap hw ⟨hS3, h.disks' k3, hw.ss, hw.lit, fun i => by rw [hw.key]; exact h.key i, hw.inv, upd_ok h.nok hdat lba⟩ k3
theorem StI.read (h : StI w base g m bks p c s now) {lba : Int} (h0 : 0 ≤ lba) (h1 : lba < (g.d - 2) * g.c * g.s)
    (hK : ∀ w', Keep (fun _ => False) w w' → R (.tuple #[.agg (secV (readS g s lba).1), .int .i64 (readS g s lba).2]) w') : CallV Try.prog 25 #[.agg (setV g p g.d.toNat c), .int .i64 lba] w R :=
  st_Read h.set h.disks.sl h.disks.cap.1 h.ss.ok h0 h1 hK
theorem StI.rowOk (h : StI w base g m bks p c s now) {st off : Int} (hst : 0 ≤ st ∧ st < g.s) (hof : 0 ≤ off ∧ off < g.c) (hl : lostN (colsS g s st off) ≤ 2)
    (hK : ∀ p' c' lp lc w', OwnL secLay w' w.heap.size 23 p' g.d.toNat c' (fullT (rowT g now st off)) → OwnL nLay w' w.heap.size 3 lp (lostN (colsS g s st off)) lc (goneL (colsS g s st off)) → Keep (fun _ => False) w w' → R (.tuple #[.slice p' g.d.toNat c', .slice lp (lostN (colsS g s st off)) lc, .int .i64 0]) w') :
    CallV Try.prog 23 #[.agg (setV g p g.d.toNat c), .int .i64 st, .int .i64 off] w R := by
  refine st_Row h.set h.disks.sl h.disks.cap.1 h.ss.ok hst hof (fun e => absurd e (by rw [h.lit.1]; decide)) (fun _ e => absurd hl e) fun _ _ p' c' lp ll lc w' o l k => ?_
  have e : ll = lostN (colsS g s st off) := by rw [l.length]; exact goneL_len _
  subst e
  have e : rowR (colsS (SB.mk m g bks).g s st off) = fullT (rowT g now st off) := h.inv.rowR h.ss.geo h.nok hst hof hl
  rw [e] at o
  exact hK p' c' lp lc w' o l k
theorem StI.rowLost (h : StI w base g m bks p c s now) {st off : Int} (hst : 0 ≤ st ∧ st < g.s) (hof : 0 ≤ off ∧ off < g.c) (hl : ¬ lostN (colsS g s st off) ≤ 2)
    (hK : ∀ w', Keep (fun _ => False) w w' → R (.tuple #[.slice none 0 0, .slice none 0 0, .int .i64 8]) w') :
    CallV Try.prog 23 #[.agg (setV g p g.d.toNat c), .int .i64 st, .int .i64 off] w R :=
  st_Row h.set h.disks.sl h.disks.cap.1 h.ss.ok hst hof (fun e => absurd e (by rw [h.lit.1]; decide)) (fun _ _ => hK) fun _ e => absurd e hl
end calls

/-! ### which cells are lost -/
def Whole (g : Geo) (s : SS) : Prop := ∀ i a, 0 ≤ i ∧ i < g.d → 0 ≤ a ∧ a < g.c * g.s → viewS s i a ≠ none
theorem Whole.lost {g : Geo} (hg : GeoOk g) {s : SS} (h : Whole g s) {st off : Int} (hst : 0 ≤ st ∧ st < g.s) (hof : 0 ≤ off ∧ off < g.c) : lostN (colsS g s st off) = 0 := lost_none hg hst hof h
theorem Whole.write {g : Geo} {s s' : SS} {now : Int → Sec} {lba : Int} {data : Sec} (h : Whole g s) (hw : Written g s s' now lba data) : Whole g s' := fun i a hi ha hv => by
  rcases hw.view i a hi.1 ha.1 hv with e | e
  · exact h i a hi ha e
  · exact h i a hi ha (view_dead e)
theorem newS_whole {g : Geo} (hg : GeoOk g) (pw : Pow) : Whole g (newS g pw) := fun i a hi ha => by rw [newS_view hg hi ha]; simp
/-- the cells at a place are lost on some disks, all others are there -/
def GoneAt (g : Geo) (s : SS) (z : Int) (l : List Int) : Prop := ∀ j a, 0 ≤ j ∧ j < g.d → 0 ≤ a ∧ a < g.c * g.s → (viewS s j a = none ↔ a = z ∧ j ∈ l)
theorem Whole.gone {g : Geo} {s : SS} (h : Whole g s) (z : Int) : GoneAt g s z [] := fun j a hj ha => ⟨fun e => absurd e (h j a hj ha), fun e => absurd e.2 (by simp)⟩
theorem GoneAt.hurt {g : Geo} {s : SS} (hs : SsOk g s) {z : Int} (hz : 0 ≤ z ∧ z < g.c * g.s) {l : List Int} (h : GoneAt g s z l) {i : Int} (hi : 0 ≤ i ∧ i < g.d) : GoneAt g (hurtS s i z) z (i :: l) := fun j a hj ha => by
  rw [hurtS_view hs hi hz hj.1 ha.1]
  have := h j a hj ha
  split
  · rename_i e
    exact ⟨fun _ => ⟨e.2, by rw [e.1]; exact List.mem_cons_self ..⟩, fun _ => rfl⟩
  · rename_i e
    rw [this]
    constructor
    · exact fun ⟨a1, a2⟩ => ⟨a1, List.mem_cons_of_mem _ a2⟩
    · intro ⟨a1, a2⟩
      rcases List.mem_cons.1 a2 with a3 | a3
      · exact absurd ⟨a3, a1⟩ e
      · exact ⟨a1, a3⟩
theorem read_gone {g : Geo} {s : SS} (hg : GeoOk g) (hon : s.pw.on = true) {lba : Int} (h0 : 0 ≤ lba) (h1 : lba < (g.d - 2) * g.c * g.s) (hv : viewS s (plcP g (spotP g lba).1 (spotP g lba).2.2 (spotP g lba).2.1).dk (plcP g (spotP g lba).1 (spotP g lba).2.2 (spotP g lba).2.1).at_ = none)
    (hl : ¬ lostN (colsS g s (spotP g lba).1 (spotP g lba).2.2) ≤ 2) : readS g s lba = (sec [], 8) := by
  obtain ⟨pst, pco, pof⟩ := spotP_ok hg h0 h1
  have hd := hg.d
  unfold readS
  generalize spotP g lba = x at *
  simp only
  rw [if_neg (by rw [hon]; decide)]
  have hk : x.2.1.toNat < g.d.toNat := by omega
  have e : ((x.2.1.toNat : Nat) : Int) = x.2.1 := by omega
  have hC := colsS_view (g := g) (s := s) (st := x.1) (off := x.2.2) hk
  rw [e, hv] at hC
  have hg' : (colsS g s x.1 x.2.2).getD x.2.1.toNat none = none := by rw [List.getD_eq_getElem?_getD, hC]; rfl
  rw [hg']
  simp only
  rw [if_neg hl]
end Go.Proofs

/-
  StripeCells, plain: a cell that shows its data.
-/
namespace Go.Proofs
open Go Go.Ev
set_option linter.unusedSimpArgs false
set_option linter.unusedVariables false
set_option maxRecDepth 100000

theorem read_view {s : SS} {i a : Int} {f : Sec} (hon : s.pw.on = true) (ha : 0 ≤ a ∧ a < ((s.ds.getD i.toNat dsk0).secs.length : Int)) (h : viewS s i a = some f) : readD s.pw (s.ds.getD i.toNat dsk0) a = (⟨f, sumS a f⟩, 0) := by
  unfold viewS cellD at h
  unfold readD
  generalize s.ds.getD i.toNat dsk0 = D at *
  rw [if_neg (show ¬ ¬ (0 ≤ a ∧ a < (D.secs.length : Int)) by simpa using ha), if_neg (by rw [hon]; decide)]
  by_cases hd : D.dead = true
  · rw [if_pos hd] at h; cases h
  · rw [if_neg hd] at h ⊢
    by_cases hg : (D.secs.getD a.toNat sct0).good = false
    · rw [if_pos hg] at h; cases h
    · rw [if_neg hg] at h ⊢
      by_cases hs : (D.secs.getD a.toNat sct0).cel.sum = sumS a (D.secs.getD a.toNat sct0).cel.data
      · rw [if_pos hs] at h
        have := Option.some.inj h
        generalize (D.secs.getD a.toNat sct0).cel = c at *
        cases c
        simp only at this hs
        subst this
        rw [hs]
      · rw [if_neg hs] at h; cases h
end Go.Proofs

/-
  CELLS THAT ARE WRITTEN, plain: what is seen behind it, and how many steps it took.
-/
namespace Go.Proofs
open Go Go.Ev
set_option linter.unusedSimpArgs false
set_option linter.unusedVariables false
set_option maxRecDepth 100000

def putV : List PutS → (Int → Int → Option Sec) → Int → Int → Option Sec
  | [], v => v
  | x :: xs, v => putV xs fun i a => if i = x.plc.dk ∧ a = x.plc.at_ then some x.cel.data else v i a
theorem putV_cons (x : PutS) (xs : List PutS) (v : Int → Int → Option Sec) : putV (x :: xs) v = putV xs fun i a => if i = x.plc.dk ∧ a = x.plc.at_ then some x.cel.data else v i a := rfl
theorem putV_congr : ∀ (xs : List PutS) {v u : Int → Int → Option Sec} {i a : Int}, v i a = u i a → putV xs v i a = putV xs u i a
  | [], _, _, _, _, h => h
  | x :: xs, v, u, i, a, h => putV_congr xs (by simp only [h])
theorem putV_other : ∀ (xs : List PutS) {v : Int → Int → Option Sec} {i a : Int}, (∀ x ∈ xs, ¬ (i = x.plc.dk ∧ a = x.plc.at_)) → putV xs v i a = v i a
  | [], _, _, _, _ => rfl
  | x :: xs, v, i, a, h => by
    show putV xs _ i a = _
    rw [putV_other xs fun y hy => h y (by simp [hy])]
    rw [if_neg (h x (by simp))]
theorem steps_wrap {p : Pow} (h : Lit0 p) (h0 : 0 ≤ p.steps) (h1 : p.steps < 4611686018427387904) : (stepP p).2.steps = p.steps + 1 := by
  unfold stepP
  rw [if_pos h.1, if_pos h.2]
  exact wrapI (by omega) (by omega)
/-- sealed cells on living disks -/
def Sealed (g : Geo) (s : SS) (x : PutS) : Prop := PutOk g x ∧ SecOk x.cel.data ∧ x.cel.sum = sumS x.plc.at_ x.cel.data ∧ deadS s x.plc.dk = false
theorem applyL_ok {g : Geo} {ep : Int} : ∀ (xs : List PutS) (s : SS), SsOk g s → Lit0 s.pw → 0 ≤ s.pw.steps → s.pw.steps + xs.length < 4611686018427387904 → (∀ x ∈ xs, Sealed g s x) → (∀ i : Nat, (s.ds.getD i dsk0).key ≤ ep) →
    ∃ s', applyL ep xs s = (0, s') ∧ SsOk g s' ∧ Lit0 s'.pw ∧ s'.pw.steps = s.pw.steps + xs.length ∧ (∀ i, deadS s' i = deadS s i) ∧ (∀ i : Nat, (s'.ds.getD i dsk0).key = (s.ds.getD i dsk0).key) ∧
      ∀ i a, 0 ≤ i → 0 ≤ a → viewS s' i a = putV xs (viewS s) i a
  | [], s, hs, hl, _, _, _, _ => ⟨s, rfl, hs, hl, by simp, fun _ => rfl, fun _ => rfl, fun _ _ _ _ => rfl⟩
  | x :: xs, s, hs, hl, h0, h1, hx, hep => by
    have h1' : s.pw.steps + ((xs.length + 1 : Nat) : Int) < 4611686018427387904 := h1
    obtain ⟨x1, x2, x3, x4⟩ := hx x (by simp)
    obtain ⟨a1, a2, a3, a4, a5, a6⟩ := apply1_ok hs x1 hl x4 (hep _) x2 x3
    have hst : applyL ep (x :: xs) s = applyL ep xs (apply1 s x ep).2 := by
      show (if _ ∧ _ then _ else _) = _
      rw [if_neg (by rw [a1]; simp)]
    rw [hst]
    generalize apply1 s x ep = r at *
    have hsw := steps_wrap hl h0 (by omega)
    obtain ⟨s', b1, b2, b3, b4, b5, b6, b7⟩ := applyL_ok xs r.2 a2 (by rw [a3]; exact (lit_step hl).2) (by rw [a3, hsw]; omega) (by rw [a3, hsw]; omega) (fun y hy => by
      obtain ⟨y1, y2, y3, y4⟩ := hx y (by simp [hy])
      exact ⟨y1, y2, y3, by rw [a4]; exact y4⟩) (fun i => by rw [a5]; exact hep i)
    refine ⟨s', b1, b2, b3, ?_, fun i => by rw [b5, a4], fun i => by rw [b6, a5], fun i a hi ha => ?_⟩
    · rw [b4, a3, hsw]
      show _ = s.pw.steps + ((xs.length + 1 : Nat) : Int)
      omega
    · rw [b7 i a hi ha]
      exact putV_congr xs (a6 i a hi ha)
theorem applyS_ok {g : Geo} {ep : Int} {xs : List PutS} {s : SS} (hs : SsOk g s) (hl : Lit0 s.pw) (h0 : 0 ≤ s.pw.steps) (h1 : s.pw.steps + xs.length < 4611686018427387904) (hx : ∀ x ∈ xs, Sealed g s x) (hep : ∀ i : Nat, (s.ds.getD i dsk0).key ≤ ep) :
    ∃ s', applyS g s xs ep = (0, s') ∧ SsOk g s' ∧ Lit0 s'.pw ∧ s'.pw.steps = s.pw.steps + xs.length ∧ (∀ i, deadS s' i = deadS s i) ∧ (∀ i : Nat, (s'.ds.getD i dsk0).key = (s.ds.getD i dsk0).key) ∧
      ∀ i a, 0 ≤ i → 0 ≤ a → viewS s' i a = putV xs (viewS s) i a := by
  unfold applyS
  rw [if_pos fun x hx' => (hx x hx').1]
  exact applyL_ok xs s hs hl h0 h1 hx hep
/-- the plan of a write, where all disks live -/
theorem planS_alive {g : Geo} {s : SS} {now : Int → Sec} (hs : SsOk g s) (h : Inv g s now) (hn : ∀ l, SecOk (now l)) (hl : Lit0 s.pw) {lba : Int} (h0 : 0 ≤ lba) (h1 : lba < (g.d - 2) * g.c * g.s) {data : Sec} (hdat : SecOk data)
    (hlost : lostN (colsS g s (spotP g lba).1 (spotP g lba).2.2) ≤ 2) (hal : ∀ i, deadS s i = false) :
    (planS g s lba data).1 = [(spotP g lba).2.1, g.d - 2, g.d - 1].map (putK g (spotP g lba).1 (spotP g lba).2.2 (fullT (rowT g (upd now lba data) (spotP g lba).1 (spotP g lba).2.2))) := by
  have hg := hs.geo
  obtain ⟨pst, pco, pof⟩ := spotP_ok hg h0 h1
  have hls := lbaP_spot hg lba
  have hrow := h.rowR hg hn pst pof hlost
  have hplan : planS g s lba data = (planL g s (spotP g lba).1 (spotP g lba).2.2 (rowW (Go.Proofs.rowR (colsS g s (spotP g lba).1 (spotP g lba).2.2)) (spotP g lba).2.1.toNat data) [(spotP g lba).2.1, g.d - 2, g.d - 1], 0) := by
    unfold planS
    simp only
    rw [if_neg (by rw [hl.1]; decide), if_pos hlost]
  rw [hplan, hrow]
  generalize spotP g lba = x at *
  rw [rowW_full (by rw [len_rowT]; omega), ← rowT_upd_same hg pst.1 pof pco, hls]
  exact planL_alive hal _
theorem putK_sealed {g : Geo} (hg : GeoOk g) {s : SS} (hal : ∀ i, deadS s i = false) {st off : Int} (hst : 0 ≤ st ∧ st < g.s) (hof : 0 ≤ off ∧ off < g.c) {row : List Sec} (hrow : ∀ f ∈ row, SecOk f) (k : Int) : Sealed g s (putK g st off row k) := by
  refine ⟨plcP_ok hg hst hof k, ?_, rfl, hal _⟩
  show SecOk (row.getD k.toNat (sec []))
  rw [List.getD_eq_getElem?_getD]
  cases hx : row[k.toNat]? with
  | none => exact sec0_ok
  | some f => exact hrow f (List.mem_of_getElem? hx)
/-- a write where all disks live: three steps, and just these cells are changed -/
theorem write_alive {g : Geo} {s s' : SS} {now : Int → Sec} (hs : SsOk g s) (h : Inv g s now) (hn : ∀ l, SecOk (now l)) (hl : Lit0 s.pw) {lba : Int} (h0 : 0 ≤ lba) (h1 : lba < (g.d - 2) * g.c * g.s) {data : Sec} (hdat : SecOk data) {ep : Int} (hep : ∀ i : Nat, (s.ds.getD i dsk0).key ≤ ep)
    (hlost : lostN (colsS g s (spotP g lba).1 (spotP g lba).2.2) ≤ 2) (hal : ∀ i, deadS s i = false) (hs0 : 0 ≤ s.pw.steps) (hs1 : s.pw.steps < 1000000000000) (happ : applyS g s (planS g s lba data).1 ep = (0, s')) :
    (planS g s lba data).1.length = 3 ∧ s'.pw.steps = s.pw.steps + 3 ∧ (∀ i, deadS s' i = false) ∧ viewS s' (plcP g (spotP g lba).1 (spotP g lba).2.2 (spotP g lba).2.1).dk (plcP g (spotP g lba).1 (spotP g lba).2.2 (spotP g lba).2.1).at_ = some data ∧
    ∀ i a, 0 ≤ i → 0 ≤ a → (∀ k ∈ [(spotP g lba).2.1, g.d - 2, g.d - 1], ¬ (i = (plcP g (spotP g lba).1 (spotP g lba).2.2 k).dk ∧ a = (plcP g (spotP g lba).1 (spotP g lba).2.2 k).at_)) → viewS s' i a = viewS s i a := by
  have hg := hs.geo
  have hd := hg.d
  obtain ⟨pst, pco, pof⟩ := spotP_ok hg h0 h1
  have hls := lbaP_spot hg lba
  rw [planS_alive hs h hn hl h0 h1 hdat hlost hal] at happ ⊢
  generalize spotP g lba = x at *
  have hrow := fullT_ok (rowT_ok (g := g) (upd_ok hn hdat lba) x.1 x.2.2)
  obtain ⟨s2, a1, a2, a3, a4, a5, a6, a7⟩ := applyS_ok (ep := ep) hs hl hs0 (xs := [x.2.1, g.d - 2, g.d - 1].map (putK g x.1 x.2.2 (fullT (rowT g (upd now lba data) x.1 x.2.2)))) (by simp; omega) (fun y hy => by
    obtain ⟨k, _, rfl⟩ := List.mem_map.1 hy
    exact putK_sealed hg hal pst pof hrow k) hep
  rw [happ] at a1
  cases a1
  refine ⟨rfl, by rw [a4]; simp, fun i => by rw [a5, hal], ?_, fun i a hi ha hne => ?_⟩
  · obtain ⟨pk1, pk2⟩ := plcP_ok hg pst pof x.2.1
    rw [a7 _ _ pk1.1 pk2.1]
    rw [List.map_cons, putV_cons, putV_other _ fun y hy he => ?_]
    · rw [if_pos ⟨rfl, rfl⟩]
      show some ((fullT (rowT g (upd now lba data) x.1 x.2.2)).getD x.2.1.toNat (sec [])) = _
      unfold fullT
      rw [List.getD_eq_getElem?_getD, List.getElem?_append_left (by rw [len_rowT]; omega), rowT_at (by omega), show ((x.2.1.toNat : Nat) : Int) = x.2.1 by omega, hls]
      unfold upd
      rw [if_pos rfl]; rfl
    · obtain ⟨k, hk, rfl⟩ := List.mem_map.1 hy
      simp only [List.mem_cons, List.not_mem_nil, or_false] at hk
      have := plcP_inj hg pst pof pst pof (k := x.2.1) (k2 := k) (by omega) (by omega) he.1 he.2
      omega
  · rw [a7 i a hi ha]
    refine putV_other _ fun y hy => ?_
    obtain ⟨k, hk, rfl⟩ := List.mem_map.1 hy
    exact hne k hk
end Go.Proofs
