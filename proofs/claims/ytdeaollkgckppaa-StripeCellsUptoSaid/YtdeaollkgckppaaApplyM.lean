/-
  CELLS THAT ARE WRITTEN, plain: what is seen behind it, and how many steps it took.
-/
import Derived.Test.YtdeaollkgckppaaStI
import Derived.Test.YtdeaollkgckppaaCellsP
namespace Go.Proofs
open Go Go.Ev
set_option linter.unusedSimpArgs false
set_option linter.unusedVariables false
set_option maxRecDepth 100000

def putV : List PutS → (Int → Int → Option Sec) → Int → Int → Option Sec
  | [], v => v
  | x :: xs, v => putV xs fun i a => if i = x.plc.dk ∧ a = x.plc.at_ then some x.cel.data else v i a
theorem putV_cons (x : PutS) (xs : List PutS) (v : Int → Int → Option Sec) : putV (x :: xs) v = putV xs fun i a => if i = x.plc.dk ∧ a = x.plc.at_ then some x.cel.data else v i a := rfl
theorem putV_congr : ∀ (xs : List PutS) {v u : Int → Int → Option Sec} {i a : Int}, v i a = u i a → putV xs v i a = putV xs u i a
  | [], _, _, _, _, h => h
  | x :: xs, v, u, i, a, h => putV_congr xs (by simp only [h])
theorem putV_other : ∀ (xs : List PutS) {v : Int → Int → Option Sec} {i a : Int}, (∀ x ∈ xs, ¬ (i = x.plc.dk ∧ a = x.plc.at_)) → putV xs v i a = v i a
  | [], _, _, _, _ => rfl
  | x :: xs, v, i, a, h => by
    show putV xs _ i a = _
    rw [putV_other xs fun y hy => h y (by simp [hy])]
    rw [if_neg (h x (by simp))]
theorem steps_wrap {p : Pow} (h : Lit0 p) (h0 : 0 ≤ p.steps) (h1 : p.steps < 4611686018427387904) : (stepP p).2.steps = p.steps + 1 := by
  unfold stepP
  rw [if_pos h.1, if_pos h.2]
  exact wrapI (by omega) (by omega)
/-- sealed cells on living disks -/
def Sealed (g : Geo) (s : SS) (x : PutS) : Prop := PutOk g x ∧ SecOk x.cel.data ∧ x.cel.sum = sumS x.plc.at_ x.cel.data ∧ deadS s x.plc.dk = false
theorem applyL_ok {g : Geo} {ep : Int} : ∀ (xs : List PutS) (s : SS), SsOk g s → Lit0 s.pw → 0 ≤ s.pw.steps → s.pw.steps + xs.length < 4611686018427387904 → (∀ x ∈ xs, Sealed g s x) → (∀ i : Nat, (s.ds.getD i dsk0).key ≤ ep) →
    ∃ s', applyL ep xs s = (0, s') ∧ SsOk g s' ∧ Lit0 s'.pw ∧ s'.pw.steps = s.pw.steps + xs.length ∧ (∀ i, deadS s' i = deadS s i) ∧ (∀ i : Nat, (s'.ds.getD i dsk0).key = (s.ds.getD i dsk0).key) ∧
      ∀ i a, 0 ≤ i → 0 ≤ a → viewS s' i a = putV xs (viewS s) i a
  | [], s, hs, hl, _, _, _, _ => ⟨s, rfl, hs, hl, by simp, fun _ => rfl, fun _ => rfl, fun _ _ _ _ => rfl⟩
  | x :: xs, s, hs, hl, h0, h1, hx, hep => by
    have h1' : s.pw.steps + ((xs.length + 1 : Nat) : Int) < 4611686018427387904 := h1
    obtain ⟨x1, x2, x3, x4⟩ := hx x (by simp)
    obtain ⟨a1, a2, a3, a4, a5, a6⟩ := apply1_ok hs x1 hl x4 (hep _) x2 x3
    have hst : applyL ep (x :: xs) s = applyL ep xs (apply1 s x ep).2 := by
      show (if _ ∧ _ then _ else _) = _
      rw [if_neg (by rw [a1]; simp)]
    rw [hst]
    generalize apply1 s x ep = r at *
    have hsw := steps_wrap hl h0 (by omega)
    obtain ⟨s', b1, b2, b3, b4, b5, b6, b7⟩ := applyL_ok xs r.2 a2 (by rw [a3]; exact (lit_step hl).2) (by rw [a3, hsw]; omega) (by rw [a3, hsw]; omega) (fun y hy => by
      obtain ⟨y1, y2, y3, y4⟩ := hx y (by simp [hy])
      exact ⟨y1, y2, y3, by rw [a4]; exact y4⟩) (fun i => by rw [a5]; exact hep i)
    refine ⟨s', b1, b2, b3, ?_, fun i => by rw [b5, a4], fun i => by rw [b6, a5], fun i a hi ha => ?_⟩
    · rw [b4, a3, hsw]
      show _ = s.pw.steps + ((xs.length + 1 : Nat) : Int)
      omega
    · rw [b7 i a hi ha]
      exact putV_congr xs (a6 i a hi ha)
theorem applyS_ok {g : Geo} {ep : Int} {xs : List PutS} {s : SS} (hs : SsOk g s) (hl : Lit0 s.pw) (h0 : 0 ≤ s.pw.steps) (h1 : s.pw.steps + xs.length < 4611686018427387904) (hx : ∀ x ∈ xs, Sealed g s x) (hep : ∀ i : Nat, (s.ds.getD i dsk0).key ≤ ep) :
    ∃ s', applyS g s xs ep = (0, s') ∧ SsOk g s' ∧ Lit0 s'.pw ∧ s'.pw.steps = s.pw.steps + xs.length ∧ (∀ i, deadS s' i = deadS s i) ∧ (∀ i : Nat, (s'.ds.getD i dsk0).key = (s.ds.getD i dsk0).key) ∧
      ∀ i a, 0 ≤ i → 0 ≤ a → viewS s' i a = putV xs (viewS s) i a := by
  unfold applyS
  rw [if_pos fun x hx' => (hx x hx').1]
  exact applyL_ok xs s hs hl h0 h1 hx hep
/-- the plan of a write, where all disks live -/
theorem planS_alive {g : Geo} {s : SS} {now : Int → Sec} (hs : SsOk g s) (h : Inv g s now) (hn : ∀ l, SecOk (now l)) (hl : Lit0 s.pw) {lba : Int} (h0 : 0 ≤ lba) (h1 : lba < (g.d - 2) * g.c * g.s) {data : Sec} (hdat : SecOk data)
    (hlost : lostN (colsS g s (spotP g lba).1 (spotP g lba).2.2) ≤ 2) (hal : ∀ i, deadS s i = false) :
    (planS g s lba data).1 = [(spotP g lba).2.1, g.d - 2, g.d - 1].map (putK g (spotP g lba).1 (spotP g lba).2.2 (fullT (rowT g (upd now lba data) (spotP g lba).1 (spotP g lba).2.2))) := by
  have hg := hs.geo
  obtain ⟨pst, pco, pof⟩ := spotP_ok hg h0 h1
  have hls := lbaP_spot hg lba
  have hrow := h.rowR hg hn pst pof hlost
  have hplan : planS g s lba data = (planL g s (spotP g lba).1 (spotP g lba).2.2 (rowW (Go.Proofs.rowR (colsS g s (spotP g lba).1 (spotP g lba).2.2)) (spotP g lba).2.1.toNat data) [(spotP g lba).2.1, g.d - 2, g.d - 1], 0) := by
    unfold planS
    simp only
    rw [if_neg (by rw [hl.1]; decide), if_pos hlost]
  rw [hplan, hrow]
  generalize spotP g lba = x at *
  rw [rowW_full (by rw [len_rowT]; omega), ← rowT_upd_same hg pst.1 pof pco, hls]
  exact planL_alive hal _
theorem putK_sealed {g : Geo} (hg : GeoOk g) {s : SS} (hal : ∀ i, deadS s i = false) {st off : Int} (hst : 0 ≤ st ∧ st < g.s) (hof : 0 ≤ off ∧ off < g.c) {row : List Sec} (hrow : ∀ f ∈ row, SecOk f) (k : Int) : Sealed g s (putK g st off row k) := by
  refine ⟨plcP_ok hg hst hof k, ?_, rfl, hal _⟩
  show SecOk (row.getD k.toNat (sec []))
  rw [List.getD_eq_getElem?_getD]
  cases hx : row[k.toNat]? with
  | none => exact sec0_ok
  | some f => exact hrow f (List.mem_of_getElem? hx)
/-- a write where all disks live: three steps, and just these cells are changed -/
theorem write_alive {g : Geo} {s s' : SS} {now : Int → Sec} (hs : SsOk g s) (h : Inv g s now) (hn : ∀ l, SecOk (now l)) (hl : Lit0 s.pw) {lba : Int} (h0 : 0 ≤ lba) (h1 : lba < (g.d - 2) * g.c * g.s) {data : Sec} (hdat : SecOk data) {ep : Int} (hep : ∀ i : Nat, (s.ds.getD i dsk0).key ≤ ep)
    (hlost : lostN (colsS g s (spotP g lba).1 (spotP g lba).2.2) ≤ 2) (hal : ∀ i, deadS s i = false) (hs0 : 0 ≤ s.pw.steps) (hs1 : s.pw.steps < 1000000000000) (happ : applyS g s (planS g s lba data).1 ep = (0, s')) :
    (planS g s lba data).1.length = 3 ∧ s'.pw.steps = s.pw.steps + 3 ∧ (∀ i, deadS s' i = false) ∧ viewS s' (plcP g (spotP g lba).1 (spotP g lba).2.2 (spotP g lba).2.1).dk (plcP g (spotP g lba).1 (spotP g lba).2.2 (spotP g lba).2.1).at_ = some data ∧
    ∀ i a, 0 ≤ i → 0 ≤ a → (∀ k ∈ [(spotP g lba).2.1, g.d - 2, g.d - 1], ¬ (i = (plcP g (spotP g lba).1 (spotP g lba).2.2 k).dk ∧ a = (plcP g (spotP g lba).1 (spotP g lba).2.2 k).at_)) → viewS s' i a = viewS s i a := by
  have hg := hs.geo
  have hd := hg.d
  obtain ⟨pst, pco, pof⟩ := spotP_ok hg h0 h1
  have hls := lbaP_spot hg lba
  rw [planS_alive hs h hn hl h0 h1 hdat hlost hal] at happ ⊢
  generalize spotP g lba = x at *
  have hrow := fullT_ok (rowT_ok (g := g) (upd_ok hn hdat lba) x.1 x.2.2)
  obtain ⟨s2, a1, a2, a3, a4, a5, a6, a7⟩ := applyS_ok (ep := ep) hs hl hs0 (xs := [x.2.1, g.d - 2, g.d - 1].map (putK g x.1 x.2.2 (fullT (rowT g (upd now lba data) x.1 x.2.2)))) (by simp; omega) (fun y hy => by
    obtain ⟨k, _, rfl⟩ := List.mem_map.1 hy
    exact putK_sealed hg hal pst pof hrow k) hep
  rw [happ] at a1
  cases a1
  refine ⟨rfl, by rw [a4]; simp, fun i => by rw [a5, hal], ?_, fun i a hi ha hne => ?_⟩
  · obtain ⟨pk1, pk2⟩ := plcP_ok hg pst pof x.2.1
    rw [a7 _ _ pk1.1 pk2.1]
    rw [List.map_cons, putV_cons, putV_other _ fun y hy he => ?_]
    · rw [if_pos ⟨rfl, rfl⟩]
      show some ((fullT (rowT g (upd now lba data) x.1 x.2.2)).getD x.2.1.toNat (sec [])) = _
      unfold fullT
      rw [List.getD_eq_getElem?_getD, List.getElem?_append_left (by rw [len_rowT]; omega), rowT_at (by omega), show ((x.2.1.toNat : Nat) : Int) = x.2.1 by omega, hls]
      unfold upd
      rw [if_pos rfl]; rfl
    · obtain ⟨k, hk, rfl⟩ := List.mem_map.1 hy
      simp only [List.mem_cons, List.not_mem_nil, or_false] at hk
      have := plcP_inj hg pst pof pst pof (k := x.2.1) (k2 := k) (by omega) (by omega) he.1 he.2
      omega
  · rw [a7 i a hi ha]
    refine putV_other _ fun y hy => ?_
    obtain ⟨k, hk, rfl⟩ := List.mem_map.1 hy
    exact hne k hk
end Go.Proofs
