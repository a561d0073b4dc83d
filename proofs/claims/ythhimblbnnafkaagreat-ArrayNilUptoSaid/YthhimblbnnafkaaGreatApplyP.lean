import Derived.Test.YthhimblbnnafkaaGreatInvM

/-
  StripeCells, plain: a cell that shows its data.
-/
namespace Go.Proofs
open Go Go.Ev
set_option linter.unusedSimpArgs false
set_option linter.unusedVariables false
set_option maxRecDepth 100000

theorem read_view {s : SS} {i a : Int} {f : Sec} (hon : s.pw.on = true) (ha : 0 ≤ a ∧ a < ((s.ds.getD i.toNat dsk0).secs.length : Int)) (h : viewS s i a = some f) : readD s.pw (s.ds.getD i.toNat dsk0) a = (⟨f, sumS a f⟩, 0) := by
  unfold viewS cellD at h
  unfold readD
  generalize s.ds.getD i.toNat dsk0 = D at *
  rw [if_neg (show ¬ ¬ (0 ≤ a ∧ a < (D.secs.length : Int)) by simpa using ha), if_neg (by rw [hon]; decide)]
  by_cases hd : D.dead = true
  · rw [if_pos hd] at h; cases h
  · rw [if_neg hd] at h ⊢
    by_cases hg : (D.secs.getD a.toNat sct0).good = false
    · rw [if_pos hg] at h; cases h
    · rw [if_neg hg] at h ⊢
      by_cases hs : (D.secs.getD a.toNat sct0).cel.sum = sumS a (D.secs.getD a.toNat sct0).cel.data
      · rw [if_pos hs] at h
        have := Option.some.inj h
        generalize (D.secs.getD a.toNat sct0).cel = c at *
        cases c
        simp only at this hs
        subst this
        rw [hs]
      · rw [if_neg hs] at h; cases h
end Go.Proofs

/-
  CELLS THAT ARE WRITTEN, plain: what is seen behind it, and how many steps it took.
-/
namespace Go.Proofs
open Go Go.Ev
set_option linter.unusedSimpArgs false
set_option linter.unusedVariables false
set_option maxRecDepth 100000

def putV : List PutS → (Int → Int → Option Sec) → Int → Int → Option Sec
  | [], v => v
  | x :: xs, v => putV xs fun i a => if i = x.plc.dk ∧ a = x.plc.at_ then some x.cel.data else v i a
theorem putV_cons (x : PutS) (xs : List PutS) (v : Int → Int → Option Sec) : putV (x :: xs) v = putV xs fun i a => if i = x.plc.dk ∧ a = x.plc.at_ then some x.cel.data else v i a := rfl
theorem putV_congr : ∀ (xs : List PutS) {v u : Int → Int → Option Sec} {i a : Int}, v i a = u i a → putV xs v i a = putV xs u i a
  | [], _, _, _, _, h => h
  | x :: xs, v, u, i, a, h => putV_congr xs (by simp only [h])
theorem putV_other : ∀ (xs : List PutS) {v : Int → Int → Option Sec} {i a : Int}, (∀ x ∈ xs, ¬ (i = x.plc.dk ∧ a = x.plc.at_)) → putV xs v i a = v i a
  | [], _, _, _, _ => rfl
  | x :: xs, v, i, a, h => by
    show putV xs _ i a = _
    rw [putV_other xs fun y hy => h y (by simp [hy])]
    rw [if_neg (h x (by simp))]
theorem steps_wrap {p : Pow} (h : Lit0 p) (h0 : 0 ≤ p.steps) (h1 : p.steps < 4611686018427387904) : (stepP p).2.steps = p.steps + 1 := by
  unfold stepP
  rw [if_pos h.1, if_pos h.2]
  exact wrapI (by omega) (by omega)
/-- sealed cells on living disks -/
def Sealed (g : Geo) (s : SS) (x : PutS) : Prop := PutOk g x ∧ SecOk x.cel.data ∧ x.cel.sum = sumS x.plc.at_ x.cel.data ∧ deadS s x.plc.dk = false
theorem applyL_ok {g : Geo} {ep : Int} : ∀ (xs : List PutS) (s : SS), SsOk g s → Lit0 s.pw → 0 ≤ s.pw.steps → s.pw.steps + xs.length < 4611686018427387904 → (∀ x ∈ xs, Sealed g s x) → (∀ i : Nat, (s.ds.getD i dsk0).key ≤ ep) →
    ∃ s', applyL ep xs s = (0, s') ∧ SsOk g s' ∧ Lit0 s'.pw ∧ s'.pw.steps = s.pw.steps + xs.length ∧ (∀ i, deadS s' i = deadS s i) ∧ (∀ i : Nat, (s'.ds.getD i dsk0).key = (s.ds.getD i dsk0).key) ∧
      ∀ i a, 0 ≤ i → 0 ≤ a → viewS s' i a = putV xs (viewS s) i a
  | [], s, hs, hl, _, _, _, _ => ⟨s, rfl, hs, hl, by simp, fun _ => rfl, fun _ => rfl, fun _ _ _ _ => rfl⟩
  | x :: xs, s, hs, hl, h0, h1, hx, hep => by
    have h1' : s.pw.steps + ((xs.length + 1 : Nat) : Int) < 4611686018427387904 := h1
    obtain ⟨x1, x2, x3, x4⟩ := hx x (by simp)
    obtain ⟨a1, a2, a3, a4, a5, a6⟩ := apply1_ok hs x1 hl x4 (hep _) x2 x3
    have hst : applyL ep (x :: xs) s = applyL ep xs (apply1 s x ep).2 := by
      show (if _ ∧ _ then _ else _) = _
      rw [if_neg (by rw [a1]; simp)]
    rw [hst]
    generalize apply1 s x ep = r at *
    have hsw := steps_wrap hl h0 (by omega)
    obtain ⟨s', b1, b2, b3, b4, b5, b6, b7⟩ := applyL_ok xs r.2 a2 (by rw [a3]; exact (lit_step hl).2) (by rw [a3, hsw]; omega) (by rw [a3, hsw]; omega) (fun y hy => by
      obtain ⟨y1, y2, y3, y4⟩ := hx y (by simp [hy])
      exact ⟨y1, y2, y3, by rw [a4]; exact y4⟩) (fun i => by rw [a5]; exact hep i)
    refine ⟨s', b1, b2, b3, ?_, fun i => by rw [b5, a4], fun i => by rw [b6, a5], fun i a hi ha => ?_⟩
    · rw [b4, a3, hsw]
      show _ = s.pw.steps + ((xs.length + 1 : Nat) : Int)
      omega
    · rw [b7 i a hi ha]
      exact putV_congr xs (a6 i a hi ha)
theorem applyS_ok {g : Geo} {ep : Int} {xs : List PutS} {s : SS} (hs : SsOk g s) (hl : Lit0 s.pw) (h0 : 0 ≤ s.pw.steps) (h1 : s.pw.steps + xs.length < 4611686018427387904) (hx : ∀ x ∈ xs, Sealed g s x) (hep : ∀ i : Nat, (s.ds.getD i dsk0).key ≤ ep) :
    ∃ s', applyS g s xs ep = (0, s') ∧ SsOk g s' ∧ Lit0 s'.pw ∧ s'.pw.steps = s.pw.steps + xs.length ∧ (∀ i, deadS s' i = deadS s i) ∧ (∀ i : Nat, (s'.ds.getD i dsk0).key = (s.ds.getD i dsk0).key) ∧
      ∀ i a, 0 ≤ i → 0 ≤ a → viewS s' i a = putV xs (viewS s) i a := by
  unfold applyS
  rw [if_pos fun x hx' => (hx x hx').1]
  exact applyL_ok xs s hs hl h0 h1 hx hep
end Go.Proofs
