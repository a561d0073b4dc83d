/-
  A DISK THAT IS REPLACED, and rebuilt: plain, and the calls.
-/
import Derived.Test.YtdeaollkgckppaaLaw16M
import Derived.Test.YtdeaollkgckppaaFDisk2
namespace Go.Proofs
open Go Go.Ev Go.RowKit
set_option linter.unusedSimpArgs false
set_option linter.unusedVariables false
set_option maxRecDepth 100000

theorem nodup_set {x : Nat} : ∀ {l : List Nat}, l.Nodup → x ∉ l → ∀ i, (l.set i x).Nodup
  | [], _, _, i => by simp
  | y :: l, hn, hx, 0 => by
    rw [List.set_cons_zero, List.nodup_cons]
    exact ⟨fun h => hx (List.mem_cons_of_mem _ h), (List.nodup_cons.1 hn).2⟩
  | y :: l, hn, hx, i + 1 => by
    rw [List.set_cons_succ, List.nodup_cons]
    rw [List.nodup_cons] at hn
    refine ⟨fun h => ?_, nodup_set hn.2 (fun h => hx (List.mem_cons_of_mem _ h)) i⟩
    rcases List.mem_or_eq_of_mem_set h with h | h
    · exact hn.1 h
    · exact hx (by rw [h]; exact List.mem_cons_self ..)
def replD (D : Dsk) : Dsk := ⟨List.replicate D.secs.length sct0, 0, false⟩
def replS (s : SS) (i : Int) : SS := ⟨s.ds.set i.toNat (replD (s.ds.getD i.toNat dsk0)), s.pw⟩
theorem replD_ok (D : Dsk) : DskOk (replD D) := ⟨fun x hx => by
  have hx : x ∈ List.replicate D.secs.length sct0 := hx
  rw [(List.mem_replicate.1 hx).2]; exact sct0_ok, Int.le_refl 0, by show (0 : Int) ≤ 4294967295; decide⟩
theorem replD_len (D : Dsk) : (replD D).secs.length = D.secs.length := by show (List.replicate _ _).length = _; simp
theorem replD_cell (D : Dsk) (a : Int) : cellD (replD D) a = none := by
  unfold cellD replD
  simp only
  rw [if_neg (by decide)]
  have : ((List.replicate D.secs.length sct0).getD a.toNat sct0) = sct0 := by
    rw [List.getD_eq_getElem?_getD, List.getElem?_replicate]
    split <;> rfl
  rw [this, if_pos (show sct0.good = false from rfl)]
theorem replS_get {s : SS} {i : Int} (hi : i.toNat < s.ds.length) (j : Nat) : (replS s i).ds.getD j dsk0 = if i.toNat = j then replD (s.ds.getD i.toNat dsk0) else s.ds.getD j dsk0 := by
  unfold replS
  exact getD_setS hi _ _
theorem replS_dead {s : SS} {i : Int} (h0 : 0 ≤ i) (hi : i.toNat < s.ds.length) {j : Int} (hj : 0 ≤ j) : deadS (replS s i) j = if j = i then false else deadS s j := by
  unfold deadS
  rw [replS_get hi]
  by_cases e : i.toNat = j.toNat
  · rw [if_pos e, if_pos (by omega)]; rfl
  · rw [if_neg e, if_neg (fun h => e (by rw [h]))]
theorem replS_view {s : SS} {i : Int} (h0 : 0 ≤ i) (hi : i.toNat < s.ds.length) {j : Int} (hj : 0 ≤ j) (a : Int) : viewS (replS s i) j a = if j = i then none else viewS s j a := by
  unfold viewS
  rw [replS_get hi]
  by_cases e : i.toNat = j.toNat
  · rw [if_pos e, if_pos (by omega)]; exact replD_cell _ _
  · rw [if_neg e, if_neg (fun h => e (by rw [h]))]
theorem replS_good {g : Geo} {s : SS} {now : Int → Sec} {N : Int} (h : Good g s now N) {i : Int} (hi : 0 ≤ i ∧ i < g.d) : Good g (replS s i) now N := by
  have hn := h.ss.num
  have hm := h.ss.get hi.1 hi.2
  refine ⟨⟨h.ss.geo, by unfold replS; simpa using hn, fun D hD => ?_, fun D hD => ?_⟩, h.lit, fun j => ?_, fun st off hst hof k hk f hv => ?_, h.nok, h.st0, h.stN⟩
  · unfold replS at hD
    rcases List.mem_or_eq_of_mem_set hD with hD | rfl
    · exact h.ss.len D hD
    · rw [replD_len]; exact h.ss.len _ hm
  · unfold replS at hD
    rcases List.mem_or_eq_of_mem_set hD with hD | rfl
    · exact h.ss.ok D hD
    · exact replD_ok _
  · rw [replS_get (by omega)]
    split
    · show (0 : Int) ≤ 0; omega
    · exact h.key j
  · obtain ⟨pk1, pk2⟩ := plcP_ok h.ss.geo hst hof (k : Int)
    rw [replS_view hi.1 (by omega) pk1.1] at hv
    split at hv
    · cases hv
    · exact h.inv st off hst hof k hk f hv
theorem failS_good {g : Geo} {s : SS} {now : Int → Sec} {N : Int} (h : Good g s now N) {i : Int} (hi : 0 ≤ i ∧ i < g.d) : Good g (failS s i) now N :=
  ⟨failS_ok h.ss hi.1 hi.2, h.lit, fun j => by rw [failS_key (by have := h.ss.num; omega)]; exact h.key j, failS_inv h.ss h.inv hi.1 hi.2, h.nok, h.st0, h.stN⟩
/-- a rebuild where all rows can be had -/
theorem rebL_ok {g : Geo} {now : Int → Sec} {i : Int} (hi : 0 ≤ i ∧ i < g.d) : ∀ (n : Nat) (m : Int) (s : SS) (N : Int), Good g s now N → N + n < 1000000000 → deadS s i = false → 0 ≤ m → m + n ≤ g.c * g.s → (∀ st off : Int, 0 ≤ st ∧ st < g.s → 0 ≤ off ∧ off < g.c → lostN (colsS g s st off) ≤ 2) →
    ∃ s', rebL g 0 i n m s = (m + n, 0, s') ∧ Good g s' now (N + n) ∧ (∀ j, deadS s' j = deadS s j) ∧ ∀ j a, (0 ≤ j ∧ j < g.d) → (0 ≤ a ∧ a < g.c * g.s) → (viewS s' j a = none ↔ viewS s j a = none ∧ ¬ (j = i ∧ m ≤ a ∧ a < m + n))
  | 0, m, s, N, h, _, _, _, _, _ => ⟨s, by show (m, 0, s) = _; simp, h.mono (by omega), fun _ => rfl, fun j a _ _ => ⟨fun e => ⟨e, by omega⟩, fun e => e.1⟩⟩
  | n + 1, m, s, N, h, hN, hal, hm, hmn, hl => by
    have hg := h.ss.geo
    have hd := hg.d
    have hmr : 0 ≤ m ∧ m < g.c * g.s := by omega
    obtain ⟨st1, of1, sp1⟩ := at_split hg hmr
    rw [rebL_succ, if_neg (by rw [h.lit.1]; decide)]
    cases hv : viewS s i m with
    | some f =>
      rw [if_pos (show (some f).isSome = true from rfl)]
      obtain ⟨s', a1, a2, a3, a4⟩ := rebL_ok hi n (m + 1) s N h (by omega) hal (by omega) (by omega) hl
      refine ⟨s', by rw [a1, show m + 1 + (n : Int) = m + ((n + 1 : Nat) : Int) by omega], a2.mono (by omega), a3, fun j a hj ha => ?_⟩
      rw [a4 j a hj ha]
      refine ⟨fun ⟨e1, e2⟩ => ⟨e1, fun ⟨e3, e4⟩ => ?_⟩, fun ⟨e1, e2⟩ => ⟨e1, fun ⟨e3, e4⟩ => e2 ⟨e3, by omega⟩⟩⟩
      by_cases e : a = m
      · rw [e3, e, hv] at e1; cases e1
      · exact e2 ⟨e3, by omega⟩
    | none =>
      rw [if_neg (show ¬ (none : Option Sec).isSome = true by decide), if_pos (hl _ _ st1 of1)]
      obtain ⟨⟨cp0, cp1⟩, cpd⟩ := colP_ok hg hi (m / g.c) (m % g.c)
      have hrow := h.inv.rowR hg h.nok st1 of1 (hl _ _ st1 of1)
      have hst0 := h.st0
      have hstN := h.stN
      have hreb : rebP g s i m = putK g (m / g.c) (m % g.c) (fullT (rowT g now (m / g.c) (m % g.c))) (colP g i (m / g.c)) := by unfold rebP; rw [hrow]
      obtain ⟨s1, b1, b2, b3, b4, b5, b6, b7⟩ := applyS_ok (ep := 0) (xs := [rebP g s i m]) h.ss h.lit h.st0 (by show s.pw.steps + ((1 : Nat) : Int) < _; omega) (fun y hy => by
        rw [List.mem_singleton.1 hy, hreb]
        exact ⟨plcP_ok hg st1 of1 _, (putK_cok (g := g) (st := m / g.c) (off := m % g.c) (fullT_ok (rowT_ok (g := g) h.nok (m / g.c) (m % g.c))) _).1, rfl, by show deadS s (plcP g (m / g.c) (m % g.c) (colP g i (m / g.c))).dk = false; rw [cpd]; exact hal⟩) h.key
      have b4 : s1.pw.steps = s.pw.steps + 1 := b4
      obtain ⟨c1, c2⟩ := put_row h st1 of1 (ks := [colP g i (m / g.c)]) (fun k hk => by rw [List.mem_singleton.1 hk]; exact ⟨cp0, cp1⟩) (s' := s1) (by
        intro j a hj ha
        rw [b7 j a hj ha, hreb]
        rfl)
      have c2' : ∀ j a, (0 ≤ j ∧ j < g.d) → (0 ≤ a ∧ a < g.c * g.s) → (viewS s1 j a = none ↔ viewS s j a = none ∧ ¬ (j = i ∧ a = m)) := by
        intro j a hj ha
        rw [c2 j a hj ha]
        have hat : (plcP g (m / g.c) (m % g.c) (colP g i (m / g.c))).at_ = m := sp1
        constructor
        · rintro ⟨e1, e2⟩
          exact ⟨e1, fun e => e2 ⟨_, List.mem_singleton.2 rfl, by rw [cpd]; exact e.1, by rw [hat]; exact e.2⟩⟩
        · rintro ⟨e1, e2⟩
          refine ⟨e1, ?_⟩
          rintro ⟨k, hk, f1, f2⟩
          rw [List.mem_singleton.1 hk] at f1 f2
          rw [cpd] at f1
          rw [hat] at f2
          exact e2 ⟨f1, f2⟩
      have hG1 : Good g s1 now (N + 1) := ⟨b2, b3, fun j => by rw [b6]; exact h.key j, c1, h.nok, by omega, by omega⟩
      obtain ⟨s', a1, a2, a3, a4⟩ := rebL_ok hi n (m + 1) s1 (N + 1) hG1 (by omega) (by rw [b5]; exact hal) (by omega) (by omega) fun st off hst hof => Nat.le_trans (lostN_mono fun k hk hvk => by
        obtain ⟨pk1, pk2⟩ := plcP_ok hg hst hof (k : Int)
        exact ((c2' _ _ pk1 pk2).1 hvk).1) (hl st off hst hof)
      refine ⟨s', ?_, a2.mono (by omega), fun j => by rw [a3, b5], fun j a hj ha => ?_⟩
      · rw [b1, if_neg (by simp), a1, show m + 1 + (n : Int) = m + ((n + 1 : Nat) : Int) by omega]
      · rw [a4 j a hj ha, c2' j a hj ha]
        constructor
        · rintro ⟨⟨e1, e2⟩, e3⟩
          refine ⟨e1, fun ⟨e4, e5⟩ => ?_⟩
          by_cases e : a = m
          · exact e2 ⟨e4, e⟩
          · exact e3 ⟨e4, by omega⟩
        · rintro ⟨e1, e2⟩
          exact ⟨⟨e1, fun ⟨e3, e4⟩ => e2 ⟨e3, by omega⟩⟩, fun ⟨e3, e4⟩ => e2 ⟨e3, by omega⟩⟩
theorem rebS_ok {g : Geo} {now : Int → Sec} {i m n : Int} (hi : 0 ≤ i ∧ i < g.d) {s : SS} {N : Int} (h : Good g s now N) (hN : N < 100000000) (hal : deadS s i = false) (hm : 0 ≤ m ∧ m ≤ g.c * g.s) (hn : 0 ≤ n) (hl : ∀ st off : Int, 0 ≤ st ∧ st < g.s → 0 ≤ off ∧ off < g.c → lostN (colsS g s st off) ≤ 2) :
    ∃ s', rebS g s i m n 0 = (min (g.c * g.s) (m + n), 0, s') ∧ Good g s' now (N + (min (g.c * g.s) (m + n) - m)) ∧ (∀ j, deadS s' j = deadS s j) ∧ ∀ j a, (0 ≤ j ∧ j < g.d) → (0 ≤ a ∧ a < g.c * g.s) → (viewS s' j a = none ↔ viewS s j a = none ∧ ¬ (j = i ∧ m ≤ a ∧ a < m + n)) := by
  have hsz := h.ss.geo.size
  have hend : (if n < g.c * g.s - m then m + n else g.c * g.s) = min (g.c * g.s) (m + n) := by
    split
    · rw [Int.min_eq_right (by omega)]
    · rw [Int.min_eq_left (by omega)]
  have hmn : m ≤ min (g.c * g.s) (m + n) ∧ min (g.c * g.s) (m + n) ≤ g.c * g.s ∧ min (g.c * g.s) (m + n) ≤ m + n := by omega
  obtain ⟨s', a1, a2, a3, a4⟩ := rebL_ok hi (min (g.c * g.s) (m + n) - m).toNat m s N h (by omega) hal hm.1 (by omega) hl
  refine ⟨s', ?_, a2.mono (by omega), a3, fun j a hj ha => ?_⟩
  · unfold rebS
    rw [hend, a1, show m + ((min (g.c * g.s) (m + n) - m).toNat : Int) = min (g.c * g.s) (m + n) by omega]
  · rw [a4 j a hj ha]
    constructor
    · rintro ⟨e1, e2⟩
      exact ⟨e1, fun ⟨e3, e4⟩ => e2 ⟨e3, by omega⟩⟩
    · rintro ⟨e1, e2⟩
      exact ⟨e1, fun ⟨e3, e4⟩ => e2 ⟨e3, by omega⟩⟩

/-! ### the calls -/
theorem d_Replace {w : World} {m b r : Nat} {D : Dsk} {R : Value → World → Prop} (h : DiskAt w m b r D) (hlen : D.secs.length ≤ 1024) (hK : ∀ w', DiskAt w' m b w.heap.size (replD D) → Keep (fun k => k = b) w w' → R (.tuple #[]) w') :
    CallV Try.prog 40 #[.pointer (some ⟨b, 0, none⟩)] w R := by
  apply C_disk_Disk_Replace
  unfold F_disk_Disk_Replace
  refine LdV_has (v := .slice (some ⟨r, 0, none⟩) D.secs.length D.secs.length) h.cells rfl (OpS_slice.2 ?_)
  obtain ⟨w1, hr, o1, k1, z1⟩ := run_makeL (P := Try.prog) (L := kLay) (x0 := sct0) (t := 130) (e := 134) (i := (Try.prog.info? 134).get (by kernel_rfl)) (z := ((Try.prog.info? 134).get (by kernel_rfl)).zero.get (by kernel_rfl)) w (by kernel_rfl) (by kernel_rfl) (by kernel_rfl) (by kernel_rfl) (by kernel_rfl) D.secs.length
    (by show D.secs.length * 18 ≤ _; omega) (by have : ((Try.prog.info? 134).get (by kernel_rfl)).bytes = 24 := by kernel_rfl
                                                rw [this]; omega) (by simp only [maxLen]; omega)
  refine ⟨_, _, hr, OpS_slice.2 ?_⟩
  have hb1 := k1.has h.cells (by simp)
  have hD : (replD D).secs.length = D.secs.length := replD_len D
  refine StV_of hb1 (by show 1 < 4; decide) rfl ?_
  have hb2 := hb1.upd_same (.cells ((diskC m r D).setIfInBounds 1 (.slice (some ⟨w.heap.size, 0, none⟩) D.secs.length D.secs.length)) 132 (0, 0))
  have k2 := Keep.one w1 b (.cells ((diskC m r D).setIfInBounds 1 (.slice (some ⟨w.heap.size, 0, none⟩) D.secs.length D.secs.length)) 132 (0, 0))
  generalize w1.upd b (.cells ((diskC m r D).setIfInBounds 1 (.slice (some ⟨w.heap.size, 0, none⟩) D.secs.length D.secs.length)) 132 (0, 0)) = w2 at *
  refine StV_of hb2 (by show 2 < 4; decide) rfl ?_
  have hb3 := hb2.upd_same (.cells (((diskC m r D).setIfInBounds 1 (.slice (some ⟨w.heap.size, 0, none⟩) D.secs.length D.secs.length)).setIfInBounds 2 (.int .u32 0)) 132 (0, 0))
  have k3 := Keep.one w2 b (.cells (((diskC m r D).setIfInBounds 1 (.slice (some ⟨w.heap.size, 0, none⟩) D.secs.length D.secs.length)).setIfInBounds 2 (.int .u32 0)) 132 (0, 0))
  generalize w2.upd b (.cells (((diskC m r D).setIfInBounds 1 (.slice (some ⟨w.heap.size, 0, none⟩) D.secs.length D.secs.length)).setIfInBounds 2 (.int .u32 0)) 132 (0, 0)) = w3 at *
  refine StV_of hb3 (by show 3 < 4; decide) rfl (Ret_nil.2 ?_)
  have k4 := Keep.one w3 b (.cells ((((diskC m r D).setIfInBounds 1 (.slice (some ⟨w.heap.size, 0, none⟩) D.secs.length D.secs.length)).setIfInBounds 2 (.int .u32 0)).setIfInBounds 3 (.bool false)) 132 (0, 0))
  have k14 := (k2.trans k3).trans k4
  have hbr : b ≠ w.heap.size := by have := h.cells.lt; omega
  refine hK _ ⟨?_, ?_⟩ ((k1.mono fun _ h => h.elim).trans k14)
  · have := hb3.upd_same (.cells ((((diskC m r D).setIfInBounds 1 (.slice (some ⟨w.heap.size, 0, none⟩) D.secs.length D.secs.length)).setIfInBounds 2 (.int .u32 0)).setIfInBounds 3 (.bool false)) 132 (0, 0))
    unfold diskC
    rw [hD]
    exact this
  · rw [hD]
    exact (o1.rebase (Nat.zero_le _)).keep k14 fun k hk e => by cases hk; exact hbr e.symm
section calls
variable {w w' : World} {base : Nat} {g : Geo} {m : Nat} {bks : List (Nat × Nat)} {p : Option Addr} {c : Nat} {s : SS} {now : Int → Sec} {N : Int} {R : Value → World → Prop}
theorem GdI.failT (h : GdI w base g m bks p c s now N) {i : Int} (hi : 0 ≤ i ∧ i < g.d) (hK : ∀ w', GdI w' base g m bks p c (failS s i) now N → Keep (SFoot ⟨m, g, bks⟩) w w' → R (.tuple #[]) w') :
    IdxS p g.d.toNat i 1 fun b o => LdV b o (At w) fun v => OpN v fun b2 o2 => CallV Try.prog 24 #[.pointer (some ⟨b2, o2, none⟩)] w R := by
  have hnum : (s.ds.length : Int) = g.d := h.set.num
  obtain ⟨b, r, D, hbk, hD, hda, hdl⟩ := h.set.get (i := i.toNat) (by omega)
  have hDg : s.ds.getD i.toNat dsk0 = D := by rw [List.getD_eq_getElem?_getD, hD]; rfl
  have hbk : bks[i.toNat]? = some (b, r) := hbk
  refine h.disks.sl.ld0 (i := i) (n := 1) (x := b) (v := .pointer (some ⟨b, 0, none⟩)) rfl hi.1 (by rw [List.getElem?_map, hbk]; rfl) rfl (OpN_some.2 ?_)
  refine d_Fail hda fun w2 hd2 k2 => ?_
  have kf : Keep (SFoot ⟨m, g, bks⟩) w w2 := k2.mono fun k hk => Or.inr (Or.inl (by rw [hk]; exact List.mem_map.2 ⟨(b, r), List.mem_of_getElem? hbk, rfl⟩))
  have hm2 : MaAt w2 m s.pw := k2.has h.set.main (fun e => (hda.nem h.set.main).1 e.symm)
  have hS2 := h.set.upd hbk (k2.mono fun k hk => Or.inr (Or.inl hk)) hd2 hdl hm2
  refine hK w2 ⟨?_, h.st.disks' kf, failS_good h.good hi⟩ kf
  unfold failS
  rw [hDg]
  exact hS2
theorem GdI.replT (h : GdI w base g m bks p c s now N) {i : Int} (hi : 0 ≤ i ∧ i < g.d) (hK : ∀ w' bks', bks'.map Prod.fst = bks.map Prod.fst → (∀ k, SFoot ⟨m, g, bks'⟩ k → SFoot ⟨m, g, bks⟩ k ∨ w.heap.size ≤ k) → GdI w' base g m bks' p c (replS s i) now N → Keep (SFoot ⟨m, g, bks⟩) w w' → R (.tuple #[]) w') :
    IdxS p g.d.toNat i 1 fun b o => LdV b o (At w) fun v => OpN v fun b2 o2 => CallV Try.prog 40 #[.pointer (some ⟨b2, o2, none⟩)] w R := by
  have hnum : (s.ds.length : Int) = g.d := h.set.num
  have hsz := h.good.ss.geo.size
  obtain ⟨b, r, D, hbk, hD, hda, hdl⟩ := h.set.get (i := i.toNat) (by omega)
  have hDg : s.ds.getD i.toNat dsk0 = D := by rw [List.getD_eq_getElem?_getD, hD]; rfl
  have hbk : bks[i.toNat]? = some (b, r) := hbk
  have hdl : (D.secs.length : Int) = g.c * g.s := hdl
  have hlt := (List.getElem?_eq_some_iff.1 hbk).1
  refine h.disks.sl.ld0 (i := i) (n := 1) (x := b) (v := .pointer (some ⟨b, 0, none⟩)) rfl hi.1 (by rw [List.getElem?_map, hbk]; rfl) rfl (OpN_some.2 ?_)
  refine d_Replace hda (by omega) fun w2 hd2 k2 => ?_
  have kf : Keep (SFoot ⟨m, g, bks⟩) w w2 := k2.mono fun k hk => Or.inr (Or.inl (by rw [hk]; exact List.mem_map.2 ⟨(b, r), List.mem_of_getElem? hbk, rfl⟩))
  have hm2 : MaAt w2 m s.pw := k2.has h.set.main (fun e => (hda.nem h.set.main).1 e.symm)
  have hfst : (bks.set i.toNat (b, w.heap.size)).map Prod.fst = bks.map Prod.fst := by
    apply List.ext_getElem?
    intro j
    rw [List.getElem?_map, List.getElem?_map]
    by_cases e : i.toNat = j
    · subst e; rw [List.getElem?_set_self hlt, hbk]; rfl
    · rw [List.getElem?_set_ne e]
  have hold : ∀ br ∈ bks, br.1 < w.heap.size ∧ br.2 < w.heap.size := fun br hbr => by
    obtain ⟨j, hj⟩ := List.getElem?_of_mem hbr
    have hjl := (List.getElem?_eq_some_iff.1 hj).1
    have hlen : bks.length = s.ds.length := h.set.len
    obtain ⟨b', r', D', hbk', _, hda', _⟩ := h.set.get (i := j) (by omega)
    have hbk' : bks[j]? = some (b', r') := hbk'
    rw [hj] at hbk'
    cases hbk'
    obtain ⟨cs, hc⟩ := hda'.rcells
    exact ⟨hda'.cells.lt, hc.lt⟩
  refine hK w2 (bks.set i.toNat (b, w.heap.size)) hfst (fun k hk => ?_) ⟨⟨?_, h.set.geo, ?_, ?_, fun j br D2 hbj hD2 => ?_, ?_, ?_⟩, by rw [hfst]; exact h.st.disks' kf, replS_good h.good hi⟩ kf
  · rcases hk with e | hk | hk
    · exact Or.inl (Or.inl e)
    · have hk : k ∈ (bks.set i.toNat (b, w.heap.size)).map Prod.fst := hk
      rw [hfst] at hk
      exact Or.inl (Or.inr (Or.inl hk))
    · obtain ⟨br, hbr, rfl⟩ := List.mem_map.1 hk
      have hbr : br ∈ bks.set i.toNat (b, w.heap.size) := hbr
      rcases List.mem_or_eq_of_mem_set hbr with hbr | rfl
      · exact Or.inl (Or.inr (Or.inr (List.mem_map.2 ⟨br, hbr, rfl⟩)))
      · exact Or.inr (Nat.le_refl _)
  · exact hm2
  · show (bks.set _ _).length = (s.ds.set _ _).length
    rw [List.length_set, List.length_set]; exact h.set.len
  · show ((s.ds.set _ _).length : Int) = g.d
    rw [List.length_set]; exact hnum
  · have hbj : (bks.set i.toNat (b, w.heap.size))[j]? = some br := hbj
    have hD2 : (s.ds.set i.toNat (replD (s.ds.getD i.toNat dsk0)))[j]? = some D2 := hD2
    by_cases e : i.toNat = j
    · subst e
      rw [List.getElem?_set_self hlt] at hbj
      rw [List.getElem?_set_self (by omega)] at hD2
      cases hbj
      cases hD2
      rw [hDg]
      exact ⟨hd2, by rw [replD_len]; exact hdl⟩
    · rw [List.getElem?_set_ne e] at hbj hD2
      obtain ⟨q1, q2⟩ := h.set.disks j br D2 hbj hD2
      have hjb : br.1 ≠ b := fun e' => e (nodup_at h.set.nodb (x := b) (by show (bks.map Prod.fst)[i.toNat]? = _; rw [List.getElem?_map, hbk]; rfl) (by show (bks.map Prod.fst)[j]? = _; rw [List.getElem?_map, hbj]; simp [e']))
      obtain ⟨c1, hc1⟩ := q1.rcells
      exact ⟨q1.keep k2 hjb (fun e' => (hda.cells.ne hc1 (by simp only [ne_eq, Obj.cells.injEq]; intro e; exact absurd e.2.1 (by decide))) e'.symm), q2⟩
  · show ((bks.set i.toNat (b, w.heap.size)).map Prod.fst).Nodup
    rw [hfst]; exact h.set.nodb
  · show ((bks.set i.toNat (b, w.heap.size)).map Prod.snd).Nodup
    have hmap : (bks.set i.toNat (b, w.heap.size)).map Prod.snd = (bks.map Prod.snd).set i.toNat w.heap.size := by
      rw [List.map_set]
    rw [hmap]
    have hnd : (bks.map Prod.snd).Nodup := h.set.nodr
    have hnot : w.heap.size ∉ bks.map Prod.snd := fun hm => by
      obtain ⟨br, hbr, e⟩ := List.mem_map.1 hm
      have := (hold br hbr).2
      omega
    exact nodup_set hnd hnot _
theorem GdI.rebuild (h : GdI w base g m bks p c s now N) (hN : N < 1000000) {i mk n : Int} (hi : 0 ≤ i ∧ i < g.d) (hal : deadS s i = false) (hm : 0 ≤ mk ∧ mk ≤ g.c * g.s) (hn : 0 ≤ n) (hl : ∀ st off : Int, 0 ≤ st ∧ st < g.s → 0 ≤ off ∧ off < g.c → lostN (colsS g s st off) ≤ 2)
    (hK : ∀ w' s', GdI w' base g m bks p c s' now (N + (min (g.c * g.s) (mk + n) - mk)) → (∀ j, deadS s' j = deadS s j) → (∀ j a, (0 ≤ j ∧ j < g.d) → (0 ≤ a ∧ a < g.c * g.s) → (viewS s' j a = none ↔ viewS s j a = none ∧ ¬ (j = i ∧ mk ≤ a ∧ a < mk + n))) → Keep (SFoot ⟨m, g, bks⟩) w w' → R (.tuple #[.int .i64 (min (g.c * g.s) (mk + n)), .int .i64 0]) w') :
    CallV Try.prog 41 #[.agg (setV g p g.d.toNat c), .int .i64 i, .int .i64 mk, .int .i64 n, .int .u32 0] w R := by
  have hsz := h.good.ss.geo.size
  refine sc_Rebuild h.set h.disks.sl h.disks.cap.1 h.st.off h.good.ss.ok (by omega) (by omega) (fun hb => absurd ⟨hi, hm, hn⟩ hb) (fun hd => absurd hd (by rw [hal]; decide)) fun _ _ _ _ w' hS k => ?_
  obtain ⟨s', a1, a2, a3, a4⟩ := rebS_ok hi h.good (by omega) hal hm hn hl
  have a1' : rebS (SB.mk m g bks).g s i mk n 0 = (min (g.c * g.s) (mk + n), 0, s') := a1
  rw [a1'] at hS ⊢
  exact hK w' s' ⟨hS, h.st.disks' k, a2⟩ a3 a4 k
end calls
end Go.Proofs
