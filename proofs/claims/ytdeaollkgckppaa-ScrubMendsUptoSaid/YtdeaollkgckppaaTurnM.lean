/-
  CELLS THAT ARE HURT OR TURNED, two of a row at most: what is seen of them; and the calls.
-/
import Derived.Test.YtdeaollkgckppaaLaw16M
import Derived.Test.YtdeaollkgckppaaTurnP
import Derived.Test.YtdeaollkgckppaaFDisk2
namespace Go.Proofs
open Go Go.Ev Go.RowKit
set_option linter.unusedSimpArgs false
set_option linter.unusedVariables false
set_option maxRecDepth 100000

def cellAt (s : SS) (j a : Int) : Sct := (s.ds.getD j.toNat dsk0).secs.getD a.toNat sct0
/-- a set whose cells are hurt or turned, as often as H says -/
structure HitS (g : Geo) (s0 s : SS) (H : Int → List Int) : Prop where
  num : s.ds.length = s0.ds.length
  pw : s.pw = s0.pw
  dead : ∀ j : Nat, (s.ds.getD j dsk0).dead = (s0.ds.getD j dsk0).dead
  key : ∀ j : Nat, (s.ds.getD j dsk0).key = (s0.ds.getD j dsk0).key
  len : ∀ j : Nat, (s.ds.getD j dsk0).secs.length = (s0.ds.getD j dsk0).secs.length
  cell : ∀ j a : Int, (0 ≤ j ∧ j < g.d) → (0 ≤ a ∧ a < g.c * g.s) → ∃ (fl : List Nat) (gd : Bool), cellAt s j a = ⟨⟨flips (cellAt s0 j a).cel.data fl, (cellAt s0 j a).cel.sum⟩, gd⟩ ∧ (∀ b ∈ fl, b < 128) ∧ fl.length ≤ (H a).count j ∧ (j ∉ H a → fl = [] ∧ gd = (cellAt s0 j a).good)
theorem HitS.refl (g : Geo) (s : SS) : HitS g s s fun _ => [] :=
  ⟨rfl, rfl, fun _ => rfl, fun _ => rfl, fun _ => rfl, fun j a _ _ => ⟨[], (cellAt s j a).good, rfl, by simp, by simp, fun _ => ⟨rfl, rfl⟩⟩⟩
theorem flips_append (f : Sec) (l l' : List Nat) : flips (flips f l) l' = flips f (l ++ l') := by unfold flips; rw [List.foldl_append]
/-- one more cell is hit -/
theorem HitS.hit {g : Geo} {s0 s : SS} {H : Int → List Int} (h : HitS g s0 s H) {i a : Int} (hi : 0 ≤ i ∧ i.toNat < s.ds.length) (ha : 0 ≤ a) {D' : Dsk} (h1 : D'.dead = (s.ds.getD i.toNat dsk0).dead) (h2 : D'.key = (s.ds.getD i.toNat dsk0).key) (h3 : D'.secs.length = (s.ds.getD i.toNat dsk0).secs.length)
    (h4 : ∀ b : Int, 0 ≤ b → b ≠ a → D'.secs.getD b.toNat sct0 = cellAt s i b) (h5 : ∃ (l : List Nat) (gd : Bool), D'.secs.getD a.toNat sct0 = ⟨⟨flips (cellAt s i a).cel.data l, (cellAt s i a).cel.sum⟩, gd⟩ ∧ (∀ b ∈ l, b < 128) ∧ l.length ≤ 1) : HitS g s0 ⟨s.ds.set i.toNat D', s.pw⟩ fun x => if x = a then i :: H a else H x := by
  have hget : ∀ j : Nat, (s.ds.set i.toNat D').getD j dsk0 = if i.toNat = j then D' else s.ds.getD j dsk0 := fun j => getD_setS hi.2 _ _
  refine ⟨by show (s.ds.set _ _).length = _; rw [List.length_set]; exact h.num, h.pw, fun j => ?_, fun j => ?_, fun j => ?_, fun j b hj hb => ?_⟩
  · show ((s.ds.set i.toNat D').getD j dsk0).dead = _
    rw [hget]
    split
    · rename_i e; rw [h1, e, h.dead]
    · exact h.dead j
  · show ((s.ds.set i.toNat D').getD j dsk0).key = _
    rw [hget]
    split
    · rename_i e; rw [h2, e, h.key]
    · exact h.key j
  · show ((s.ds.set i.toNat D').getD j dsk0).secs.length = _
    rw [hget]
    split
    · rename_i e; rw [h3, e, h.len]
    · exact h.len j
  · have hc : cellAt ⟨s.ds.set i.toNat D', s.pw⟩ j b = if i.toNat = j.toNat then D'.secs.getD b.toNat sct0 else cellAt s j b := by
      show ((s.ds.set i.toNat D').getD j.toNat dsk0).secs.getD b.toNat sct0 = _
      rw [hget]
      split <;> rfl
    obtain ⟨fl, gd, c1, c2, c3, c4⟩ := h.cell j b hj hb
    rw [hc]
    by_cases e : i.toNat = j.toNat
    · have e : j = i := by omega
      subst e
      rw [if_pos rfl]
      by_cases eb : b = a
      · subst eb
        obtain ⟨l, gd', d1, d2, d3⟩ := h5
        refine ⟨fl ++ l, gd', ?_, fun x hx => ?_, ?_, fun hn => ?_⟩
        · rw [d1, c1]
          show (⟨⟨flips (flips (cellAt s0 j b).cel.data fl) l, (cellAt s0 j b).cel.sum⟩, gd'⟩ : Sct) = _
          rw [flips_append]
        · rcases List.mem_append.1 hx with hx | hx
          · exact c2 x hx
          · exact d2 x hx
        · show (fl ++ l).length ≤ (if b = b then j :: H b else H b).count j
          rw [if_pos rfl, List.length_append, List.count_cons_self]
          omega
        · have hn : j ∉ (if b = b then j :: H b else H b) := hn
          rw [if_pos rfl] at hn
          exact absurd (List.mem_cons_self ..) hn
      · rw [h4 b hb.1 eb]
        refine ⟨fl, gd, c1, c2, ?_, fun hn => ?_⟩
        · show fl.length ≤ (if b = a then j :: H a else H b).count j
          rw [if_neg eb]; exact c3
        · have hn : j ∉ (if b = a then j :: H a else H b) := hn
          rw [if_neg eb] at hn
          exact c4 hn
    · rw [if_neg e]
      have hne : ¬ i = j := fun e' => e (by rw [e'])
      refine ⟨fl, gd, c1, c2, ?_, fun hn => c4 ?_⟩
      · show fl.length ≤ (if b = a then i :: H a else H b).count j
        split
        · rename_i eb
          subst eb
          rw [List.count_cons_of_ne hne]; exact c3
        · exact c3
      · have hn : j ∉ (if b = a then i :: H a else H b) := hn
        split at hn
        · rename_i eb
          subst eb
          exact fun hm => hn (List.mem_cons_of_mem _ hm)
        · exact hn
theorem view_cell (s : SS) (j a : Int) : viewS s j a = if (s.ds.getD j.toNat dsk0).dead = true then none else if (cellAt s j a).good = false then none else if (cellAt s j a).cel.sum = sumS a (cellAt s j a).cel.data then some (cellAt s j a).cel.data else none := rfl
theorem HitS.view {g : Geo} {s0 s : SS} {H : Int → List Int} (h : HitS g s0 s H) (hs : SsOk g s0) (hW : Whole g s0) (hal : ∀ i, deadS s0 i = false) {j a : Int} (hj : 0 ≤ j ∧ j < g.d) (ha : 0 ≤ a ∧ a < g.c * g.s) (hH : (H a).length ≤ 2) :
    (viewS s j a = none ∨ viewS s j a = viewS s0 j a) ∧ (viewS s j a = none → j ∈ H a) := by
  obtain ⟨fl, gd, c1, c2, c3, c4⟩ := h.cell j a hj ha
  have hd0 := hal j
  unfold deadS at hd0
  have hd : (s.ds.getD j.toNat dsk0).dead = false := by rw [h.dead]; exact hd0
  have h0 := hW j a hj ha
  rw [view_cell, if_neg (by rw [hd0]; decide)] at h0
  have hok : SecOk (cellAt s0 j a).cel.data := ((hs.ok _ (hs.get hj.1 hj.2)).get a.toNat).1
  have hvs : viewS s j a = (if gd = false then none else if (cellAt s0 j a).cel.sum = sumS a (flips (cellAt s0 j a).cel.data fl) then some (flips (cellAt s0 j a).cel.data fl) else none) := by
    rw [view_cell, if_neg (by rw [hd]; decide), c1]
  have hv0 : viewS s0 j a = (if (cellAt s0 j a).good = false then none else if (cellAt s0 j a).cel.sum = sumS a (cellAt s0 j a).cel.data then some (cellAt s0 j a).cel.data else none) := by
    rw [view_cell, if_neg (by rw [hd0]; decide)]
  rw [hvs, hv0]
  clear hvs hv0
  generalize cellAt s0 j a = x at *
  by_cases hg0 : x.good = false
  · rw [if_pos hg0] at h0; exact absurd rfl h0
  · rw [if_neg hg0] at h0
    rw [if_neg hg0]
    by_cases hs0 : x.cel.sum = sumS a x.cel.data
    · rw [if_pos hs0] at h0
      rw [if_pos hs0]
      have hcnt := List.count_le_length (a := j) (l := H a)
      refine ⟨?_, fun hv => ?_⟩
      · show (if gd = false then none else if x.cel.sum = sumS a (flips x.cel.data fl) then some (flips x.cel.data fl) else none) = none ∨ (if gd = false then none else if x.cel.sum = sumS a (flips x.cel.data fl) then some (flips x.cel.data fl) else none) = some x.cel.data
        by_cases hgd : gd = false
        · rw [if_pos hgd]; exact Or.inl rfl
        · rw [if_neg hgd]
          rcases flips_two hok a (l := fl) (by omega) c2 with e | e
          · rw [e, if_pos hs0]; exact Or.inr rfl
          · rw [if_neg (fun h => e (by rw [← h, hs0]))]; exact Or.inl rfl
      · refine Classical.byContradiction fun hn => ?_
        obtain ⟨rfl, rfl⟩ := c4 hn
        have hv : (if x.good = false then none else if x.cel.sum = sumS a (flips x.cel.data []) then some (flips x.cel.data []) else none) = none := hv
        rw [if_neg hg0, if_pos (show x.cel.sum = sumS a (flips x.cel.data []) from hs0)] at hv
        cases hv
    · rw [if_neg hs0] at h0; exact absurd rfl h0
theorem HitS.good {g : Geo} {s0 s : SS} {now : Int → Sec} {N : Int} {H : Int → List Int} (h : HitS g s0 s H) (h0 : Good g s0 now N) (hW : Whole g s0) (hal : ∀ i, deadS s0 i = false) (hH : ∀ a, 0 ≤ a ∧ a < g.c * g.s → (H a).length ≤ 2) :
    Good g s now N ∧ (∀ i, deadS s i = false) ∧ ∀ st off : Int, 0 ≤ st ∧ st < g.s → 0 ≤ off ∧ off < g.c → lostN (colsS g s st off) ≤ 2 := by
  have hg := h0.ss.geo
  have hn0 := h0.ss.num
  have hn : (s.ds.length : Int) = g.d := by rw [h.num]; exact hn0
  have idx : ∀ D ∈ s.ds, ∃ j : Nat, j < s.ds.length ∧ s.ds.getD j dsk0 = D := fun D hD => by
    obtain ⟨j, hj⟩ := List.getElem?_of_mem hD
    exact ⟨j, (List.getElem?_eq_some_iff.1 hj).1, by rw [List.getD_eq_getElem?_getD, hj]; rfl⟩
  have hlen : ∀ j : Nat, j < s.ds.length → ((s.ds.getD j dsk0).secs.length : Int) = g.c * g.s := fun j hj => by
    rw [h.len]
    exact h0.ss.len _ (by have := h0.ss.get (i := (j : Int)) (by omega) (by omega); rwa [Int.toNat_natCast] at this)
  refine ⟨⟨⟨hg, hn, fun D hD => ?_, fun D hD => ?_⟩, by rw [h.pw]; exact h0.lit, fun i => by rw [h.key]; exact h0.key i, fun st off hst hof k hk f hv => ?_, h0.nok, by rw [h.pw]; exact h0.st0, by rw [h.pw]; exact h0.stN⟩, fun i => by
    have := hal i
    unfold deadS at this ⊢
    rw [h.dead]; exact this, fun st off hst hof => ?_⟩
  · obtain ⟨j, hj, rfl⟩ := idx D hD
    exact hlen j hj
  · obtain ⟨j, hj, rfl⟩ := idx D hD
    have hok0 := h0.ss.ok _ (by have := h0.ss.get (i := (j : Int)) (by omega) (by omega); rwa [Int.toNat_natCast] at this)
    refine ⟨fun x hx => ?_, by rw [h.key]; exact hok0.2⟩
    obtain ⟨a, ha⟩ := List.getElem?_of_mem hx
    have hal := (List.getElem?_eq_some_iff.1 ha).1
    have hl := hlen j hj
    obtain ⟨fl, gd, c1, c2, c3, c4⟩ := h.cell (j : Int) (a : Int) (by omega) (by omega)
    have e : cellAt s (j : Int) (a : Int) = x := by
      show (s.ds.getD ((j : Int)).toNat dsk0).secs.getD ((a : Int)).toNat sct0 = x
      rw [Int.toNat_natCast, Int.toNat_natCast, List.getD_eq_getElem?_getD (l := (s.ds.getD j dsk0).secs), ha]; rfl
    rw [← e, c1]
    have hc0 : CelOk (cellAt s0 (j : Int) (a : Int)).cel := by
      have := hok0.get a
      show CelOk ((s0.ds.getD ((j : Int)).toNat dsk0).secs.getD ((a : Int)).toNat sct0).cel
      rw [Int.toNat_natCast, Int.toNat_natCast]
      exact this
    exact ⟨flips_ok hc0.1 fl, hc0.2⟩
  · obtain ⟨pk1, pk2⟩ := plcP_ok hg hst hof (k : Int)
    rcases (h.view h0.ss hW hal pk1 pk2 (hH _ pk2)).1 with e | e
    · rw [e] at hv; cases hv
    · rw [e] at hv
      exact h0.inv st off hst hof k hk f hv
  · have hsz : 0 ≤ st * g.c + off ∧ st * g.c + off < g.c * g.s := (plcP_ok hg hst hof 0).2
    have hl2 := hH (st * g.c + off) hsz
    have key : ∀ X Y : Int, (∀ j ∈ H (st * g.c + off), j = X ∨ j = Y) → lostN (colsS g s st off) ≤ 2 := fun X Y hXY => lost_two hg hst hof X Y fun k hk hv => by
      obtain ⟨pk1, pk2⟩ := plcP_ok hg hst hof (k : Int)
      exact hXY _ ((h.view h0.ss hW hal pk1 pk2 (hH _ pk2)).2 hv)
    revert hl2 key
    generalize H (st * g.c + off) = l
    intro hl2 key
    rcases l with _ | ⟨x, _ | ⟨y, _ | ⟨z, l⟩⟩⟩
    · exact key 0 0 fun j hj => absurd hj (by simp)
    · exact key x x fun j hj => Or.inl (List.mem_singleton.1 hj)
    · exact key x y fun j hj => by simpa using hj
    · simp at hl2

/-! ### Turn -/
def turnD (D : Dsk) (a : Int) (b : Nat) : Dsk := if (D.secs.getD a.toNat sct0).good = false then D else { D with secs := D.secs.set a.toNat ⟨⟨flipF (D.secs.getD a.toNat sct0).cel.data b, (D.secs.getD a.toNat sct0).cel.sum⟩, true⟩ }
theorem turnD_dead (D : Dsk) (a : Int) (b : Nat) : (turnD D a b).dead = D.dead := by unfold turnD; split <;> rfl
theorem turnD_key (D : Dsk) (a : Int) (b : Nat) : (turnD D a b).key = D.key := by unfold turnD; split <;> rfl
theorem turnD_len (D : Dsk) (a : Int) (b : Nat) : (turnD D a b).secs.length = D.secs.length := by
  unfold turnD
  split
  · rfl
  · simp
theorem turn_row (x : Sct) {b : Nat} (hb : b < 128) (hx : SecOk x.cel.data) : sctL ⟨⟨flipF x.cel.data b, x.cel.sum⟩, true⟩ = (sctL ⟨x.cel, true⟩).set (b / 8) (Value.int .u8 (((x.cel.data ⟨b / 8, by omega⟩).toNat ^^^ 2 ^ (b % 8) : Nat) : Int)) := by
  have hl : ∀ f : Sec, (secV f).toList.length = 16 := fun _ => rfl
  show ((secV (flipF x.cel.data b)).toList ++ [Value.int .u32 x.cel.sum]) ++ [Value.bool true] = (((secV x.cel.data).toList ++ [Value.int .u32 x.cel.sum]) ++ [Value.bool true]).set (b / 8) _
  rw [List.set_append_left _ _ (by rw [List.length_append, hl]; omega), List.set_append_left _ _ (by rw [hl]; omega)]
  congr 2
  apply List.ext_getElem?
  intro i
  have e : ∀ f : Sec, (secV f).toList = (secB f).map fun y => Value.int .u8 y := fun _ => rfl
  by_cases hi : i < 16
  · rw [e, List.getElem?_map, get_secB _ hi]
    by_cases ei : b / 8 = i
    · subst ei
      rw [List.getElem?_set_self (by rw [hl]; omega)]
      show some (Value.int .u8 (flipF x.cel.data b ⟨b / 8, hi⟩)) = _
      unfold flipF
      rw [if_pos rfl]
    · rw [List.getElem?_set_ne ei, e, List.getElem?_map, get_secB _ hi]
      show some (Value.int .u8 (flipF x.cel.data b ⟨i, hi⟩)) = some (Value.int .u8 (x.cel.data ⟨i, hi⟩))
      unfold flipF
      rw [if_neg (fun h => ei h.symm)]
  · rw [List.getElem?_eq_none (by rw [hl]; omega), List.getElem?_eq_none (by rw [List.length_set, hl]; omega)]
theorem shl_bit {k : Nat} (h : k < 8) : ishl .u8 1 (k : Int) = ((2 ^ k : Nat) : Int) := by
  rcases (show k = 0 ∨ k = 1 ∨ k = 2 ∨ k = 3 ∨ k = 4 ∨ k = 5 ∨ k = 6 ∨ k = 7 by omega) with rfl | rfl | rfl | rfl | rfl | rfl | rfl | rfl <;> decide
theorem d_Turn {w : World} {m b r : Nat} {D : Dsk} {R : Value → World → Prop} (h : DiskAt w m b r D) (hok : DskOk D) {at_ : Int} {bit : Nat} (hin : 0 ≤ at_ ∧ at_ < (D.secs.length : Int)) (hd : D.dead = false) (hbit : bit < 128) (hK : ∀ e w', DiskAt w' m b r (turnD D at_ bit) → Keep (fun k => k = r) w w' → R (.int .i64 e) w') :
    CallV Try.prog 37 #[.pointer (some ⟨b, 0, none⟩), .int .i64 at_, .int .i64 (bit : Int)] w R := by
  apply C_disk_Disk_Turn
  unfold F_disk_Disk_Turn
  unfold turnD at hK
  refine d_in h (OpB_bool.2 ⟨rfl, rfl, rfl, rfl, ?_⟩)
  rw [decide_eq_true hin, decide_eq_false (show ¬ (bit : Int) < 0 by omega), decide_eq_false (show ¬ (bit : Int) ≥ 128 by omega)]
  refine (Cb_false (p := _)).2 ?_
  refine LdV_has (v := .bool D.dead) h.cells rfl (OpB_bool.2 ?_)
  rw [hd]
  refine (Cb_false (p := _)).2 ?_
  refine LdV_has (v := .slice (some ⟨r, 0, none⟩) D.secs.length D.secs.length) h.cells rfl (OpS_slice.2 ?_)
  have hget : D.secs[at_.toNat]? = some (D.secs.getD at_.toNat sct0) := by
    have := getD_at (xs := D.secs) (i := at_.toNat) (by omega) sct0
    rwa [Int.toNat_natCast] at this
  have hxok := hok.get at_.toNat
  generalize hx : D.secs.getD at_.toNat sct0 = x at *
  refine h.row.sl.ldF (i := at_) (n := 18) (t := 17) (x := x) (v := .bool x.good) rfl hin.1 hget rfl (OpB_bool.2 ?_)
  refine Cb_of (fun e => ?_) (fun e => ?_)
  · have e : x.good = false := by simpa using e
    rw [if_pos e] at hK
    exact Ret_nil.2 (hK _ w h (Keep.refl _ _))
  · have e : x.good = true := by simpa using e
    rw [if_neg (by rw [e]; decide)] at hK
    intro d hdr
    have kd := Keep.drew (fun k => k = r) w d
    have hcd := h.cells.dr d
    have hrd : OwnL kLay (w.dr d) 0 134 (some ⟨r, 0, none⟩) D.secs.length D.secs.length D.secs := h.row.keep (Keep.drew (fun _ => False) w d) (by simp)
    generalize w.dr d = w1 at *
    refine LdV_has (v := .slice (some ⟨r, 0, none⟩) D.secs.length D.secs.length) hcd rfl (OpS_slice.2 ⟨by decide, ?_⟩)
    have ediv : IntKind.wrap .i64 (Int.tdiv (bit : Int) 8) = ((bit / 8 : Nat) : Int) := by
      rw [Int.tdiv_eq_ediv_of_nonneg (by omega), wrapI (by omega) (by omega)]; omega
    have emod : Int.tmod (bit : Int) 8 = ((bit % 8 : Nat) : Int) := by rw [Int.tmod_eq_emod_of_nonneg (by omega)]; omega
    rw [ediv, emod, Int.toNat_natCast, Nat.mul_one]
    have hb8 : bit / 8 < 16 := by omega
    have hrow : (sctL x)[bit / 8]? = some (.int .u8 (x.cel.data ⟨bit / 8, hb8⟩)) := by
      show (((secV x.cel.data).toList ++ [Value.int .u32 x.cel.sum]) ++ [Value.bool x.good])[bit / 8]? = _
      have hl : (secV x.cel.data).toList.length = 16 := rfl
      rw [List.getElem?_append_left (by rw [List.length_append, hl]; omega), List.getElem?_append_left (by rw [hl]; omega)]
      show ((secB x.cel.data).map fun y => Value.int .u8 y)[bit / 8]? = _
      rw [List.getElem?_map, get_secB _ hb8]; rfl
    have hfr := hxok.1 ⟨bit / 8, hb8⟩
    have := hrd.sl.ldF (i := at_) (n := 18) (t := bit / 8) (x := x) (v := .int .u8 (x.cel.data ⟨bit / 8, hb8⟩)) rfl hin.1 hget hrow (K := fun v5 => OpI .u8 v5 fun n => Req ((8 : Int) ≠ 0) (Req (0 ≤ (((bit % 8 : Nat)) : Int)) (IdxS (some ⟨r, 0, none⟩) D.secs.length at_ 18 fun b2 o2 => Req (0 ≤ ((bit / 8 : Nat) : Int) ∧ ((bit / 8 : Nat) : Int) < 16) (StV b2 (o2 + bit / 8) (.int .u8 (ibits .xor .u8 n (ishl .u8 1 ((bit % 8 : Nat) : Int)))) w1 fun w => Ret [] (R (.int .i64 0) w))))) ?_
    · obtain ⟨bb, oo, q1, q2, q3, q4⟩ := this
      exact ⟨bb, oo, q1, q2, q3, ⟨by omega, by omega⟩, q4⟩
    · refine OpI_int.2 ⟨by decide, by omega, ?_⟩
      have ev : ibits .xor .u8 (x.cel.data ⟨bit / 8, hb8⟩) (ishl .u8 1 ((bit % 8 : Nat) : Int)) = (((x.cel.data ⟨bit / 8, hb8⟩).toNat ^^^ 2 ^ (bit % 8) : Nat) : Int) := by
        rw [shl_bit (Nat.mod_lt _ (by decide)), show x.cel.data ⟨bit / 8, hb8⟩ = (((x.cel.data ⟨bit / 8, hb8⟩).toNat : Nat) : Int) by omega, xor_u8 (by omega) (pow8_lt bit), Int.toNat_natCast]
      rw [ev]
      have hst := hrd.stF (i := at_) (n := 18) (t := bit / 8) (x := x) (y := ⟨⟨flipF x.cel.data bit, x.cel.sum⟩, true⟩) (v := .int .u8 (((x.cel.data ⟨bit / 8, hb8⟩).toNat ^^^ 2 ^ (bit % 8) : Nat) : Int)) rfl hin.1 hget (by omega) (by
        have := turn_row x hbit hxok.1
        rw [show (⟨x.cel, true⟩ : Sct) = x by cases x; simp only at e; rw [e]] at this
        exact this) rfl (K := fun w => Ret [] (R (.int .i64 0) w)) fun w' ho k _ => ?_
      · obtain ⟨bb, oo, q1, q2, q3, q4⟩ := hst
        exact ⟨bb, oo, q1, q2, q3, ⟨by omega, by omega⟩, q4⟩
      · have k' : Keep (fun k => k = r) w1 w' := k.mono fun k hk => by
          injection hk with hk
          injection hk with hk
          exact hk.symm
        have hl : (D.secs.set at_.toNat ⟨⟨flipF x.cel.data bit, x.cel.sum⟩, true⟩).length = D.secs.length := by simp
        refine Ret_nil.2 (hK _ w' ⟨?_, ?_⟩ (kd.trans k'))
        · have := k'.has hcd h.ne
          unfold diskC at this ⊢
          rw [hl]
          exact this
        · rw [hl]
          exact ho
end Go.Proofs
