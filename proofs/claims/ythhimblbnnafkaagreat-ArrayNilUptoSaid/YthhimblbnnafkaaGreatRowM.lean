import Derived.Test.YthhimblbnnafkaaGreatSetM
import Derived.Test.YthhimblbnnafkaaGreatRecM
import Derived.Test.YthhimblbnnafkaaGreatLayM

/-
  A ROW OF A SET: stripe.Row.
-/
namespace Go.Proofs
open Go Go.Ev
set_option linter.unusedSimpArgs false
set_option linter.unusedVariables false
set_option maxRecDepth 100000

/-- the columns of a row, as they can be read -/
def colsS (g : Geo) (s : SS) (st off : Int) : List (Option Sec) := (List.range g.d.toNat).map fun (k : Nat) => cellD (s.ds.getD (plcP g st off (k : Int)).dk.toNat dsk0) (plcP g st off (k : Int)).at_
theorem len_colsS (g : Geo) (s : SS) (st off : Int) : (colsS g s st off).length = g.d.toNat := by simp [colsS]
theorem colsS_at {g : Geo} {s : SS} {st off : Int} {k : Nat} (hk : k < g.d.toNat) : (colsS g s st off)[k]? = some (cellD (s.ds.getD (plcP g st off (k : Int)).dk.toNat dsk0) (plcP g st off (k : Int)).at_) := by
  unfold colsS
  rw [List.getElem?_map, List.getElem?_range hk]; rfl
theorem cellD_ok {D : Dsk} (h : DskOk D) (a : Int) : ColOk (cellD D a) := by
  unfold cellD
  split
  · trivial
  · split
    · trivial
    · split
      · exact (h.get _).1
      · trivial
theorem dsk0_ok : DskOk dsk0 := ⟨by simp [dsk0], by decide, by decide⟩
theorem getD_ok {s : SS} (h : ∀ D ∈ s.ds, DskOk D) (i : Nat) : DskOk (s.ds.getD i dsk0) := by
  rw [List.getD_eq_getElem?_getD]
  cases hx : s.ds[i]? with
  | none => exact dsk0_ok
  | some x => exact h x (List.mem_of_getElem? hx)
theorem colsS_ok {g : Geo} {s : SS} {st off : Int} (h : ∀ D ∈ s.ds, DskOk D) : ∀ C ∈ colsS g s st off, ColOk C := by
  intro C hC
  unfold colsS at hC
  obtain ⟨k, _, rfl⟩ := List.mem_map.1 hC
  exact cellD_ok (getD_ok h _) _
def rowD (Cs : List (Option Sec)) : List (Option Sec) := Cs.take (Cs.length - 2)
def rowPc (Cs : List (Option Sec)) : Option Sec := Cs.getD (Cs.length - 2) none
def rowQc (Cs : List (Option Sec)) : Option Sec := Cs.getD (Cs.length - 1) none
/-- a row, with what was lost -/
def rowR (Cs : List (Option Sec)) : List Sec := (fixC (rowD Cs) (rowPc Cs) (rowQc Cs)).map (fun C => C.getD (sec [])) ++ [recP (rowD Cs) (rowPc Cs) (rowQc Cs), recQ (rowD Cs) (rowPc Cs) (rowQc Cs)]
theorem split_row {Cs : List (Option Sec)} (h : 2 ≤ Cs.length) : Cs = rowD Cs ++ [rowPc Cs, rowQc Cs] := by
  apply List.ext_getElem?
  intro i
  unfold rowD rowPc rowQc
  by_cases h1 : i < Cs.length - 2
  · rw [List.getElem?_append_left (by simp; omega), List.getElem?_take, if_pos h1]
  · rw [List.getElem?_append_right (by simp; omega), List.length_take, Nat.min_eq_left (by omega)]
    by_cases h2 : i = Cs.length - 2
    · rw [h2, Nat.sub_self, List.getD_eq_getElem?_getD, List.getElem?_eq_getElem (by omega)]; rfl
    · by_cases h3 : i = Cs.length - 1
      · rw [show i - (Cs.length - 2) = 1 by omega, h3, List.getD_eq_getElem?_getD (i := Cs.length - 1), List.getElem?_eq_getElem (by omega)]; rfl
      · rw [List.getElem?_eq_none (by omega), List.getElem?_eq_none (by simp; omega)]
theorem lost_split {Cs : List (Option Sec)} (h : 2 ≤ Cs.length) : lostN (rowD Cs) + lostN [rowPc Cs, rowQc Cs] = lostN Cs := by
  conv => rhs; rw [split_row h]
  rw [lostN_append]
theorem len_rowR {Cs : List (Option Sec)} (h : 2 ≤ Cs.length) : (rowR Cs).length = Cs.length := by
  unfold rowR
  rw [List.length_append, List.length_map, len_fixC]
  unfold rowD
  simp; omega
/-- nothing is lost any more -/
theorem goneI_has {Cs : List (Option Sec)} : ∀ {k n : Nat}, n < k → Cs[n]? = some none → (n : Int) ∈ goneI Cs k
  | 0, n, h, _ => absurd h (by omega)
  | k + 1, n, h, hn => by
    unfold goneI
    by_cases hk : n = k
    · subst hk
      rw [if_pos (isGone_iff.2 hn)]
      simp
    · exact List.mem_append_left _ (goneI_has (by omega) hn)
theorem gone_mem {Cs : List (Option Sec)} {n : Nat} (h : Cs[n]? = some none) : (n : Int) ∈ goneL Cs := goneI_has (List.getElem?_eq_some_iff.1 h).1 h
theorem fix_some {Cs : List (Option Sec)} {Pc Qc : Option Sec} (h : lostN Cs ≤ 2) : ∀ C ∈ fixC Cs Pc Qc, ∃ f, C = some f := by
  intro C hC
  have hl := goneL_len Cs
  cases C with
  | some f => exact ⟨f, rfl⟩
  | none =>
    exfalso
    obtain ⟨n, hn⟩ := List.getElem?_of_mem hC
    have key : ∀ {Z : List (Option Sec)}, Z[n]? = some none → Z.length = Cs.length → (∀ m : Nat, (m : Int) ∈ goneL Cs → ∃ f, Z[m]? = some (some f)) → (∀ m : Nat, (m : Int) ∉ goneL Cs → Z[m]? = Cs[m]?) → False := by
      intro Z h1 h2 h3 h4
      by_cases hm : (n : Int) ∈ goneL Cs
      · obtain ⟨f, hf⟩ := h3 n hm
        rw [h1] at hf; cases hf
      · rw [h4 n hm] at h1
        exact hm (gone_mem h1)
    have lt : ∀ x ∈ goneL Cs, ∃ m : Nat, x = (m : Int) ∧ m < Cs.length := fun x hx => by
      obtain ⟨m, h1, h2, _⟩ := goneI_lt Cs Cs.length x hx
      exact ⟨m, h1, h2⟩
    unfold fixC at hn
    split at hn
    · rename_i i hG
      obtain ⟨m, hm, hml⟩ := lt i (by rw [hG]; simp)
      have one : ∀ F : Sec, (Cs.set i.toNat (some F))[n]? = some none → False := fun F hF => key hF (by simp) (fun k hk => by
        rw [hG] at hk
        have : (k : Int) = i := by simpa using hk
        rw [show i.toNat = k by omega, List.getElem?_set_self (by omega)]
        exact ⟨_, rfl⟩) (fun k hk => by
        rw [hG] at hk
        have : ¬ (k : Int) = i := by simpa using hk
        rw [List.getElem?_set_ne (by omega)])
      split at hn
      · exact one _ hn
      · exact one _ hn
    · rename_i i j hG
      obtain ⟨m, hm, hml⟩ := lt i (by rw [hG]; simp)
      obtain ⟨m2, hm2, hml2⟩ := lt j (by rw [hG]; simp)
      refine key hn (by simp) (fun k hk => ?_) (fun k hk => ?_)
      · rw [hG] at hk
        by_cases hkj : (k : Int) = j
        · rw [show j.toNat = k by omega, List.getElem?_set_self (by simp; omega)]
          exact ⟨_, rfl⟩
        · have : (k : Int) = i := by simpa [hkj] using hk
          rw [List.getElem?_set_ne (by omega), show i.toNat = k by omega, List.getElem?_set_self (by omega)]
          exact ⟨_, rfl⟩
      · rw [hG] at hk
        have : ¬ (k : Int) = i ∧ ¬ (k : Int) = j := by simpa using hk
        rw [List.getElem?_set_ne (by omega), List.getElem?_set_ne (by omega)]
    · rename_i h1 h2
      have : goneL Cs = [] := by
        match hG : goneL Cs with
        | [] => rfl
        | [i] => exact absurd hG (h1 i)
        | [i, j] => exact absurd hG (h2 i j)
        | _ :: _ :: _ :: _ => rw [hG] at hl; simp at hl; omega
      have hm := gone_mem hn
      rw [this] at hm
      cases hm

/-! ### memory -/
def secLay : Lay Sec := ⟨16, fun f => (secV f).toList, fun _ => rfl, one_secV, by decide⟩
theorem secLayT : LayT Tryz.prog secLay 32 37 16 := ⟨by kernel_rfl, ⟨(Tryz.prog.info? 37).get (by kernel_rfl), ((Tryz.prog.info? 37).get (by kernel_rfl)).zero.get (by kernel_rfl), by kernel_rfl, by kernel_rfl, by kernel_rfl, by kernel_rfl, by kernel_rfl⟩⟩
theorem bsl_s1 (f : Sec) (w : World) : (Instr.buildSlice 32 1 #[(0, .agg (secV f))]).run Tryz.prog w = .ok (.slice (some ⟨w.heap.size, 0, none⟩) 1 1) (w.alloc (.cells (secV f) 37)) :=
  run_buildSlice w 32 37 1 _ (secV f) ((Tryz.prog.info? 37).get (by kernel_rfl)) (((Tryz.prog.info? 37).get (by kernel_rfl)).zero.get (by kernel_rfl)) (by kernel_rfl) (by kernel_rfl) (by kernel_rfl) (by decide +kernel) (by decide +kernel) (by kernel_rfl)
def SecAt (w : World) (h : Option Addr × Nat × Nat) : Option Sec → Prop
  | none => h = (none, 0, 0)
  | some f => ∃ b, h = (some ⟨b, 0, none⟩, 16, 16) ∧ Has w b (.cells (secV f) 37 (0, 0))
theorem SecAt.keep {w w' : World} {S : Nat → Prop} {h : Option Addr × Nat × Nat} : ∀ {C : Option Sec}, SecAt w h C → Keep S w w' → (∀ b cs, Has w b (.cells cs 37 (0, 0)) → ¬ S b) → SecAt w' h C
  | none, hc, _, _ => hc
  | some f, ⟨b, h1, h2⟩, k, hS => ⟨b, h1, k.has h2 (hS b _ h2)⟩
theorem sl_secV {w : World} {b : Nat} {t : TypeId} {f : Sec} (h : Has w b (.cells (secV f) t (0, 0))) : SlL byLay w (some ⟨b, 0, none⟩) 16 (secB f) := ⟨rfl, fun i x hi => ⟨b, 0, rfl, fun j hj => by
  have hj : j = 0 := by have : j < 1 := hj; omega
  subst hj
  have e : (secV f).toList = (secB f).map fun y => Value.int .u8 y := rfl
  rw [cell_of h, show 0 + i * byLay.size + 0 = i by show 0 + i * 1 + 0 = i; omega, ← Array.getElem?_toList, e, List.getElem?_map, hi]; rfl⟩⟩
theorem SecAt.col {w : World} {h : Option Addr × Nat × Nat} : ∀ {C : Option Sec}, SecAt w h C → ColAt w h C
  | none, hc => hc
  | some f, ⟨b, h1, h2⟩ => by subst h1; exact ⟨⟨b, 0, rfl⟩, rfl, Nat.le_refl _, sl_secV h2⟩
theorem OwnL.neH {α : Type} {L : Lay α} {w : World} {base : Nat} {e : TypeId} {p : Option Addr} {l c : Nat} {xs : List α} (h : OwnL L w base e p l c xs) {x : Nat} {cs : Array Value} {t : TypeId} (hx : Has w x (.cells cs t (0, 0))) (ht : t ≠ e) : p ≠ some ⟨x, 0, none⟩ := by
  intro hp
  rcases Own.cases h with ⟨h0, _⟩ | ⟨b', cur, h0, _, hg, _⟩
  · rw [h0] at hp; cases hp
  · rw [h0] at hp
    cases hp
    exact (hx.ne hg (by simp only [ne_eq, Obj.cells.injEq]; intro e'; exact ht e'.2.1)) rfl
theorem ldSec {w : World} {p : Option Addr} {f : Sec} (h : SlL byLay w p 16 (secB f)) (hp : ∃ b o, p = some ⟨b, o, none⟩) {K : Array Value → Prop} (hK : K (secV f)) : SlArr p 16 16 fun b o => LdA 16 b o (At w) K := by
  obtain ⟨b, o, rfl⟩ := hp
  refine ⟨b, o, rfl, Nat.le_refl _, secV f, rfl, ?_, hK⟩
  rintro w' ⟨d, rfl⟩ i hi
  obtain ⟨b', o', hp', hc⟩ := h.2 i (f ⟨i, hi⟩) (get_secB f hi)
  cases hp'
  have := hc 0 (by show 0 < 1; decide)
  rw [show o + i * byLay.size + 0 = o + i by show o + i * 1 + 0 = o + i; omega] at this
  have e : (secV f).toList = (secB f).map fun y => Value.int .u8 y := rfl
  rw [show (w.dr d).cell? ⟨b, o + i, none⟩ = w.cell? ⟨b, o + i, none⟩ from rfl, this, ← Array.getElem?_toList, e, List.getElem?_map, get_secB f hi]; rfl
end Go.Proofs

/-
  A ROW OF A SET, the walk: stripe.Row.
-/
namespace Go.Proofs
open Go Go.Ev
set_option linter.unusedSimpArgs false
set_option linter.unusedVariables false
set_option maxRecDepth 100000

theorem zc_plc : zc Tryz.prog 84 = plcV ⟨0, 0⟩ := by kernel_rfl
theorem run_mkh (w : World) {n : Nat} (hn : n ≤ 1000) : ∃ w', (Instr.makeSlice 187 (.int .i64 (n : Int)) (.int .i64 (n : Int))).run Tryz.prog w = .ok (.slice (some ⟨w.heap.size, 0, none⟩) n n) w' ∧ OwnL hLay w' w.heap.size 22 (some ⟨w.heap.size, 0, none⟩) n n (List.replicate n (none, 0, 0)) ∧ Keep (fun _ => False) w w' ∧ w'.heap.size = w.heap.size + 1 :=
  run_makeL (P := Tryz.prog) (L := hLay) (x0 := (none, 0, 0)) (t := 187) (e := 22) (i := (Tryz.prog.info? 22).get (by kernel_rfl)) (z := ((Tryz.prog.info? 22).get (by kernel_rfl)).zero.get (by kernel_rfl)) w (by kernel_rfl) (by kernel_rfl) (by kernel_rfl) (by kernel_rfl) (by kernel_rfl) n
    (by show n * 1 ≤ _; omega) (by have : ((Tryz.prog.info? 22).get (by kernel_rfl)).bytes = 24 := by kernel_rfl
                                   rw [this]; omega) (by simp only [maxLen]; omega)
/-- the end of Row: the columns are turned to sectors -/
def RowEnd (p10 : Option Addr) (l12 : Nat) (lp : Option Addr) (ll lc : Nat) (w : World) (R : Value → World → Prop) : Prop :=
  LoopC (σ := (Option Addr × Nat × Nat) × Int × Unit) (fun _ s2 w K2 => Cb
  (decide (s2.2.1 < ((l12 : Nat) : Int))) (IdxS p10 l12 s2.2.1 1 fun b7 o4 => LdV b7 o4 (At w) fun v20 => OpS v20 fun p11 l13 c11 => SlArr p11 l13 16 fun b8 o5 => LdA 16 b8
  o5 (At w) fun cs6 => DoV Tryz.prog (Instr.buildSlice 32 1 #[(0, .agg cs6)]) w fun v21 w => OpS v21 fun p12 l14 c12 => DoV Tryz.prog (Builtin.append_ #[32, 32] 32 #[.slice
  s2.1.1 s2.1.2.1 s2.1.2.2, .slice p12 l14 c12]) w fun v22 w => OpS v22 fun p13 l15 c13 => K2 ((p13, l15, c13), (IntKind.wrap .i64 (s2.2.1 + 1), ())) w) (Ret [] (R (.tuple
  #[.slice s2.1.1 s2.1.2.1 s2.1.2.2, .slice lp ll lc, .int .i64 0]) w))) ((none, 0, 0), (0, ())) w
section calls
variable {w : World} {R : Value → World → Prop}
theorem rowEnd {p10 : Option Addr} {l12 : Nat} {lp : Option Addr} {ll lc : Nat} {Hs : List (Option Addr × Nat × Nat)} {FR : List Sec} (hs : SlL hLay w p10 l12 Hs) (hl : Hs.length = FR.length) (hl2 : FR.length ≤ 32) (hat : ∀ (k : Nat) h f, Hs[k]? = some h → FR[k]? = some f → ColAt w h (some f))
    (hK : ∀ p c w', OwnL secLay w' w.heap.size 37 p FR.length c FR → Keep (fun _ => False) w w' → R (.tuple #[.slice p FR.length c, .slice lp ll lc, .int .i64 0]) w') : RowEnd p10 l12 lp ll lc w R := by
  unfold RowEnd
  have hll := hs.1
  refine LoopC_of (σ := (Option Addr × Nat × Nat) × Int × Unit) (fun s w' => ∃ k : Nat, s.2.1 = (k : Int) ∧ k ≤ FR.length ∧ s.1.2.1 = k ∧ OwnL secLay w' w.heap.size 37 s.1.1 k s.1.2.2 (FR.take k) ∧ Keep (fun _ => False) w w') (fun s _ => (FR.length - s.2.1).toNat)
    ⟨0, rfl, by omega, rfl, OwnL.nil, Keep.refl _ _⟩ ?_
  rintro _ ⟨⟨p, l, c⟩, i, u⟩ w1 ⟨k, hi, hk, hlk, o1, k1⟩
  simp only at hi hlk o1 ⊢
  subst hi hlk
  refine Cb_of (fun hc => ?_) (fun hc => ?_)
  · have hc : l < FR.length := by
      have : (l : Int) < (l12 : Int) := by simpa using hc
      omega
    obtain ⟨h, hh⟩ : ∃ h, Hs[l]? = some h := ⟨_, List.getElem?_eq_getElem (by omega)⟩
    obtain ⟨f, hf⟩ : ∃ f, FR[l]? = some f := ⟨_, List.getElem?_eq_getElem hc⟩
    obtain ⟨a1, a2, a3, a4⟩ := (hat l h f hh hf).keep k1
    refine (hs.keepB k1 (by simp)).ld0 (i := (l : Int)) (n := 1) (x := h) (v := .slice h.1 h.2.1 h.2.2) rfl (by omega) (by simpa using hh) rfl (OpS_slice.2 ?_)
    rw [a2]
    refine ldSec a4 a1 ?_
    refine ⟨_, _, bsl_s1 f w1, OpS_slice.2 ?_⟩
    have k2 := Keep.new (fun _ => False) w1 (.cells (secV f) 37)
    have hb2 := Has.new w1 (.cells (secV f) 37)
    generalize w1.alloc (.cells (secV f) 37) = w2 at *
    have z1 := k1.size
    have z2 := k2.size
    obtain ⟨p3, c3, w3, hr3, o3, k3, _⟩ := run_appendF1 secLayT (o1.keep k2 (by simp)) (y := f) hb2 (by show secV f = ((secV f).toList).toArray; simp) (ty := 32) (by omega) (by simp only [maxLen]; omega) (by omega) (c2 := 1)
    refine ⟨_, _, hr3, OpS_slice.2 ?_⟩
    have ek : IntKind.wrap .i64 ((l : Int) + 1) = ((l + 1 : Nat) : Int) := by rw [wrapI (by omega) (by omega)]; omega
    refine ⟨_, by show ((FR.length : Int) - IntKind.wrap .i64 ((l : Int) + 1)).toNat < ((FR.length : Int) - (l : Int)).toNat; rw [ek]; omega, ⟨l + 1, ek, by omega, rfl, by rw [List.take_add_one, hf]; exact o3, (k1.trans k2).trans' k3 fun i hi e => by have := (o1.keep k2 (by simp)).lt e; omega⟩, rfl⟩
  · have hc : l = FR.length := by
      have : ¬ (l : Int) < (l12 : Int) := by simpa using hc
      omega
    subst hc
    rw [List.take_length] at o1
    exact Ret_nil.2 (hK p c w1 o1 k1)
end calls
end Go.Proofs

/-
  A ROW OF A SET, the walk: stripe.Row, the whole.
-/
namespace Go.Proofs
open Go Go.Ev
set_option linter.unusedSimpArgs false
set_option linter.unusedVariables false
set_option maxRecDepth 100000

/-- the headers of a row's columns, the first i of them filled in -/
def HdrAt (w : World) (Cs : List (Option Sec)) (Hs : List (Option Addr × Nat × Nat)) (i : Nat) : Prop :=
  Hs.length = Cs.length ∧ ∀ (k : Nat) h, Hs[k]? = some h → (k < i → ∀ C, Cs[k]? = some C → SecAt w h C) ∧ (i ≤ k → h = (none, 0, 0))
theorem HdrAt.keep {w w' : World} {S : Nat → Prop} {Cs : List (Option Sec)} {Hs : List (Option Addr × Nat × Nat)} {i : Nat} (h : HdrAt w Cs Hs i) (k : Keep S w w') (hS : ∀ b cs, Has w b (.cells cs 37 (0, 0)) → ¬ S b) : HdrAt w' Cs Hs i :=
  ⟨h.1, fun j a ha => ⟨fun hj C hC => ((h.2 j a ha).1 hj C hC).keep k hS, (h.2 j a ha).2⟩⟩
theorem HdrAt.zero {w : World} {Cs : List (Option Sec)} {n : Nat} (hn : Cs.length = n) : HdrAt w Cs (List.replicate n (none, 0, 0)) 0 :=
  ⟨by simp [hn], fun k h hh => ⟨fun hk => absurd hk (by omega), fun _ => by
    rw [List.getElem?_replicate] at hh
    split at hh
    · exact (Option.some.inj hh).symm
    · cases hh⟩⟩
theorem HdrAt.lost {w : World} {Cs : List (Option Sec)} {Hs : List (Option Addr × Nat × Nat)} {i : Nat} (h : HdrAt w Cs Hs i) (hC : Cs[i]? = some none) : HdrAt w Cs Hs (i + 1) :=
  ⟨h.1, fun k a ha => ⟨fun hk C hC' => by
    by_cases hki : k = i
    · subst hki
      rw [hC] at hC'
      cases hC'
      exact (h.2 k a ha).2 (Nat.le_refl _)
    · exact (h.2 k a ha).1 (by omega) C hC', fun hk => (h.2 k a ha).2 (by omega)⟩⟩
theorem HdrAt.got {w : World} {Cs : List (Option Sec)} {Hs : List (Option Addr × Nat × Nat)} {i : Nat} (h : HdrAt w Cs Hs i) {f : Sec} {x : Option Addr × Nat × Nat} (hC : Cs[i]? = some (some f)) (hx : SecAt w x (some f)) : HdrAt w Cs (Hs.set i x) (i + 1) := by
  refine ⟨by rw [List.length_set]; exact h.1, fun k a ha => ?_⟩
  by_cases hki : i = k
  · subst hki
    have hlt : i < Hs.length := by
      have := (List.getElem?_eq_some_iff.1 ha).1
      rwa [List.length_set] at this
    rw [List.getElem?_set_self hlt] at ha
    cases ha
    refine ⟨fun _ C hC' => ?_, fun hk => absurd hk (by omega)⟩
    rw [hC] at hC'
    cases hC'
    exact hx
  · rw [List.getElem?_set_ne hki] at ha
    exact ⟨fun hk C hC' => (h.2 k a ha).1 (by omega) C hC', fun hk => (h.2 k a ha).2 (by omega)⟩
theorem HdrAt.all {w : World} {Cs : List (Option Sec)} {Hs : List (Option Addr × Nat × Nat)} (h : HdrAt w Cs Hs Cs.length) : ∀ (k : Nat) x C, Hs[k]? = some x → Cs[k]? = some C → ColAt w x C := fun k x C hx hC =>
  SecAt.col ((h.2 k x hx).1 (List.getElem?_eq_some_iff.1 hC).1 C hC)
theorem plcP_ok {g : Geo} (hg : GeoOk g) {st off : Int} (hst : 0 ≤ st ∧ st < g.s) (hof : 0 ≤ off ∧ off < g.c) (k : Int) : (0 ≤ (plcP g st off k).dk ∧ (plcP g st off k).dk < g.d) ∧ (0 ≤ (plcP g st off k).at_ ∧ (plcP g st off k).at_ < g.c * g.s) := by
  have h := hg.row hst hof
  have hd := hg.d
  exact ⟨⟨Int.emod_nonneg _ (by omega), Int.emod_lt_of_pos _ (by omega)⟩, ⟨h.2.1, h.2.2⟩⟩
/-- the middle of Row: two columns at most are lost -/
def RowMid (p1 : Option Addr) (l1 c1 : Nat) (lp : Option Addr) (ll lc : Nat) (w : World) (R : Value → World → Prop) : Prop :=
  HeldR w fun S w => Slc l1 c1 none (some (IntKind.wrap .i64 (((l1 : Nat) : Int) - 2))) none fun l5 h1 m1 =>
  IdxS p1 l1 (IntKind.wrap .i64 (((l1 : Nat) : Int) - 2)) 1 fun b5 o2 => LdV b5 o2 (At w) fun v11 => OpS v11 fun p4 l6 c4 => IdxS p1 l1 (IntKind.wrap .i64 ((IntKind.wrap
  .i64 (((l1 : Nat) : Int) - 2)) + 1)) 1 fun b6 o3 => LdV b6 o3 (At w) fun v12 => OpS v12 fun p5 l7 c5 => CallV Tryz.prog 110 #[.slice (slcP 1 l5 m1 p1) (h1 - l5) (m1 - l5),
  .slice p4 l6 c4, .slice p5 l7 c5] w fun v13 w => T4 v13 fun v14 v15 v16 v17 => OpS v14 fun p6 l8 c6 => OpS v15 fun p7 l9 c7 => OpS v16 fun p8 l10 c8 => OpI .i64 v17 fun n3
  => Hld (S w) (DoV Tryz.prog (Instr.buildSlice 187 2 #[(0, .slice p7 l9 c7), (1, .slice p8 l10 c8)]) w fun v18 w => OpS v18 fun p9 l11 c9 => DoV Tryz.prog (Builtin.append_
  #[187, 187] 187 #[.slice p6 l8 c6, .slice p9 l11 c9]) w fun v19 w => OpS v19 fun p10 l12 c10 => RowEnd p10 l12 lp ll lc w R)
section calls
variable {w : World} {R : Value → World → Prop}
theorem rowMid {p1 : Option Addr} {n c1 : Nat} {lp : Option Addr} {ll lc : Nat} {Hs : List (Option Addr × Nat × Nat)} {Cs : List (Option Sec)} (hs : SlL hLay w p1 n Hs) (hnc : n ≤ c1) (hn : n = Cs.length) (hn4 : 4 ≤ n ∧ n ≤ 32) (hl : Hs.length = Cs.length) (hat : ∀ (k : Nat) x C, Hs[k]? = some x → Cs[k]? = some C → ColAt w x C) (hok : ∀ C ∈ Cs, ColOk C) (hlost : lostN Cs ≤ 2)
    (hK : ∀ p c w', OwnL secLay w' w.heap.size 37 p n c (rowR Cs) → Keep (fun _ => False) w w' → R (.tuple #[.slice p n c, .slice lp ll lc, .int .i64 0]) w') : RowMid p1 n c1 lp ll lc w R := by
  unfold RowMid
  intro d
  refine ⟨fun _ => True, trivial, ?_⟩
  have kd := Keep.drew (fun _ => False) w d
  have hs1 := hs.keepB kd (by simp)
  have hat1 : ∀ (k : Nat) x C, Hs[k]? = some x → Cs[k]? = some C → ColAt (w.dr d) x C := fun k x C h1 h2 => (hat k x C h1 h2).keep kd
  have z1 := kd.size
  generalize w.dr d = w1 at *
  have e2 : IntKind.wrap .i64 (((n : Nat) : Int) - 2) = ((n - 2 : Nat) : Int) := by rw [wrapI (by omega) (by omega)]; omega
  have e1 : IntKind.wrap .i64 (((n - 2 : Nat) : Int) + 1) = ((n - 1 : Nat) : Int) := by rw [wrapI (by omega) (by omega)]; omega
  rw [e2, e1]
  refine Slc_hiN (hi := n - 2) (by omega) ?_
  obtain ⟨hP, hhP⟩ : ∃ h, Hs[n - 2]? = some h := ⟨_, List.getElem?_eq_getElem (by omega)⟩
  obtain ⟨hQ, hhQ⟩ : ∃ h, Hs[n - 1]? = some h := ⟨_, List.getElem?_eq_getElem (by omega)⟩
  have hCP : Cs[n - 2]? = some (rowPc Cs) := by
    unfold rowPc
    rw [← hn, List.getD_eq_getElem?_getD, List.getElem?_eq_getElem (by omega)]; rfl
  have hCQ : Cs[n - 1]? = some (rowQc Cs) := by
    unfold rowQc
    rw [← hn, List.getD_eq_getElem?_getD, List.getElem?_eq_getElem (by omega)]; rfl
  refine hs1.ld0 (i := ((n - 2 : Nat) : Int)) (n := 1) (x := hP) (v := .slice hP.1 hP.2.1 hP.2.2) rfl (by omega) (by rw [Int.toNat_natCast]; exact hhP) rfl (OpS_slice.2 ?_)
  refine hs1.ld0 (i := ((n - 1 : Nat) : Int)) (n := 1) (x := hQ) (v := .slice hQ.1 hQ.2.1 hQ.2.2) rfl (by omega) (by rw [Int.toNat_natCast]; exact hhQ) rfl (OpS_slice.2 ?_)
  have hsub := hs1.sub (lo := 0) (hi := n - 2) (m := c1) (by omega) (by omega) (by omega)
  rw [List.drop_zero] at hsub
  have hsplit := lost_split (Cs := Cs) (by omega)
  have hlD : (rowD Cs).length = n - 2 := by unfold rowD; rw [List.length_take]; omega
  have hc : Cols w1 (slcP 1 0 c1 p1) (n - 2 - 0) (Hs.take (n - 2)) (rowD Cs) := by
    refine ⟨hsub, by rw [hlD, List.length_take]; omega, fun i h C h1 h2 => ?_, fun C hC => hok C (List.mem_of_mem_take hC)⟩
    unfold rowD at h2
    rw [List.getElem?_take] at h1 h2
    split at h1
    · split at h2
      · exact hat1 i h C h1 h2
      · cases h2
    · cases h1
  refine p_Recover hc (by omega) (by omega) (hat1 _ _ _ hhP hCP) (hat1 _ _ _ hhQ hCQ) (hok _ (List.mem_of_getElem? hCP)) (hok _ (List.mem_of_getElem? hCQ)) (by omega) fun pa ca g1 g2 w2 hA c2P c2Q k2 => ?_
  refine ⟨_, _, _, _, rfl, OpS_slice.2 (OpS_slice.2 (OpS_slice.2 (OpI_int.2 ⟨trivial, ?_⟩)))⟩
  refine ⟨_, _, bsl_h2 _ _ _ _ _ _ w2, OpS_slice.2 ?_⟩
  have k3 := Keep.new (fun _ => False) w2 (.cells #[.slice g1.1 g1.2.1 g1.2.2, .slice g2.1 g2.2.1 g2.2.2] 22)
  have hb3 := Has.new w2 (.cells #[.slice g1.1 g1.2.1 g1.2.2, .slice g2.1 g2.2.1 g2.2.2] 22)
  generalize hw3 : w2.alloc (.cells #[.slice g1.1 g1.2.1 g1.2.2, .slice g2.1 g2.2.1 g2.2.2] 22) = w3 at *
  have o3 : OwnL hLay w3 w2.heap.size 22 (some ⟨w2.heap.size, 0, none⟩) 2 2 [g1, g2] := OwnL.mk (xs := [g1, g2]) (Nat.le_refl _) hb3 (by simp [maxLen]) rfl
  obtain ⟨Ha, oa, hHl, hHat, hHok⟩ := hA.ex
  have hHl2 : Ha.length = n - 2 := by rw [hHl, len_fixC, hlD]
  have oa3 := oa.keep k3 (by simp)
  have z2 := k2.size
  have z3 := k3.size
  obtain ⟨p4, c4, w4, hr4, o4, k4, _⟩ := run_appendF hLayT oa3 (ys := [g1, g2]) o3.sl (ty := 187) (c2 := 2) (by omega) (by simp only [maxLen]; omega) (by omega)
  refine ⟨_, _, hr4, OpS_slice.2 ?_⟩
  have hlr := len_rowR (Cs := Cs) (by omega)
  have hl4 : n - 2 - 0 + 2 = n := by omega
  have hfs := fix_some (Cs := rowD Cs) (Pc := rowPc Cs) (Qc := rowQc Cs) (by omega)
  have k14 : Keep (fun _ => False) w1 w4 := (k2.trans k3).trans' k4 fun k hk he => by have := (oa3.lt he).1; omega
  have k24 : Keep (fun k => pa = some ⟨k, 0, none⟩) w3 w4 := k4
  have colK : ∀ {x : Option Addr × Nat × Nat} {f : Sec}, ColOwn w2 0 x (some f) → ColAt w4 x (some f) := by
    intro x f hx
    have h3 : ColOwn w3 0 x (some f) := hx.keep k3
    exact (h3.hdr oa3 (by decide) k4).at_
  refine rowEnd (Hs := Ha ++ [g1, g2]) (FR := rowR Cs) o4.sl (by rw [List.length_append, hlr]; simp; omega) (by omega) ?_ fun p c w5 o5 k5 => ?_
  · intro k h f hh hf
    unfold rowR at hf
    by_cases hk : k < n - 2
    · rw [List.getElem?_append_left (by omega)] at hh
      rw [List.getElem?_append_left (by rw [List.length_map, len_fixC, hlD]; omega), List.getElem?_map] at hf
      obtain ⟨C, hC⟩ : ∃ C, (fixC (rowD Cs) (rowPc Cs) (rowQc Cs))[k]? = some C := ⟨_, List.getElem?_eq_getElem (by rw [len_fixC, hlD]; omega)⟩
      rw [hC] at hf
      obtain ⟨f', rfl⟩ := hfs C (List.mem_of_getElem? hC)
      cases hf
      have h2 : ColOwn w2 w1.heap.size h (some f') := hHat k h _ hh hC
      have h3 : ColOwn w3 w1.heap.size h (some f') := h2.keep k3
      exact (h3.hdr oa3 (by decide) k4).at_
    · rw [List.getElem?_append_right (by omega)] at hh
      rw [List.getElem?_append_right (by rw [List.length_map, len_fixC, hlD]; omega), List.length_map, len_fixC, hlD] at hf
      rw [hHl2] at hh
      generalize k - (n - 2) = j at *
      match j, hh, hf with
      | 0, hh, hf => cases hh; cases hf; exact colK c2P
      | 1, hh, hf => cases hh; cases hf; exact colK c2Q
      | j + 2, hh, hf => simp at hh
  · rw [hlr, ← hn] at o5 ⊢
    exact hK p c w5 (o5.rebase (by have := k14.size; omega)) ((kd.trans k14).trans k5)
theorem st_Row {q : SB} {s : SS} (h : SetAt w q s) {p : Option Addr} {l c : Nat} (hsl : SlL dLay w p l (q.bks.map Prod.fst)) (hlc : l ≤ c) (hok : ∀ D ∈ s.ds, DskOk D) {st off : Int} (hst : 0 ≤ st ∧ st < q.g.s) (hof : 0 ≤ off ∧ off < q.g.c)
    (hOff : s.pw.on = false → ∀ w', Keep (fun _ => False) w w' → R (.tuple #[.slice none 0 0, .slice none 0 0, .int .i64 4]) w')
    (hLost : s.pw.on = true → ¬ lostN (colsS q.g s st off) ≤ 2 → ∀ w', Keep (fun _ => False) w w' → R (.tuple #[.slice none 0 0, .slice none 0 0, .int .i64 8]) w')
    (hK : s.pw.on = true → lostN (colsS q.g s st off) ≤ 2 → ∀ p' c' lp ll lc w', OwnL secLay w' w.heap.size 37 p' q.g.d.toNat c' (rowR (colsS q.g s st off)) → OwnL nLay w' w.heap.size 3 lp ll lc (goneL (colsS q.g s st off)) → Keep (fun _ => False) w w' → R (.tuple #[.slice p' q.g.d.toNat c', .slice lp ll lc, .int .i64 0]) w') :
    CallV Tryz.prog 31 #[.agg (setV q.g p l c), .int .i64 st, .int .i64 off] w R := by
  apply C_stripe_Row
  unfold F_stripe_Row
  have hgd := h.geo.d
  refine alc_fresh fun w1 hb1 k1 z1 => ?_
  refine LdA_all hb1 rfl ?_
  refine st_Check (h.keep0 k1) (hsl.keepB k1 (by simp)) hlc fun w2 k2 => ?_
  refine OpI_int.2 ((Cb_false (p := _)).2 ?_)
  have hb2 := k2.has hb1 (by simp)
  refine LdA_has (cs := geoV q.g) hb2 (by show 0 + 3 ≤ 4; decide) rfl ?_
  refine l_Row h.geo hst hof fun pp cp w3 o3 k3 => ?_
  refine T2_mk.2 (OpS_slice.2 (OpI_int.2 ((Cb_false (p := _)).2 ?_)))
  obtain ⟨w4, hr4, o4, k4, z4⟩ := run_mkh w3 (n := q.g.d.toNat) (by omega)
  refine ⟨_, _, hr4, OpS_slice.2 ?_⟩
  generalize hCs : colsS q.g s st off = Cs at *
  have hCl : Cs.length = q.g.d.toNat := by rw [← hCs]; exact len_colsS _ _ _ _
  have hCok : ∀ C ∈ Cs, ColOk C := by rw [← hCs]; exact colsS_ok hok
  have k03 := (k1.trans k2).trans k3
  have z3 := k03.size
  have hb4 := (k3.trans k4).has hb2 (by simp)
  have o34 := (o3.keep k4 (by simp)).rebase (show w.heap.size ≤ w2.heap.size from (k1.trans k2).size)
  have o4 := o4.rebase z3
  generalize hB : w.heap.size = B at *
  generalize hH : w3.heap.size = H at *
  generalize hN : q.g.d.toNat = n at *
  have hnd : (n : Int) = q.g.d := by omega
  refine LoopC_of (σ := (Option Addr × Nat × Nat) × (Option Addr × Nat × Nat) × Int × Unit) (fun st' w' => ∃ (i : Nat) (Hs : List (Option Addr × Nat × Nat)), st'.1 = (none, 0, 0) ∧ st'.2.2.1 = (i : Int) ∧ i ≤ n ∧ (0 < i → s.pw.on = true) ∧ HdrAt w' Cs Hs i ∧ OwnL hLay w' B 22 (some ⟨H, 0, none⟩) n n Hs ∧ OwnL nLay w' B 3 st'.2.1.1 st'.2.1.2.1 st'.2.1.2.2 (goneI Cs i) ∧ OwnL plLay w' B 84 pp n cp (rowP q.g st off n) ∧ Has w' B (.cells (setV q.g p l c) 51 (0, 0)) ∧ Keep (fun _ => False) w w') (fun st' _ => (n - st'.2.2.1).toNat)
    ⟨0, _, rfl, rfl, by omega, fun h => absurd h (by omega), HdrAt.zero hCl, o4, OwnL.nil, o34, hb4, k03.trans k4⟩ ?_
  rintro _ ⟨⟨pa, la, ca⟩, ⟨pg, lg, cg⟩, i, u⟩ w5 ⟨i', Hs, ha, hi, hil, hon, hH5, oh, og, op, hb5, k5⟩
  simp only at ha hi og ⊢
  subst hi
  cases ha
  have hsl5 := hsl.keepB k5 (by simp)
  have h5 := h.keep0 k5
  have z5 := k5.size
  have e3 : i' < n → IntKind.wrap .i64 ((i' : Int) + 1) = ((i' + 1 : Nat) : Int) := fun _ => by rw [wrapI (by omega) (by omega)]; omega
  refine Cb_of (fun hc => ?_) (fun hc => ?_)
  · have hc : i' < n := by
      have : (i' : Int) < (n : Int) := by simpa using hc
      omega
    have hpl : (rowP q.g st off n)[i']? = some (plcP q.g st off (i' : Int)) := by
      unfold rowP
      rw [List.getElem?_map, List.getElem?_range hc]; rfl
    refine op.sl.ldA (i := (i' : Int)) (n := 2) (x := plcP q.g st off (i' : Int)) rfl (by omega) (by rw [Int.toNat_natCast]; exact hpl) ?_
    refine copy_of (by rw [zc_plc]; rfl) rfl (fun v hv => plLay.one _ v (by simpa using hv)) fun w6 hb6 k6 z6 => ?_
    have hb6 : Has w6 w5.heap.size (.cells (plcV (plcP q.g st off (i' : Int))) 84 (0, 0)) := hb6
    refine LdA_all (k6.has hb5 (by simp)) rfl ?_
    refine LdA_all hb6 rfl ?_
    obtain ⟨pk1, pk2⟩ := plcP_ok h.geo hst hof (i' : Int)
    refine st_cell (h5.keep0 k6) (hsl5.keepB k6 (by simp)) pk1 pk2 hok fun w7 k7 => ?_
    have hCi : Cs[i']? = some (cellD (s.ds.getD (plcP q.g st off (i' : Int)).dk.toNat dsk0) (plcP q.g st off (i' : Int)).at_) := by
      rw [← hCs]
      exact colsS_at (by omega)
    generalize cellD (s.ds.getD (plcP q.g st off (i' : Int)).dk.toNat dsk0) (plcP q.g st off (i' : Int)).at_ = C at *
    have k57 := k6.trans k7
    unfold cellV
    by_cases hp : s.pw.on = false
    · rw [if_pos hp]
      refine ⟨_, _, _, rfl, OpA_agg.2 ⟨rfl, OpB_bool.2 (OpI_int.2 ?_)⟩⟩
      refine alc_fresh fun w8 hb8 k8 z8 => ?_
      refine StA_all hb8 rfl (by rw [zc_sec]; rfl) (one_secV _) ?_
      refine (Cb_true (q := _)).2 (Ret_nil.2 (hOff hp _ ?_))
      exact (Keep.refl (fun _ => False) w).trans' ((((k5.trans k57).trans k8).mono fun _ h => h.elim).upd (S := fun k => k = w7.heap.size) (fun _ => rfl) _) fun i hi e => by have := (k5.trans k57).size; omega
    rw [if_neg hp]
    have hp : s.pw.on = true := by simpa using hp
    refine ⟨_, _, _, rfl, OpA_agg.2 ⟨rfl, OpB_bool.2 (OpI_int.2 ?_)⟩⟩
    refine alc_fresh fun w8 hb8 k8 z8 => ?_
    refine StA_all hb8 rfl (by rw [zc_sec]; rfl) (one_secV _) ?_
    refine (Cb_false (p := _)).2 ?_
    have hz7 := (k5.trans k57).size
    have hb9 := hb8.upd_same (.cells (secV (C.getD (sec []))) 37 (0, 0))
    have k59 : Keep (fun _ => False) w5 (w8.upd w7.heap.size (.cells (secV (C.getD (sec []))) 37 (0, 0))) := (Keep.refl (fun _ => False) w5).trans' (((k57.trans k8).mono fun _ h => h.elim).upd (S := fun k => k = w7.heap.size) (fun _ => rfl) _) fun i hi e => by have := k57.size; omega
    generalize hbx : w7.heap.size = bx at *
    generalize w8.upd bx (.cells (secV (C.getD (sec []))) 37 (0, 0)) = w9 at *
    have k09 := k5.trans k59
    have oh9 := oh.keep k59 (by simp)
    have og9 := og.keep k59 (by simp)
    have op9 := op.keep k59 (by simp)
    have hs9 := k59.has hb5 (by simp)
    have hH9 := hH5.keep k59 (by simp)
    have z9 := k09.size
    have hHl := hH9.1
    have hgs : goneI Cs (i' + 1) = goneI Cs i' ++ (if isGone Cs[i']? = true then [(i' : Int)] else []) := rfl
    cases C with
    | some f =>
      refine (Cb_true (q := _)).2 ?_
      refine Slc_all (by omega) ?_
      obtain ⟨h0, hh0⟩ : ∃ h0, Hs[i']? = some h0 := ⟨_, List.getElem?_eq_getElem (by omega)⟩
      refine oh9.stF (i := (i' : Int)) (n := 1) (t := 0) (x := h0) (y := (some ⟨bx, 0, none⟩, 16, 16)) rfl (by omega) (by rw [Int.toNat_natCast]; exact hh0) (by omega) rfl rfl fun w10 oh10 k10 z10 => ?_
      rw [Int.toNat_natCast] at oh10
      have ne1 : ∀ (b : Nat) (cs : Array Value), Has w9 b (.cells cs 37 (0, 0)) → ¬ (some (⟨H, 0, none⟩ : Addr) = some ⟨b, 0, none⟩) := fun b cs hb => OwnL.neH oh9 hb (by decide)
      have hsx : SecAt w10 (some ⟨bx, 0, none⟩, 16, 16) (some f) := ⟨bx, rfl, k10.has hb9 (ne1 _ _ hb9)⟩
      have hH10 : HdrAt w10 Cs (Hs.set i' (some ⟨bx, 0, none⟩, 16, 16)) (i' + 1) := (hH9.keep k10 ne1).got hCi hsx
      refine ⟨_, by show ((n : Int) - IntKind.wrap .i64 ((i' : Int) + 1)).toNat < ((n : Int) - (i' : Int)).toNat; rw [e3 hc]; omega, ⟨i' + 1, _, rfl, e3 hc, by omega, fun _ => hp, hH10, oh10, ?_, ?_, ?_, ?_⟩, rfl⟩
      · rw [hgs, hCi, if_neg (by simp [isGone]), List.append_nil]
        exact og9.keep k10 fun k hk he => OwnL.ne og9 oh9 (by decide) hk he
      · exact op9.keep k10 fun k hk he => OwnL.ne op9 oh9 (by decide) hk he
      · exact k10.has hs9 (OwnL.neH oh9 hs9 (by decide))
      · exact k09.trans' k10 fun k hk he => by have := (oh9.lt he).1; omega
    | none =>
      refine (Cb_false (p := _)).2 ?_
      refine ⟨_, _, bsl_n1 _ w9, OpS_slice.2 ?_⟩
      have k10 := Keep.new (fun _ => False) w9 (.cells #[.int .i64 (i' : Int)] 3)
      have hb10 := Has.new w9 (.cells #[.int .i64 (i' : Int)] 3)
      generalize w9.alloc (.cells #[.int .i64 (i' : Int)] 3) = w10 at *
      have hlg := og.length
      have hlgl : (goneI Cs i').length ≤ i' := by rw [goneI_len Cs i' (by omega)]; exact Nat.le_trans (lostN_le _) (by rw [List.length_take]; omega)
      have z10 := k10.size
      have og10 := og9.keep k10 (by simp)
      have oh10 := oh9.keep k10 (by simp)
      have op10 := op9.keep k10 (by simp)
      have hs10 := k10.has hs9 (by simp)
      obtain ⟨p11, c11, w11, hr11, o11, k11, _⟩ := run_appendF1 nLayT og10 (y := (i' : Int)) hb10 rfl (ty := 69) (by omega) (by simp only [maxLen]; omega) (by omega) (c2 := 1)
      refine ⟨_, _, hr11, OpS_slice.2 ?_⟩
      refine ⟨_, by show ((n : Int) - IntKind.wrap .i64 ((i' : Int) + 1)).toNat < ((n : Int) - (i' : Int)).toNat; rw [e3 hc]; omega, ⟨i' + 1, Hs, rfl, e3 hc, by omega, fun _ => hp, ?_, ?_, ?_, ?_, ?_, ?_⟩, rfl⟩
      · exact ((hH9.keep k10 (by simp)).keep k11 fun b cs hb => OwnL.neH og10 hb (by decide)).lost hCi
      · exact oh10.keep k11 fun k hk he => OwnL.ne oh10 og10 (by decide) hk he
      · rw [hgs, hCi, if_pos (show isGone (some none) = true from rfl)]
        exact o11
      · exact op10.keep k11 fun k hk he => OwnL.ne op10 og10 (by decide) hk he
      · exact k11.has hs10 (OwnL.neH og10 hs10 (by decide))
      · exact (k09.trans k10).trans' k11 fun k hk he => by have := (og10.lt he).1; omega
  · have hc : i' = n := by
      have : ¬ (i' : Int) < (n : Int) := by simpa using hc
      omega
    have hp := hon (by omega)
    have hiC : i' = Cs.length := by omega
    have hgl : goneI Cs i' = goneL Cs := by rw [hiC]; rfl
    rw [hgl] at og
    have hglen := goneL_len Cs
    have hlg := og.length
    refine Cb_of (fun hl3 => ?_) (fun hl3 => ?_)
    · have hl3 : lg > 2 := by
        have : ((lg : Nat) : Int) > 2 := by simpa using hl3
        omega
      exact Ret_nil.2 (hLost hp (by omega) w5 k5)
    · have hl3 : ¬ lg > 2 := by
        have : ¬ ((lg : Nat) : Int) > 2 := by simpa using hl3
        omega
      rw [hiC] at hH5
      refine rowMid (Cs := Cs) oh.sl (Nat.le_refl _) hCl.symm (by omega) hH5.1 hH5.all hCok (by omega) fun p' c' w6 o6 k6 => ?_
      exact hK hp (by omega) p' c' pg lg cg w6 (o6.rebase (by rw [← hB]; exact z5)) (og.keep k6 (by simp)) (k5.trans k6)
end calls
end Go.Proofs

/-
  A SET: stripe.Read.
-/
namespace Go.Proofs
open Go Go.Ev
set_option linter.unusedSimpArgs false
set_option linter.unusedVariables false
set_option maxRecDepth 100000

/-- what Read answers -/
def readS (g : Geo) (s : SS) (lba : Int) : Sec × Int :=
  let x := spotP g lba
  let Cs := colsS g s x.1 x.2.2
  if s.pw.on = false then (sec [], 4)
  else match Cs.getD x.2.1.toNat none with
    | some f => (f, 0)
    | none => if lostN Cs ≤ 2 then ((rowR Cs).getD x.2.1.toNat (sec []), 0) else (sec [], 8)
theorem zc_spot : zc Tryz.prog 177 = spotV (0, 0, 0) := by kernel_rfl
section calls
variable {w : World} {q : SB} {s : SS} {R : Value → World → Prop}
theorem st_Read (h : SetAt w q s) {p : Option Addr} {l c : Nat} (hsl : SlL dLay w p l (q.bks.map Prod.fst)) (hlc : l ≤ c) (hok : ∀ D ∈ s.ds, DskOk D) {lba : Int} (h0 : 0 ≤ lba) (h1 : lba < (q.g.d - 2) * q.g.c * q.g.s)
    (hK : ∀ w', Keep (fun _ => False) w w' → R (.tuple #[.agg (secV (readS q.g s lba).1), .int .i64 (readS q.g s lba).2]) w') : CallV Tryz.prog 29 #[.agg (setV q.g p l c), .int .i64 lba] w R := by
  apply C_stripe_Read
  unfold F_stripe_Read
  obtain ⟨pst, pco, pof⟩ := spotP_ok h.geo h0 h1
  have hgd := h.geo.d
  unfold readS at hK
  generalize hx : spotP q.g lba = x at *
  simp only at hK
  refine alc_fresh fun w1 hb1 k1 z1 => ?_
  refine alc_fresh fun w2 hb2 k2 z2 => ?_
  rw [zc_sec] at hb2
  have hs2 := k2.has hb1 (by simp)
  have k02 := k1.trans k2
  refine LdA_all hs2 rfl ?_
  refine st_Check (h.keep0 k02) (hsl.keepB k02 (by simp)) hlc fun w3 k3 => ?_
  refine OpI_int.2 ((Cb_false (p := _)).2 ?_)
  refine LdA_has (cs := geoV q.g) (k3.has hs2 (by simp)) (by show 0 + 3 ≤ 4; decide) rfl ?_
  refine l_Map h.geo h0 h1 fun w4 k4 => ?_
  rw [hx]
  refine ⟨_, _, _, rfl, OpA_agg.2 ⟨rfl, OpA_agg.2 ⟨rfl, OpI_int.2 ?_⟩⟩⟩
  refine alc_fresh fun w5 hb5 k5 z5 => ?_
  refine alc_fresh fun w6 hb6 k6 z6 => ?_
  have hb56 := k6.has hb5 (by simp)
  have k26 := ((k3.trans k4).trans k5).trans k6
  have z26 : w2.heap.size ≤ w4.heap.size := (k3.trans k4).size
  have z02 := k02.size
  refine StA_all hb56 rfl (by rw [zc_spot]; rfl) (one_spotV x) ?_
  have hb7 := hb56.upd_same (.cells (spotV x) 177 (0, 0))
  have hb6' : Has (w6.upd w4.heap.size (.cells (spotV x) 177 (0, 0))) w5.heap.size (.cells (zc Tryz.prog 84) 84 (0, 0)) := Has.upd hb6 (by omega)
  have k27 : Keep (fun _ => False) w2 (w6.upd w4.heap.size (.cells (spotV x) 177 (0, 0))) := (Keep.refl (fun _ => False) w2).trans' ((k26.mono fun _ h => h.elim).upd (S := fun k => k = w4.heap.size) (fun _ => rfl) _) fun i hi e => by omega
  refine StA_all hb6' rfl (by rw [zc_plc]; rfl) (one_plcV _) ?_
  have hb8 := hb6'.upd_same (.cells (plcV (plcP q.g x.1 x.2.2 x.2.1)) 84 (0, 0))
  have hb78 : Has ((w6.upd w4.heap.size (.cells (spotV x) 177 (0, 0))).upd w5.heap.size (.cells (plcV (plcP q.g x.1 x.2.2 x.2.1)) 84 (0, 0))) w4.heap.size (.cells (spotV x) 177 (0, 0)) := Has.upd hb7 (by omega)
  have k28 : Keep (fun _ => False) w2 ((w6.upd w4.heap.size (.cells (spotV x) 177 (0, 0))).upd w5.heap.size (.cells (plcV (plcP q.g x.1 x.2.2 x.2.1)) 84 (0, 0))) := (Keep.refl (fun _ => False) w2).trans' ((k27.mono fun _ h => h.elim).upd (S := fun k => k = w5.heap.size) (fun _ => rfl) _) fun i hi e => by omega
  generalize (w6.upd w4.heap.size (.cells (spotV x) 177 (0, 0))).upd w5.heap.size (.cells (plcV (plcP q.g x.1 x.2.2 x.2.1)) 84 (0, 0)) = w8 at *
  have k08 := k02.trans k28
  have hs8 := k28.has hs2 (by simp)
  have hr8 := k28.has hb2 (by simp)
  have hbr : w.heap.size ≤ w1.heap.size := by omega
  generalize w1.heap.size = br at *
  generalize w4.heap.size = bs at *
  generalize w5.heap.size = bp at *
  refine (Cb_false (p := _)).2 ?_
  refine LdA_all hs8 rfl ?_
  refine LdA_all hb8 rfl ?_
  obtain ⟨pk1, pk2⟩ := plcP_ok h.geo pst pof x.2.1
  refine st_cell (h.keep0 k08) (hsl.keepB k08 (by simp)) pk1 pk2 hok fun w9 k9 => ?_
  have hCi : (colsS q.g s x.1 x.2.2).getD x.2.1.toNat none = cellD (s.ds.getD (plcP q.g x.1 x.2.2 x.2.1).dk.toNat dsk0) (plcP q.g x.1 x.2.2 x.2.1).at_ := by
    have e : ((x.2.1.toNat : Nat) : Int) = x.2.1 := by omega
    rw [List.getD_eq_getElem?_getD, colsS_at (by omega), e]; rfl
  rw [hCi] at hK
  generalize cellD (s.ds.getD (plcP q.g x.1 x.2.2 x.2.1).dk.toNat dsk0) (plcP q.g x.1 x.2.2 x.2.1).at_ = C at *
  have k09 := k08.trans k9
  have hr9 := k9.has hr8 (by simp)
  have hs9 := k9.has hs8 (by simp)
  have ht9 := k9.has hb78 (by simp)
  have fin : ∀ (f : Sec) (e : Int) (wa : World), Has wa br (.cells (secV (sec [])) 37 (0, 0)) → Keep (fun _ => False) w wa → (∀ w', Keep (fun _ => False) w w' → R (.tuple #[.agg (secV f), .int .i64 e]) w') → StA 16 br 0 (secV f) wa fun w => LdA 16 br 0 (At w) fun cs => Ret [] (R (.tuple #[.agg cs, .int .i64 e]) w) := by
    intro f e wa ha ka hr
    refine StA_all ha rfl rfl (one_secV f) ?_
    refine LdA_all (ha.upd_same _) rfl ?_
    exact Ret_nil.2 (hr _ ((Keep.refl (fun _ => False) w).trans' ((ka.mono fun _ h => h.elim).upd (S := fun k => k = br) (fun _ => rfl) _) fun i hi e => by omega))
  have bad : ∀ (e : Int) (wa : World), Has wa br (.cells (secV (sec [])) 37 (0, 0)) → Keep (fun _ => False) w wa → (∀ w', Keep (fun _ => False) w w' → R (.tuple #[.agg (secV (sec [])), .int .i64 e]) w') → DoQ Tryz.prog (Instr.build 37 #[]) (At wa) fun v7 => OpA 16 v7 fun cs1 => StA 16 br 0 cs1 wa fun w => LdA 16 br 0 (At w) fun cs2 => Ret [] (R (.tuple #[.agg cs2, .int .i64 e]) w) := by
    intro e wa ha ka hr
    exact DoQ_of (fun d => bld_sec0 _) (OpA_agg.2 ⟨rfl, fin _ _ _ ha ka hr⟩)
  have cellcase : ∀ (f : Sec) (g : Bool) (e : Int), (g = true ∨ e ≠ 0) → (∀ w', Keep (fun _ => False) w w' → R (.tuple #[.agg (secV f), .int .i64 e]) w') → ∀ {Q : World → Prop}, Alc 37 (zc Tryz.prog 37) w9 fun b4 w => StA 16 b4 0 (secV f) w fun w => Req (g = g) (Req (g = g) (Cb (cond g true (e != 0)) (LdA 16 b4 0 (At w) fun cs11 => StA 16 br 0 cs11 w fun w => LdA 16 br 0 (At w) fun cs12 => Ret [] (R (.tuple #[.agg cs12, .int .i64 e]) w)) (Q w))) := by
    intro f g e hg hr Q
    refine copy_of (by rw [zc_sec]; rfl) rfl (one_secV f) fun w10 hb10 k10 z10 => ?_
    refine ⟨rfl, rfl, ?_⟩
    have hg : cond g true (e != 0) = true := by
      rcases hg with hg | hg
      · rw [hg]; rfl
      · cases g
        · simpa using hg
        · rfl
    rw [hg]
    refine (Cb_true (q := _)).2 ?_
    refine LdA_all hb10 rfl ?_
    exact fin f e w10 (k10.has hr9 (by simp)) (k09.trans k10) hr
  unfold cellV
  by_cases hp : s.pw.on = false
  · rw [if_pos hp] at hK ⊢
    refine ⟨_, _, _, rfl, OpA_agg.2 ⟨rfl, OpB_bool.2 (OpI_int.2 ?_)⟩⟩
    exact cellcase _ false 4 (Or.inr (by decide)) hK
  rw [if_neg hp] at hK ⊢
  have hp : s.pw.on = true := by simpa using hp
  refine ⟨_, _, _, rfl, OpA_agg.2 ⟨rfl, OpB_bool.2 (OpI_int.2 ?_)⟩⟩
  cases C with
  | some f => exact cellcase f true 0 (Or.inl rfl) hK
  | none =>
    refine copy_of (by rw [zc_sec]; rfl) rfl (one_secV _) fun w10 hb10 k10 z10 => ?_
    refine ⟨rfl, rfl, (Cb_false (p := _)).2 ?_⟩
    have k010 := k09.trans k10
    have hs10 := k10.has hs9 (by simp)
    have ht10 := k10.has ht9 (by simp)
    have hr10 := k10.has hr9 (by simp)
    refine LdA_all hs10 rfl ?_
    refine LdV_has (v := .int .i64 x.1) ht10 rfl (OpI_int.2 ?_)
    refine LdV_has (v := .int .i64 x.2.2) ht10 rfl (OpI_int.2 ?_)
    refine st_Row (h.keep0 k010) (hsl.keepB k010 (by simp)) hlc hok pst pof (fun e => by rw [hp] at e; cases e) ?_ ?_
    · intro _ hl w11 k11
      refine ⟨_, _, _, rfl, OpS_slice.2 (OpS_slice.2 (OpI_int.2 ((Cb_true (q := _)).2 ?_)))⟩
      simp only at hK
      rw [if_neg hl] at hK
      exact bad 8 w11 (k11.has hr10 (by simp)) (k010.trans k11) hK
    · intro _ hl p' c' lp ll lc w11 o11 on11 k11
      refine ⟨_, _, _, rfl, OpS_slice.2 (OpS_slice.2 (OpI_int.2 ((Cb_false (p := _)).2 ?_)))⟩
      simp only at hK
      rw [if_pos hl] at hK
      refine LdV_has (v := .int .i64 x.2.1) (k11.has ht10 (by simp)) rfl (OpI_int.2 ?_)
      have hlen : (rowR (colsS q.g s x.1 x.2.2)).length = q.g.d.toNat := by rw [len_rowR (by rw [len_colsS]; omega), len_colsS]
      obtain ⟨f, hf⟩ : ∃ f, (rowR (colsS q.g s x.1 x.2.2))[x.2.1.toNat]? = some f := ⟨_, List.getElem?_eq_getElem (by omega)⟩
      have hfd : (rowR (colsS q.g s x.1 x.2.2)).getD x.2.1.toNat (sec []) = f := by rw [List.getD_eq_getElem?_getD, hf]; rfl
      rw [hfd] at hK
      refine o11.sl.ldA (i := x.2.1) (n := 16) (x := f) rfl pco.1 hf ?_
      have e16 : (secLay.row f).toArray = secV f := by show ((secV f).toList).toArray = secV f; simp
      rw [e16]
      exact fin f 0 w11 (k11.has hr10 (by simp)) (k010.trans k11) hK
end calls
end Go.Proofs
