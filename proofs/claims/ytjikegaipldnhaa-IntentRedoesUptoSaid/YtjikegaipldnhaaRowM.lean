import Derived.Test.YtjikegaipldnhaaSetM
import Derived.Test.YtjikegaipldnhaaRecM
import Derived.Test.YtjikegaipldnhaaLayM

/-
  A ROW OF A SET: stripe.Row.
-/
namespace Go.Proofs
open Go Go.Ev
set_option linter.unusedSimpArgs false
set_option linter.unusedVariables false
set_option maxRecDepth 100000

/-- the columns of a row, as they can be read -/
def colsS (g : Geo) (s : SS) (st off : Int) : List (Option Sec) := (List.range g.d.toNat).map fun (k : Nat) => cellD (s.ds.getD (plcP g st off (k : Int)).dk.toNat dsk0) (plcP g st off (k : Int)).at_
theorem len_colsS (g : Geo) (s : SS) (st off : Int) : (colsS g s st off).length = g.d.toNat := by simp [colsS]
theorem colsS_at {g : Geo} {s : SS} {st off : Int} {k : Nat} (hk : k < g.d.toNat) : (colsS g s st off)[k]? = some (cellD (s.ds.getD (plcP g st off (k : Int)).dk.toNat dsk0) (plcP g st off (k : Int)).at_) := by
  unfold colsS
  rw [List.getElem?_map, List.getElem?_range hk]; rfl
theorem cellD_ok {D : Dsk} (h : DskOk D) (a : Int) : ColOk (cellD D a) := by
  unfold cellD
  split
  · trivial
  · split
    · trivial
    · split
      · exact (h.get _).1
      · trivial
theorem dsk0_ok : DskOk dsk0 := ⟨by simp [dsk0], by decide, by decide⟩
theorem getD_ok {s : SS} (h : ∀ D ∈ s.ds, DskOk D) (i : Nat) : DskOk (s.ds.getD i dsk0) := by
  rw [List.getD_eq_getElem?_getD]
  cases hx : s.ds[i]? with
  | none => exact dsk0_ok
  | some x => exact h x (List.mem_of_getElem? hx)
theorem colsS_ok {g : Geo} {s : SS} {st off : Int} (h : ∀ D ∈ s.ds, DskOk D) : ∀ C ∈ colsS g s st off, ColOk C := by
  intro C hC
  unfold colsS at hC
  obtain ⟨k, _, rfl⟩ := List.mem_map.1 hC
  exact cellD_ok (getD_ok h _) _
def rowD (Cs : List (Option Sec)) : List (Option Sec) := Cs.take (Cs.length - 2)
def rowPc (Cs : List (Option Sec)) : Option Sec := Cs.getD (Cs.length - 2) none
def rowQc (Cs : List (Option Sec)) : Option Sec := Cs.getD (Cs.length - 1) none
/-- a row, with what was lost -/
def rowR (Cs : List (Option Sec)) : List Sec := (fixC (rowD Cs) (rowPc Cs) (rowQc Cs)).map (fun C => C.getD (sec [])) ++ [recP (rowD Cs) (rowPc Cs) (rowQc Cs), recQ (rowD Cs) (rowPc Cs) (rowQc Cs)]
theorem split_row {Cs : List (Option Sec)} (h : 2 ≤ Cs.length) : Cs = rowD Cs ++ [rowPc Cs, rowQc Cs] := by
  apply List.ext_getElem?
  intro i
  unfold rowD rowPc rowQc
  by_cases h1 : i < Cs.length - 2
  · rw [List.getElem?_append_left (by simp; omega), List.getElem?_take, if_pos h1]
  · rw [List.getElem?_append_right (by simp; omega), List.length_take, Nat.min_eq_left (by omega)]
    by_cases h2 : i = Cs.length - 2
    · rw [h2, Nat.sub_self, List.getD_eq_getElem?_getD, List.getElem?_eq_getElem (by omega)]; rfl
    · by_cases h3 : i = Cs.length - 1
      · rw [show i - (Cs.length - 2) = 1 by omega, h3, List.getD_eq_getElem?_getD (i := Cs.length - 1), List.getElem?_eq_getElem (by omega)]; rfl
      · rw [List.getElem?_eq_none (by omega), List.getElem?_eq_none (by simp; omega)]
theorem lost_split {Cs : List (Option Sec)} (h : 2 ≤ Cs.length) : lostN (rowD Cs) + lostN [rowPc Cs, rowQc Cs] = lostN Cs := by
  conv => rhs; rw [split_row h]
  rw [lostN_append]
theorem len_rowR {Cs : List (Option Sec)} (h : 2 ≤ Cs.length) : (rowR Cs).length = Cs.length := by
  unfold rowR
  rw [List.length_append, List.length_map, len_fixC]
  unfold rowD
  simp; omega
/-- nothing is lost any more -/
theorem goneI_has {Cs : List (Option Sec)} : ∀ {k n : Nat}, n < k → Cs[n]? = some none → (n : Int) ∈ goneI Cs k
  | 0, n, h, _ => absurd h (by omega)
  | k + 1, n, h, hn => by
    unfold goneI
    by_cases hk : n = k
    · subst hk
      rw [if_pos (isGone_iff.2 hn)]
      simp
    · exact List.mem_append_left _ (goneI_has (by omega) hn)
theorem gone_mem {Cs : List (Option Sec)} {n : Nat} (h : Cs[n]? = some none) : (n : Int) ∈ goneL Cs := goneI_has (List.getElem?_eq_some_iff.1 h).1 h
theorem fix_some {Cs : List (Option Sec)} {Pc Qc : Option Sec} (h : lostN Cs ≤ 2) : ∀ C ∈ fixC Cs Pc Qc, ∃ f, C = some f := by
  intro C hC
  have hl := goneL_len Cs
  cases C with
  | some f => exact ⟨f, rfl⟩
  | none =>
    exfalso
    obtain ⟨n, hn⟩ := List.getElem?_of_mem hC
    have key : ∀ {Z : List (Option Sec)}, Z[n]? = some none → Z.length = Cs.length → (∀ m : Nat, (m : Int) ∈ goneL Cs → ∃ f, Z[m]? = some (some f)) → (∀ m : Nat, (m : Int) ∉ goneL Cs → Z[m]? = Cs[m]?) → False := by
      intro Z h1 h2 h3 h4
      by_cases hm : (n : Int) ∈ goneL Cs
      · obtain ⟨f, hf⟩ := h3 n hm
        rw [h1] at hf; cases hf
      · rw [h4 n hm] at h1
        exact hm (gone_mem h1)
    have lt : ∀ x ∈ goneL Cs, ∃ m : Nat, x = (m : Int) ∧ m < Cs.length := fun x hx => by
      obtain ⟨m, h1, h2, _⟩ := goneI_lt Cs Cs.length x hx
      exact ⟨m, h1, h2⟩
    unfold fixC at hn
    split at hn
    · rename_i i hG
      obtain ⟨m, hm, hml⟩ := lt i (by rw [hG]; simp)
      have one : ∀ F : Sec, (Cs.set i.toNat (some F))[n]? = some none → False := fun F hF => key hF (by simp) (fun k hk => by
        rw [hG] at hk
        have : (k : Int) = i := by simpa using hk
        rw [show i.toNat = k by omega, List.getElem?_set_self (by omega)]
        exact ⟨_, rfl⟩) (fun k hk => by
        rw [hG] at hk
        have : ¬ (k : Int) = i := by simpa using hk
        rw [List.getElem?_set_ne (by omega)])
      split at hn
      · exact one _ hn
      · exact one _ hn
    · rename_i i j hG
      obtain ⟨m, hm, hml⟩ := lt i (by rw [hG]; simp)
      obtain ⟨m2, hm2, hml2⟩ := lt j (by rw [hG]; simp)
      refine key hn (by simp) (fun k hk => ?_) (fun k hk => ?_)
      · rw [hG] at hk
        by_cases hkj : (k : Int) = j
        · rw [show j.toNat = k by omega, List.getElem?_set_self (by simp; omega)]
          exact ⟨_, rfl⟩
        · have : (k : Int) = i := by simpa [hkj] using hk
          rw [List.getElem?_set_ne (by omega), show i.toNat = k by omega, List.getElem?_set_self (by omega)]
          exact ⟨_, rfl⟩
      · rw [hG] at hk
        have : ¬ (k : Int) = i ∧ ¬ (k : Int) = j := by simpa using hk
        rw [List.getElem?_set_ne (by omega), List.getElem?_set_ne (by omega)]
    · rename_i h1 h2
      have : goneL Cs = [] := by
        match hG : goneL Cs with
        | [] => rfl
        | [i] => exact absurd hG (h1 i)
        | [i, j] => exact absurd hG (h2 i j)
        | _ :: _ :: _ :: _ => rw [hG] at hl; simp at hl; omega
      have hm := gone_mem hn
      rw [this] at hm
      cases hm

/-! ### memory -/
def secLay : Lay Sec := ⟨16, fun f => (secV f).toList, fun _ => rfl, one_secV, by decide⟩
theorem secLayT : LayT Try.prog secLay 72 40 16 := ⟨by kernel_rfl, ⟨(Try.prog.info? 40).get (by kernel_rfl), ((Try.prog.info? 40).get (by kernel_rfl)).zero.get (by kernel_rfl), by kernel_rfl, by kernel_rfl, by kernel_rfl, by kernel_rfl, by kernel_rfl⟩⟩
theorem bsl_s1 (f : Sec) (w : World) : (Instr.buildSlice 72 1 #[(0, .agg (secV f))]).run Try.prog w = .ok (.slice (some ⟨w.heap.size, 0, none⟩) 1 1) (w.alloc (.cells (secV f) 40)) :=
  run_buildSlice w 72 40 1 _ (secV f) ((Try.prog.info? 40).get (by kernel_rfl)) (((Try.prog.info? 40).get (by kernel_rfl)).zero.get (by kernel_rfl)) (by kernel_rfl) (by kernel_rfl) (by kernel_rfl) (by decide +kernel) (by decide +kernel) (by kernel_rfl)
def SecAt (w : World) (h : Option Addr × Nat × Nat) : Option Sec → Prop
  | none => h = (none, 0, 0)
  | some f => ∃ b, h = (some ⟨b, 0, none⟩, 16, 16) ∧ Has w b (.cells (secV f) 40 (0, 0))
theorem SecAt.keep {w w' : World} {S : Nat → Prop} {h : Option Addr × Nat × Nat} : ∀ {C : Option Sec}, SecAt w h C → Keep S w w' → (∀ b cs, Has w b (.cells cs 40 (0, 0)) → ¬ S b) → SecAt w' h C
  | none, hc, _, _ => hc
  | some f, ⟨b, h1, h2⟩, k, hS => ⟨b, h1, k.has h2 (hS b _ h2)⟩
theorem sl_secV {w : World} {b : Nat} {t : TypeId} {f : Sec} (h : Has w b (.cells (secV f) t (0, 0))) : SlL byLay w (some ⟨b, 0, none⟩) 16 (secB f) := ⟨rfl, fun i x hi => ⟨b, 0, rfl, fun j hj => by
  have hj : j = 0 := by have : j < 1 := hj; omega
  subst hj
  have e : (secV f).toList = (secB f).map fun y => Value.int .u8 y := rfl
  rw [cell_of h, show 0 + i * byLay.size + 0 = i by show 0 + i * 1 + 0 = i; omega, ← Array.getElem?_toList, e, List.getElem?_map, hi]; rfl⟩⟩
theorem SecAt.col {w : World} {h : Option Addr × Nat × Nat} : ∀ {C : Option Sec}, SecAt w h C → ColAt w h C
  | none, hc => hc
  | some f, ⟨b, h1, h2⟩ => by subst h1; exact ⟨⟨b, 0, rfl⟩, rfl, Nat.le_refl _, sl_secV h2⟩
theorem OwnL.neH {α : Type} {L : Lay α} {w : World} {base : Nat} {e : TypeId} {p : Option Addr} {l c : Nat} {xs : List α} (h : OwnL L w base e p l c xs) {x : Nat} {cs : Array Value} {t : TypeId} (hx : Has w x (.cells cs t (0, 0))) (ht : t ≠ e) : p ≠ some ⟨x, 0, none⟩ := by
  intro hp
  rcases Own.cases h with ⟨h0, _⟩ | ⟨b', cur, h0, _, hg, _⟩
  · rw [h0] at hp; cases hp
  · rw [h0] at hp
    cases hp
    exact (hx.ne hg (by simp only [ne_eq, Obj.cells.injEq]; intro e'; exact ht e'.2.1)) rfl
theorem ldSec {w : World} {p : Option Addr} {f : Sec} (h : SlL byLay w p 16 (secB f)) (hp : ∃ b o, p = some ⟨b, o, none⟩) {K : Array Value → Prop} (hK : K (secV f)) : SlArr p 16 16 fun b o => LdA 16 b o (At w) K := by
  obtain ⟨b, o, rfl⟩ := hp
  refine ⟨b, o, rfl, Nat.le_refl _, secV f, rfl, ?_, hK⟩
  rintro w' ⟨d, rfl⟩ i hi
  obtain ⟨b', o', hp', hc⟩ := h.2 i (f ⟨i, hi⟩) (get_secB f hi)
  cases hp'
  have := hc 0 (by show 0 < 1; decide)
  rw [show o + i * byLay.size + 0 = o + i by show o + i * 1 + 0 = o + i; omega] at this
  have e : (secV f).toList = (secB f).map fun y => Value.int .u8 y := rfl
  rw [show (w.dr d).cell? ⟨b, o + i, none⟩ = w.cell? ⟨b, o + i, none⟩ from rfl, this, ← Array.getElem?_toList, e, List.getElem?_map, get_secB f hi]; rfl
end Go.Proofs

/-
  A ROW OF A SET, the walk: stripe.Row.
-/
namespace Go.Proofs
open Go Go.Ev
set_option linter.unusedSimpArgs false
set_option linter.unusedVariables false
set_option maxRecDepth 100000

theorem zc_plc : zc Try.prog 81 = plcV ⟨0, 0⟩ := by kernel_rfl
/-- the end of Row: the columns are turned to sectors -/
def RowEnd (p10 : Option Addr) (l12 : Nat) (lp : Option Addr) (ll lc : Nat) (w : World) (R : Value → World → Prop) : Prop :=
  LoopC (σ := (Option Addr × Nat × Nat) × Int × Unit) (fun _ s2 w K2 => Cb
  (decide (s2.2.1 < ((l12 : Nat) : Int))) (IdxS p10 l12 s2.2.1 1 fun b7 o4 => LdV b7 o4 (At w) fun v20 => OpS v20 fun p11 l13 c11 => SlArr p11 l13 16 fun b8 o5 => LdA 16 b8
  o5 (At w) fun cs6 => DoV Try.prog (Instr.buildSlice 72 1 #[(0, .agg cs6)]) w fun v21 w => OpS v21 fun p12 l14 c12 => DoV Try.prog (Builtin.append_ #[72, 72] 72 #[.slice
  s2.1.1 s2.1.2.1 s2.1.2.2, .slice p12 l14 c12]) w fun v22 w => OpS v22 fun p13 l15 c13 => K2 ((p13, l15, c13), (IntKind.wrap .i64 (s2.2.1 + 1), ())) w) (Ret [] (R (.tuple
  #[.slice s2.1.1 s2.1.2.1 s2.1.2.2, .slice lp ll lc, .int .i64 0]) w))) ((none, 0, 0), (0, ())) w
section calls
variable {w : World} {R : Value → World → Prop}
theorem rowEnd {p10 : Option Addr} {l12 : Nat} {lp : Option Addr} {ll lc : Nat} {Hs : List (Option Addr × Nat × Nat)} {FR : List Sec} (hs : SlL hLay w p10 l12 Hs) (hl : Hs.length = FR.length) (hl2 : FR.length ≤ 32) (hat : ∀ (k : Nat) h f, Hs[k]? = some h → FR[k]? = some f → ColAt w h (some f))
    (hK : ∀ p c w', OwnL secLay w' w.heap.size 40 p FR.length c FR → Keep (fun _ => False) w w' → R (.tuple #[.slice p FR.length c, .slice lp ll lc, .int .i64 0]) w') : RowEnd p10 l12 lp ll lc w R := by
  unfold RowEnd
  have hll := hs.1
  refine LoopC_of (σ := (Option Addr × Nat × Nat) × Int × Unit) (fun s w' => ∃ k : Nat, s.2.1 = (k : Int) ∧ k ≤ FR.length ∧ s.1.2.1 = k ∧ OwnL secLay w' w.heap.size 40 s.1.1 k s.1.2.2 (FR.take k) ∧ Keep (fun _ => False) w w') (fun s _ => (FR.length - s.2.1).toNat)
    ⟨0, rfl, by omega, rfl, OwnL.nil, Keep.refl _ _⟩ ?_
  rintro _ ⟨⟨p, l, c⟩, i, u⟩ w1 ⟨k, hi, hk, hlk, o1, k1⟩
  simp only at hi hlk o1 ⊢
  subst hi hlk
  refine Cb_of (fun hc => ?_) (fun hc => ?_)
  · have hc : l < FR.length := by
      have : (l : Int) < (l12 : Int) := by simpa using hc
      omega
    obtain ⟨h, hh⟩ : ∃ h, Hs[l]? = some h := ⟨_, List.getElem?_eq_getElem (by omega)⟩
    obtain ⟨f, hf⟩ : ∃ f, FR[l]? = some f := ⟨_, List.getElem?_eq_getElem hc⟩
    obtain ⟨a1, a2, a3, a4⟩ := (hat l h f hh hf).keep k1
    refine (hs.keepB k1 (by simp)).ld0 (i := (l : Int)) (n := 1) (x := h) (v := .slice h.1 h.2.1 h.2.2) rfl (by omega) (by simpa using hh) rfl (OpS_slice.2 ?_)
    rw [a2]
    refine ldSec a4 a1 ?_
    refine ⟨_, _, bsl_s1 f w1, OpS_slice.2 ?_⟩
    have k2 := Keep.new (fun _ => False) w1 (.cells (secV f) 40)
    have hb2 := Has.new w1 (.cells (secV f) 40)
    generalize w1.alloc (.cells (secV f) 40) = w2 at *
    have z1 := k1.size
    have z2 := k2.size
    obtain ⟨p3, c3, w3, hr3, o3, k3, _⟩ := run_appendF1 secLayT (o1.keep k2 (by simp)) (y := f) hb2 (by show secV f = ((secV f).toList).toArray; simp) (ty := 72) (by omega) (by simp only [maxLen]; omega) (by omega) (c2 := 1)
    refine ⟨_, _, hr3, OpS_slice.2 ?_⟩
    have ek : IntKind.wrap .i64 ((l : Int) + 1) = ((l + 1 : Nat) : Int) := by rw [wrapI (by omega) (by omega)]; omega
    refine ⟨_, by show ((FR.length : Int) - IntKind.wrap .i64 ((l : Int) + 1)).toNat < ((FR.length : Int) - (l : Int)).toNat; rw [ek]; omega, ⟨l + 1, ek, by omega, rfl, by rw [List.take_add_one, hf]; exact o3, (k1.trans k2).trans' k3 fun i hi e => by have := (o1.keep k2 (by simp)).lt e; omega⟩, rfl⟩
  · have hc : l = FR.length := by
      have : ¬ (l : Int) < (l12 : Int) := by simpa using hc
      omega
    subst hc
    rw [List.take_length] at o1
    exact Ret_nil.2 (hK p c w1 o1 k1)
end calls
end Go.Proofs

/-
  A ROW OF A SET, the walk: stripe.Row, the whole.
-/
namespace Go.Proofs
open Go Go.Ev
set_option linter.unusedSimpArgs false
set_option linter.unusedVariables false
set_option maxRecDepth 100000

/-- the headers of a row's columns, the first i of them filled in -/
def HdrAt (w : World) (Cs : List (Option Sec)) (Hs : List (Option Addr × Nat × Nat)) (i : Nat) : Prop :=
  Hs.length = Cs.length ∧ ∀ (k : Nat) h, Hs[k]? = some h → (k < i → ∀ C, Cs[k]? = some C → SecAt w h C) ∧ (i ≤ k → h = (none, 0, 0))
theorem HdrAt.keep {w w' : World} {S : Nat → Prop} {Cs : List (Option Sec)} {Hs : List (Option Addr × Nat × Nat)} {i : Nat} (h : HdrAt w Cs Hs i) (k : Keep S w w') (hS : ∀ b cs, Has w b (.cells cs 40 (0, 0)) → ¬ S b) : HdrAt w' Cs Hs i :=
  ⟨h.1, fun j a ha => ⟨fun hj C hC => ((h.2 j a ha).1 hj C hC).keep k hS, (h.2 j a ha).2⟩⟩
theorem HdrAt.zero {w : World} {Cs : List (Option Sec)} {n : Nat} (hn : Cs.length = n) : HdrAt w Cs (List.replicate n (none, 0, 0)) 0 :=
  ⟨by simp [hn], fun k h hh => ⟨fun hk => absurd hk (by omega), fun _ => by
    rw [List.getElem?_replicate] at hh
    split at hh
    · exact (Option.some.inj hh).symm
    · cases hh⟩⟩
theorem HdrAt.lost {w : World} {Cs : List (Option Sec)} {Hs : List (Option Addr × Nat × Nat)} {i : Nat} (h : HdrAt w Cs Hs i) (hC : Cs[i]? = some none) : HdrAt w Cs Hs (i + 1) :=
  ⟨h.1, fun k a ha => ⟨fun hk C hC' => by
    by_cases hki : k = i
    · subst hki
      rw [hC] at hC'
      cases hC'
      exact (h.2 k a ha).2 (Nat.le_refl _)
    · exact (h.2 k a ha).1 (by omega) C hC', fun hk => (h.2 k a ha).2 (by omega)⟩⟩
theorem HdrAt.got {w : World} {Cs : List (Option Sec)} {Hs : List (Option Addr × Nat × Nat)} {i : Nat} (h : HdrAt w Cs Hs i) {f : Sec} {x : Option Addr × Nat × Nat} (hC : Cs[i]? = some (some f)) (hx : SecAt w x (some f)) : HdrAt w Cs (Hs.set i x) (i + 1) := by
  refine ⟨by rw [List.length_set]; exact h.1, fun k a ha => ?_⟩
  by_cases hki : i = k
  · subst hki
    have hlt : i < Hs.length := by
      have := (List.getElem?_eq_some_iff.1 ha).1
      rwa [List.length_set] at this
    rw [List.getElem?_set_self hlt] at ha
    cases ha
    refine ⟨fun _ C hC' => ?_, fun hk => absurd hk (by omega)⟩
    rw [hC] at hC'
    cases hC'
    exact hx
  · rw [List.getElem?_set_ne hki] at ha
    exact ⟨fun hk C hC' => (h.2 k a ha).1 (by omega) C hC', fun hk => (h.2 k a ha).2 (by omega)⟩
theorem HdrAt.all {w : World} {Cs : List (Option Sec)} {Hs : List (Option Addr × Nat × Nat)} (h : HdrAt w Cs Hs Cs.length) : ∀ (k : Nat) x C, Hs[k]? = some x → Cs[k]? = some C → ColAt w x C := fun k x C hx hC =>
  SecAt.col ((h.2 k x hx).1 (List.getElem?_eq_some_iff.1 hC).1 C hC)
theorem plcP_ok {g : Geo} (hg : GeoOk g) {st off : Int} (hst : 0 ≤ st ∧ st < g.s) (hof : 0 ≤ off ∧ off < g.c) (k : Int) : (0 ≤ (plcP g st off k).dk ∧ (plcP g st off k).dk < g.d) ∧ (0 ≤ (plcP g st off k).at_ ∧ (plcP g st off k).at_ < g.c * g.s) := by
  have h := hg.row hst hof
  have hd := hg.d
  exact ⟨⟨Int.emod_nonneg _ (by omega), Int.emod_lt_of_pos _ (by omega)⟩, ⟨h.2.1, h.2.2⟩⟩
section calls
variable {w : World} {R : Value → World → Prop}
end calls
end Go.Proofs

/-
  A SET: stripe.Read.
-/
namespace Go.Proofs
open Go Go.Ev
set_option linter.unusedSimpArgs false
set_option linter.unusedVariables false
set_option maxRecDepth 100000

/-- what Read answers -/
def readS (g : Geo) (s : SS) (lba : Int) : Sec × Int :=
  let x := spotP g lba
  let Cs := colsS g s x.1 x.2.2
  if s.pw.on = false then (sec [], 4)
  else match Cs.getD x.2.1.toNat none with
    | some f => (f, 0)
    | none => if lostN Cs ≤ 2 then ((rowR Cs).getD x.2.1.toNat (sec []), 0) else (sec [], 8)
section calls
variable {w : World} {q : SB} {s : SS} {R : Value → World → Prop}
end calls
end Go.Proofs
