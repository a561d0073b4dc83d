/-
  CacheLast: the walk over the law's own loops, and the statement.
-/
import Derived.Test.YtacnieopbkeoiaaCache
import Derived.Test.YtacnieopbkeoiaaFLaw11
import Derived.Test.YtacnieopbkeoiaaLift
namespace Go.Proofs
open Go Go.Ev Go.RowKit
set_option linter.unusedSimpArgs false
set_option linter.unusedVariables false
set_option maxRecDepth 100000

theorem law11_awake {w : World} {R : Value → World → Prop} (hK : ∀ w', Keep (fun _ => False) w w' → R (.bool true) w') : CallV Try.prog 13 #[] w R := by
  apply C_ravelinlaw11_awake
  unfold F_ravelinlaw11_awake
  refine cache_New (by decide) (by decide) fun c m w1 hC k1 hc hm => ?_
  simp only [T2_mk, OpP_some, OpI_int, Req_true, Req_rfl]
  have e0 : (cond ((0 : Int) != 0) true false) = false := rfl
  rw [e0, Cb_false]
  refine DoQ_of (fun d => bld_sec1 _ _) ?_
  simp only [OpA_agg]
  refine ⟨rfl, cache_Put hC fun w2 k2 hC2 => ?_⟩
  have e1 : putE 2 [] 5 3 = 0 := by decide
  rw [e1]
  simp only [OpI_int]
  have e2 : ((0 : Int) != 0) = false := rfl
  rw [e2, Cb_false]
  have k12 : Keep (fun _ => False) w w2 := k1.trans' k2 (fun k hk e => by omega)
  refine cache_Get hC2 fun w3 k3 => ?_
  have e3 : mlook (if putE 2 [] 5 3 = 0 then ins [] 5 (sec [1], 3) else []) 5 = some ((sec [1], 3) : Ent) := by rw [if_pos e1]; rfl
  rw [e3]
  simp only [T3_mk, OpA_agg, OpI_int, Req_true, Req_rfl]
  refine ⟨rfl, ?_⟩
  rw [Alc_iff]
  refine StA_all (Has.new _ _) rfl (by rw [zc_sec]; rfl) (one_secV _) ?_
  have hb := (Has.new w3 (.cells (zc Try.prog 31) 31)).upd_same (.cells (secV (sec [1])) 31)
  have k4 : Keep (fun _ => False) w _ := (k12.trans k3).alloc (.cells (zc Try.prog 31) 31)
  have hle := (k12.trans k3).size
  have k5 := k4.upd (k := w3.heap.size) (by omega) (.cells (secV (sec [1])) 31)
  generalize (w3.alloc (.cells (zc Try.prog 31) 31)).upd w3.heap.size (.cells (secV (sec [1])) 31) = w4 at *
  have e4 : (cond ((0 : Int) == 0) ((3 : Int) == 3) false) = true := rfl
  rw [e4, Cb_true]
  refine LdA_all hb rfl ?_
  refine DoQ_of (fun d => bld_sec1 _ _) ?_
  simp only [OpA_agg]
  refine ⟨rfl, EqB_sec (sec_ok (by decide)) (sec_ok (by decide)) fun r hr => ?_⟩
  rw [hr.2 rfl]
  simp only [Ret_nil]
  exact hK _ k5

namespace Last
/-- of each sector its version, and 1 -/
def topOf (es : List (Int × Ent)) (x : Int) : Int := match mlook es x with
  | some e => e.2 + 1
  | none => 0
/-- what a cache filled by the law holds -/
def Good (es : List (Int × Ent)) : Prop := ∀ x e, mlook es x = some e → e.1 = sec [x, e.2] ∧ 0 ≤ e.2 ∧ e.2 ≤ 255 ∧ 0 ≤ x ∧ x ≤ 255
theorem good_ins {es : List (Int × Ent)} (h : Good es) {x v : Int} (hx : 0 ≤ x ∧ x ≤ 255) (hv : 0 ≤ v ∧ v ≤ 255) : Good (ins es x (sec [x, v], v)) := by
  intro y e he
  rw [look_ins] at he
  split at he
  · rename_i hy; subst hy; cases he; exact ⟨rfl, hv.1, hv.2, hx.1, hx.2⟩
  · exact h y e he
theorem top_ins (es : List (Int × Ent)) (x v y : Int) (s : Sec) : topOf (ins es x (s, v)) y = if y = x then v + 1 else topOf es y := by
  unfold topOf
  rw [look_ins]
  by_cases h : y = x <;> simp [h]
def row (es : List (Int × Ent)) : Nat → Value := fun j => .int .i64 (topOf es j)
theorem row_ins (es : List (Int × Ent)) {x : Int} (hx : 0 ≤ x) (v : Int) (s : Sec) : (fun j => if j = x.toNat then Value.int .i64 (v + 1) else row es j) = row (ins es x (s, v)) := by
  funext j
  unfold row
  rw [top_ins]
  by_cases h : j = x.toNat
  · rw [if_pos h, if_pos (by omega)]
  · rw [if_neg h, if_neg (by omega)]

structure Inv (W : World) (c m p : Nat) (n : Int) (es : List (Int × Ent)) (held i : Int) (w : World) : Prop where
  cache : CacheAt w c m n es
  top : Has w p (.cells (ofF 256 (row es)) 3 (0, 0))
  good : Good es
  held : held = es.length
  le : (es.length : Int) ≤ n
  i0 : 0 ≤ i
  i1 : i ≤ 200
  keep : Keep (fun _ => False) W w

/-- a put, and what is written behind it -/
theorem put_ok {n : Int} {es : List (Int × Ent)} (h : Good es) {x v : Int} (hx : 0 ≤ x ∧ x ≤ 255) (hv : 0 ≤ v) :
    (putE n es x v = 0 ↔ (0 < topOf es x ∧ topOf es x ≤ v) ∨ (topOf es x = 0 ∧ (es.length : Int) < n)) := by
  unfold putE topOf
  rw [if_neg (by omega)]
  cases hl : mlook es x with
  | none => simp only; split <;> simp <;> omega
  | some e => have := h x e hl; simp only; split <;> simp <;> omega
theorem len_put {n : Int} {es : List (Int × Ent)} (h : Good es) {x : Int} (v : Ent) : ((ins es x v).length : Int) = if topOf es x = 0 then (es.length : Int) + 1 else es.length := by
  rw [length_ins]
  unfold topOf
  cases hl : mlook es x with
  | none => simp
  | some e => have := h x e hl; simp; omega
theorem top_nonneg {es : List (Int × Ent)} (h : Good es) (x : Int) : 0 ≤ topOf es x ∧ topOf es x ≤ 256 := by
  unfold topOf
  cases hl : mlook es x with
  | none => simp
  | some e => have := h x e hl; simp; omega
theorem byte_of {cs : List Value} (h : Fits [.int .u8] cs) : ∃ x, cs = [.int .u8 x] ∧ 0 ≤ x ∧ x ≤ 255 := by
  match cs, h with
  | [_], ⟨⟨x, rfl, h1, h2⟩, _⟩ => exact ⟨x, rfl, h1, h2⟩
end Last
open Last

theorem room_wrap {room : Int} (h0 : 0 ≤ room) (h1 : room ≤ 255) : IntKind.wrap .i64 ((Int.tmod (IntKind.wrap .i64 room) 8) + 1) = room % 8 + 1 := by
  rw [wrapI (x := room) (by omega) (by omega), Int.tmod_eq_emod_of_nonneg h0]
  exact wrapI (by omega) (by omega)

theorem cacheLast_walk {room : Int} {lp : Option Addr} {ll lc : Nat} {vp : Option Addr} {vl vc : Nat} {gl gv : Nat → List Value} {W : World} (hr0 : 0 ≤ room) (hr1 : room ≤ 255)
    (hl : Sl W 1 lp ll gl) (fl : ∀ i, i < ll → Fits [.int .u8] (gl i)) (hv : Sl W 1 vp vl gv) (fv : ∀ i, i < vl → Fits [.int .u8] (gv i)) :
    CallV Try.prog 3 #[.int .u8 room, .slice lp ll lc, .slice vp vl vc] W fun v w' => v = .bool true ∧ Below W.heap.size W w' := by
  apply C_ravelinlaw11_CacheLast
  unfold F_ravelinlaw11_CacheLast
  rw [room_wrap hr0 hr1]
  refine ⟨by decide, ?_⟩
  refine cache_New (by omega) (by omega) fun c m w1 hC k1 hcs hms => ?_
  simp only [T2_mk, OpP_some, OpI_int]
  refine law11_awake fun w2 k2 => ?_
  simp only [OpB_bool, Req_true, Req_rfl]
  rw [show (cond (cond (!true) true ((0 : Int) != 0)) true false) = false from rfl, Cb_false]
  have hC2 := hC.keep k2 (by simp) (by simp)
  have k12 := k1.trans k2
  generalize hn : room % 8 + 1 = n at *
  have hn1 : 1 ≤ n := by omega
  have hn8 : n ≤ 8 := by omega
  refine ⟨_, _, run_make (P := Try.prog) w2 28 3 ((Try.prog.info? 3).get (by kernel_rfl)) (.int .i64 0) (by kernel_rfl) (by kernel_rfl) (by kernel_rfl) .i64 .i64 256 256 (by decide) (by decide) (by decide +kernel) (by decide), ?_⟩
  simp only [OpS_slice]
  have e256 : (256 : Int).toNat = 256 := rfl
  rw [e256]
  have hrow0 : madeCells (Value.int .i64 0).cells (256 * ((Try.prog.info? 3).get (by kernel_rfl)).size) = ofF 256 (row []) := by
    rw [show ((Try.prog.info? 3).get (by kernel_rfl)).size = 1 by kernel_rfl, Nat.mul_one]
    exact madeCells_one _ _
  rw [hrow0]
  have hp := Has.new w2 (.cells (ofF 256 (row [])) 3)
  have k13 := k12.alloc (.cells (ofF 256 (row [])) 3)
  have hC3 := hC2.keep (w' := w2.alloc (.cells (ofF 256 (row [])) 3)) ((Keep.refl (fun _ => False) w2).alloc _) (by simp) (by simp)
  have hpc : c < w2.heap.size := hC2.lt.1
  have hpm : m < w2.heap.size := hC2.lt.2
  have hpW : W.heap.size ≤ w2.heap.size := k12.size
  generalize hw3 : w2.alloc (.cells (ofF 256 (row [])) 3) = w3 at *
  generalize hpn : w2.heap.size = p at *
  refine ⟨fun (s : Int × Unit) w' => ∃ es, ∃ i, Inv W c m p n es s.1 i w', ?_, ?_⟩
  · refine LoopC_of (σ := Int × Int × Unit) (fun s w' => ∃ es, Inv W c m p n es s.1 s.2.1 w') (fun s _ => (201 - s.2.1).toNat)
      ⟨[], hC3, hp, fun x e h => by simp [mlook] at h, by simp, by simp; omega, by simp, by simp, k13⟩ ?_
    intro j s w h
    obtain ⟨held, i, u⟩ := s
    obtain ⟨es, hI⟩ := h
    simp only
    obtain ⟨hca, htop, hgood, hheld, hle, hi0, hi1, hk⟩ := hI
    simp only at hheld hi0 hi1
    refine Cb_of (fun hc1 => ?_) (fun hc1 => ?_)
    · simp only [decide_eq_true_eq] at hc1
      refine Cb_of (fun hc2 => ?_) (fun hc2 => ?_)
      · have hc2' : i < vl ∧ i < 200 := by
          by_cases h : i < (vl : Int)
          · simp [h] at hc2; exact ⟨h, hc2⟩
          · simp [h] at hc2
        have hl1 := hl.keep hk (by simp)
        have hv1 := hv.keep hk (by simp)
        obtain ⟨x, hgx, hx0, hx1⟩ := byte_of (fl i.toNat (by omega))
        obtain ⟨v, hgv, hv0, hvb⟩ := byte_of (fv i.toNat (by omega))
        refine (hl1.ld_iff hi0 hc1 hgx).2 ?_
        simp only [OpI_int]
        refine (hv1.ld_iff hi0 hc2'.1 hgv).2 ?_
        simp only [OpI_int]
        intro d
        have hv2 := hv.keep (hk.dr d) (by simp)
        refine (hv2.ld_iff hi0 hc2'.1 hgv).2 ?_
        simp only [OpI_int]
        refine DoQ_of (fun d => bld_sec2 _ _ _) ?_
        simp only [OpA_agg]
        refine ⟨rfl, ?_⟩
        have ew1 : IntKind.wrap .i64 x = x := wrapI (by omega) (by omega)
        have ew2 : IntKind.wrap .i64 v = v := wrapI (by omega) (by omega)
        have ew3 : IntKind.wrap .u64 v = v := wrapU64 (by omega) (by omega)
        have ew4 : IntKind.wrap .i64 (v + 1) = v + 1 := wrapI (by omega) (by omega)
        have ew5 : IntKind.wrap .i64 (i + 1) = i + 1 := wrapI (by omega) (by omega)
        simp only [ew1, ew2, ew3, ew4, ew5]
        refine cache_Put (hca.keep ((Keep.refl (fun _ => False) w).dr d) (by simp) (by simp)) fun w4 k4 hC4 => ?_
        have htop4 := k4.has (htop.dr d) (by omega)
        have hk4 : Keep (fun _ => False) W w4 := (hk.dr d).trans' k4 (fun k hk e => by omega)
        have hrow : row es x.toNat = .int .i64 (topOf es x) := by unfold row; rw [Int.toNat_of_nonneg hx0]
        have hq := put_ok (n := n) hgood ⟨hx0, hx1⟩ (v := v) hv0
        have hlp := len_put (n := n) hgood (x := x) (sec [x, v], v)
        have hT := top_nonneg hgood x
        have hgi := good_ins hgood ⟨hx0, hx1⟩ ⟨hv0, hvb⟩
        have hri := row_ins es hx0 v (sec [x, v])
        simp only [ld_own htop4 hx0 (show x < ((256 : Nat) : Int) by omega), st_own htop4 hx0 (show x < ((256 : Nat) : Int) by omega), hrow, OpI_int, hri]
        generalize topOf es x = T at *
        generalize putE n es x v = q at *
        have fin : ∀ held' es' w', Inv W c m p n es' held' (i + 1) w' → (∃ m', m' < (201 - i).toNat ∧ ((∃ es, Inv W c m p n es held' (i + 1) w') ∧ (201 - (i + 1)).toNat = m')) :=
          fun held' es' w' h => ⟨_, by omega, ⟨es', h⟩, rfl⟩
        by_cases hT0 : T > 0
        · have e1 : decide (T > 0) = true := by simp [hT0]
          have e2 : (T == 0) = false := by simp; omega
          by_cases hTv : T ≤ v
          · have hq0 : q = 0 := hq.2 (Or.inl ⟨hT0, hTv⟩)
            have e3 : decide (T ≤ v) = true := by simp [hTv]
            have e4 : (!((q == 0) == true)) = false := by simp [hq0]
            rw [if_pos hq0] at hC4
            simp only [e1, e2, e3, e4, Cb_true, Cb_false]
            refine ⟨rfl, fin _ (ins es x (sec [x, v], v)) _ ⟨hC4.keep (Keep.one w4 p _) (by omega) (by omega), htop4.upd_same _, hgi, ?_, ?_, by omega, by omega, hk4.upd (by omega) _⟩⟩
            · rw [hlp, if_neg (by omega)]; exact hheld
            · rw [hlp, if_neg (by omega)]; exact hle
          · have hq0 : ¬ q = 0 := fun h => by rcases hq.1 h with h | h <;> omega
            have e3 : decide (T ≤ v) = false := by simp [hTv]
            have e4 : (!((q == 0) == false)) = false := by simp [hq0]
            rw [if_neg hq0] at hC4
            simp only [e1, e2, e3, e4, Cb_true, Cb_false]
            exact fin _ es _ ⟨hC4, htop4, hgood, hheld, hle, by omega, by omega, hk4⟩
        · have e1 : decide (T > 0) = false := by simp; omega
          have hTz : T = 0 := by omega
          have e2 : (T == 0) = true := by simp [hTz]
          by_cases hf : held < n
          · have hq0 : q = 0 := hq.2 (Or.inr ⟨hTz, by omega⟩)
            have e3 : decide (held < n) = true := by simp [hf]
            have e4 : (!((q == 0) == true)) = false := by simp [hq0]
            have ew6 : IntKind.wrap .i64 (held + 1) = held + 1 := wrapI (by omega) (by omega)
            rw [if_pos hq0] at hC4
            simp only [e1, e2, e3, e4, Cb_true, Cb_false, ew6]
            refine ⟨rfl, fin _ (ins es x (sec [x, v], v)) _ ⟨hC4.keep (Keep.one w4 p _) (by omega) (by omega), htop4.upd_same _, hgi, ?_, ?_, by omega, by omega, hk4.upd (by omega) _⟩⟩
            · rw [hlp, if_pos hTz]; omega
            · rw [hlp, if_pos hTz]; omega
          · have hq0 : ¬ q = 0 := fun h => by rcases hq.1 h with h | h <;> omega
            have e3 : decide (held < n) = false := by simp [hf]
            have e4 : (!((q == 0) == false)) = false := by simp [hq0]
            rw [if_neg hq0] at hC4
            simp only [e1, e2, e3, e4, Cb_true, Cb_false]
            exact fin _ es _ ⟨hC4, htop4, hgood, hheld, hle, by omega, by omega, hk4⟩
      · exact ⟨es, i, hca, htop, hgood, hheld, hle, hi0, hi1, hk⟩
    · exact ⟨es, i, hca, htop, hgood, hheld, hle, hi0, hi1, hk⟩
  · intro j s w h
    obtain ⟨held, u⟩ := s
    obtain ⟨es, i, hI⟩ := h
    simp only at hI ⊢
    obtain ⟨hca, htop, hgood, hheld, hle, hi0, hi1, hk⟩ := hI
    refine LoopC_of (σ := Int × Unit) (fun s w' => CacheAt w' c m n es ∧ Has w' p (.cells (ofF 256 (row es)) 3 (0, 0)) ∧ 0 ≤ s.1 ∧ s.1 ≤ 256 ∧ Keep (fun _ => False) W w') (fun s _ => (257 - s.1).toNat)
      ⟨hca, htop, by simp, by simp, hk⟩ ?_
    clear hca htop hk
    intro j s w ⟨hca, htop, h0, h1, hk⟩
    obtain ⟨x, u⟩ := s
    simp only at h0 h1 ⊢
    refine Cb_of (fun hc => ?_) (fun hc => ?_)
    · simp only [decide_eq_true_eq] at hc
      refine cache_Get hca fun w4 k4 => ?_
      have hca4 := hca.keep k4 (by simp) (by simp)
      have htop4 := k4.has htop (by simp)
      have hk4 := hk.trans k4
      have hrow : row es x.toNat = .int .i64 (topOf es x) := by unfold row; rw [Int.toNat_of_nonneg h0]
      have ew5 : IntKind.wrap .i64 (x + 1) = x + 1 := wrapI (by omega) (by omega)
      have go : ∀ w', CacheAt w' c m n es → Has w' p (.cells (ofF 256 (row es)) 3 (0, 0)) → Keep (fun _ => False) W w' →
          ∃ m', m' < (257 - x).toNat ∧ ((CacheAt w' c m n es ∧ Has w' p (.cells (ofF 256 (row es)) 3 (0, 0)) ∧ 0 ≤ x + 1 ∧ x + 1 ≤ 256 ∧ Keep (fun _ => False) W w') ∧ (257 - (x + 1)).toNat = m') :=
        fun w' a b c => ⟨_, by omega, ⟨a, b, by omega, by omega, c⟩, rfl⟩
      have hgo : ∀ (f : Sec) (w' : World), ∃ w'', (w4.alloc (.cells (zc Try.prog 31) 31)).upd w4.heap.size (.cells (secV f) 31) = w'' ∧
          Has w'' w4.heap.size (.cells (secV f) 31) ∧ CacheAt w'' c m n es ∧ Has w'' p (.cells (ofF 256 (row es)) 3 (0, 0)) ∧ Keep (fun _ => False) W w'' := by
        intro f w'
        have hsz := hk4.size
        have l1 := hca4.lt
        have l2 := htop4.lt
        refine ⟨_, rfl, (Has.new _ _).upd_same _, ?_, ?_, (hk4.alloc _).upd (by omega) _⟩
        · exact (hca4.keep ((Keep.refl (fun _ => False) w4).alloc _) (by simp) (by simp)).keep (Keep.one _ w4.heap.size _) (by omega) (by omega)
        · exact htop4.alloc.upd (by omega)
      cases hlk : mlook es x with
      | none =>
        simp only [T3_mk, OpA_agg, OpI_int]
        refine ⟨rfl, ?_⟩
        rw [Alc_iff]
        refine StA_all (Has.new _ _) rfl (by rw [zc_sec]; rfl) (one_secV _) ?_
        obtain ⟨w5, hw5, hs5, hc5, ht5, hk5⟩ := hgo (sec []) w4
        rw [hw5]
        refine (ld_own ht5 h0 (show x < ((256 : Nat) : Int) by omega)).2 ?_
        simp only [hrow, OpI_int]
        have hT : topOf es x = 0 := by simp [topOf, hlk]
        rw [hT]
        rw [show (!(((10 : Int) == 0) == (decide ((0 : Int) > 0)))) = false from rfl, Cb_false, show ((10 : Int) == 0) = false from rfl, Cb_false, ew5]
        exact go _ hc5 ht5 hk5
      | some e =>
        obtain ⟨g1, g2, g3, g4, g5⟩ := hgood x e hlk
        simp only [T3_mk, OpA_agg, OpI_int]
        refine ⟨rfl, ?_⟩
        rw [Alc_iff]
        refine StA_all (Has.new _ _) rfl (by rw [zc_sec]; rfl) (one_secV _) ?_
        obtain ⟨w5, hw5, hs5, hc5, ht5, hk5⟩ := hgo e.1 w4
        rw [hw5]
        have hT : topOf es x = e.2 + 1 := by simp [topOf, hlk]
        have ew1 : IntKind.wrap .i64 e.2 = e.2 := wrapI (by omega) (by omega)
        have ew2 : IntKind.wrap .i64 (e.2 + 1) = e.2 + 1 := wrapI (by omega) (by omega)
        have ew3 : IntKind.wrap .u8 x = x := wrapU8 (by omega) (by omega)
        have ew4 : IntKind.wrap .u8 e.2 = e.2 := wrapU8 (by omega) (by omega)
        simp only [ld_own ht5 h0 (show x < ((256 : Nat) : Int) by omega), hrow, OpI_int, hT, ew1, ew2, ew3, ew4, ew5]
        have e1 : (!(true == (decide (e.2 + 1 > 0)))) = false := by simp; omega
        have e2 : ((0 : Int) == 0) = true := rfl
        have e3 : (e.2 + 1 != e.2 + 1) = false := by simp
        simp only [e1, e2, e3, Cb_true, Cb_false]
        refine LdA_all hs5 rfl ?_
        refine DoQ_of (fun d => bld_sec2 _ _ _) ?_
        simp only [OpA_agg]
        refine ⟨rfl, EqB_sec_ne ?_ ?_ fun r hr => ?_⟩
        · rw [g1]; exact sec_ok (by simp; omega)
        · exact sec_ok (by simp; omega)
        · have : r = false := by
            cases r
            · rfl
            · exact absurd g1 (hr.1 rfl)
          rw [this, Cb_false]
          exact go _ hc5 ht5 hk5
    · refine cache_Len hca ?_
      simp only [OpI_int]
      have e1 : ((es.length : Int) == held) = true := by simp [hheld]
      rw [e1, Cb_true]
      refine cache_Full hca fun d => ?_
      simp only [OpB_bool, Ret_nil]
      refine ⟨?_, (hk.dr d).below⟩
      congr 1
      by_cases h : (es.length : Int) = n
      · simp [hheld, h]
      · have h1 : decide (n ≤ (es.length : Int)) = false := by simp; omega
        have h2 : (held == n) = false := by simp [hheld, h]
        rw [h1, h2]; rfl
end Go.Proofs
namespace Go.Proofs.Ytacnieopbkeoiaa.cacheLast
open Go Go.Ev Go.RowKit Go.Proofs Go.ChangeShapes Go.WideShapes Go.ChangeAt
set_option linter.unusedVariables false
set_option maxRecDepth 100000
theorem own : ownKnob Try.prog.godebug = none := by kernel_rfl

theorem contract (H : Type) (enc : TypeId × Value → H) (W : World) (base : Nat) (args : Array Value) (ds gs : List (DataW H)) (before : List MemPlace)
    (hval : ∀ (j : Nat) t v, Try.f3.params[j]? = some t → args[j]? = some v → Value.okWide Try.prog W .any base t v)
    (hW : DataW.Whole enc Try.prog Try.f3.params.toList Rows.cacheLastSpec.vars false W args.toList ds gs before) :
    Calls Try.prog 3 args W fun e W' => ∃ v, e = .returned v ∧ Rows.cacheLastSpec.post enc Try.prog Try.f3 false true false false W args v W' := by
  have hW' := hW
  obtain ⟨p, q, hA0, hV, rfl, hfz, hnd⟩ := hW
  have hA : DataW.TrodAll enc Try.prog W 0 (fun _ => true) true Try.f3.params.toList args.toList ds p := hA0
  rw [Try.params3] at hA hval
  obtain ⟨v0, vs0, d0, ds0, p0, q0, hargs, rfl, rfl, h0, r0⟩ := trodAll_cons hA
  obtain ⟨v1, vs1, d1, ds1, p1, q1, rfl, rfl, rfl, h1, r1⟩ := trodAll_cons r0
  obtain ⟨v2, vs2, d2, ds2, p2, q2, rfl, rfl, rfl, h2, r2⟩ := trodAll_cons r1
  obtain ⟨rfl, rfl, rfl⟩ := trodAll_nil r2
  obtain rfl : args = #[v0, v1, v2] := by cases args; simp_all
  obtain ⟨a0, rfl, rfl, rfl, w0⟩ := open_int (t := 5) (k := .u8) (by kernel_rfl) (hval 0 5 v0 rfl rfl) h0
  obtain ⟨xp, l, c, g, rfl, _, _, hs1, hf1⟩ := sl_open (t := 22) (e := 5) (ks := [.int .u8]) (by kernel_rfl) (by kernel_rfl) (by kernel_rfl) (by decide) (hval 1 22 v1 rfl rfl) h1
  obtain ⟨yp, l', c', g', rfl, _, _, hs2, hf2⟩ := sl_open (t := 22) (e := 5) (ks := [.int .u8]) (by kernel_rfl) (by kernel_rfl) (by kernel_rfl) (by decide) (hval 2 22 v2 rfl rfl) h2
  have hx : 0 ≤ a0 ∧ a0 ≤ 255 := by simpa [Lit.wf, IntKind.min, IntKind.max, IntKind.signed, IntKind.bits] using w0
  refine Calls.mono (cacheLast_walk (lc := c) (vc := c') hx.1 hx.2 hs1 hf1 hs2 hf2) fun e W' ⟨v, he, hv, hg⟩ => ?_
  subst he hv
  exact ⟨_, rfl, post_below hW' (by kernel_rfl) rfl (by kernel_rfl) rfl rfl (by decide +kernel) hg⟩

theorem lifted (os : Os) (started : os.Started) (H : Type) (enc : TypeId × Value → H) (F : Stop.Interp) :
    ReturnsInHanded {} Try.checked os 3 .any ((Rows.OpenSpec.upto Rows.cacheLastSpec).pre6 enc Try.prog Try.f3 Rows.cacheLastUptoRow.domain false) (((Rows.OpenSpec.upto Rows.cacheLastSpec).at F).post enc Try.prog Try.f3 false true false false) := by
  refine returnsInHanded_of_cond (C := Try.checked) (s := Rows.OpenSpec.upto Rows.cacheLastSpec) (k := Rows.uptoSmall) rfl own started (by kernel_rfl) Try.func3
    (OpenSpec.witness (enc := enc) (C := Try.checked) (s := Rows.OpenSpec.upto Rows.cacheLastSpec) (k := Rows.uptoSmall) rfl false ⟨#[], #[.int .u8 0, .slice none 0 0, .slice none 0 0], []⟩ 8 (by kernel_rfl) (by kernel_rfl) (by kernel_rfl)
      (x := ([.lit (.int .u8 0), .nil, .nil], [], [])) (by kernel_rfl) rfl (by kernel_rfl)) ?_
  intro W base args ds gs before hval hW _ hk _
  exact contract H enc W base args ds gs before hval hW

theorem over : Rows.cacheLastUptoRow.holds Try.pinned (Rows.OpenSpec.upto Rows.cacheLastSpec) :=
  OpenClaim.holds_of_cond 3 Try.f3 rfl rfl rfl rfl rfl rfl rfl ⟨rfl, rfl, rfl, rfl, rfl⟩ rfl rfl rfl rfl rfl (by kernel_rfl) Try.func3 (by kernel_rfl)
    (of_decide_eq_true (by kernel_rfl)) (by unfold Func.isWrapper; first | (rw [if_pos (by decide +kernel)]; kernel_rfl) | (rw [if_neg (by decide +kernel)]; exact ⟨rfl, rfl⟩))
    (fun os started H enc _ F => lifted os started H enc F)

theorem proved : Rows.CacheLastUptoSaid :=
  over
end Go.Proofs.Ytacnieopbkeoiaa.cacheLast
