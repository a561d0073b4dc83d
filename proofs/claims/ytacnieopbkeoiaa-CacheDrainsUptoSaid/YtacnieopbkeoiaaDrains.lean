/-
  CacheDrains: the walk over the law's own loops.
-/
import Derived.Test.YtacnieopbkeoiaaNext
import Derived.Test.YtacnieopbkeoiaaLast
import Derived.Test.YtacnieopbkeoiaaFDrains
namespace Go.Proofs
open Go Go.Ev Go.RowKit
set_option linter.unusedSimpArgs false
set_option linter.unusedVariables false
set_option maxRecDepth 100000

theorem Sl.ldS {W : World} {xp : Option Addr} {l : Nat} {g : Nat → List Value} (h : Sl W 1 xp l g) {i : Int} (h0 : 0 ≤ i) (h1 : i < l) {v : Value} (hg : g i.toNat = [v]) {K : Value → Prop} (hK : K v) :
    IdxS xp l i 1 fun b o => LdV b o (fun w' => Sl w' 1 xp l g) K := by
  obtain ⟨h2, b, o, rfl, h3⟩ := h i.toNat (by omega)
  refine ⟨b, o, rfl, h0, h1, ⟨v, fun w' hw' => ?_, hK⟩⟩
  obtain ⟨_, b', o', hp, h4⟩ := hw' i.toNat (by omega)
  cases hp
  have := h4 0 (by omega)
  rw [hg] at this
  simpa using this

namespace Drains
def verOf (es : List (Int × Ent)) (x : Int) : Int := match mlook es x with
  | some e => e.2
  | none => 0
def row (es : List (Int × Ent)) : Nat → Value := fun j => .int .u64 (verOf es j)
def Good (es : List (Int × Ent)) (i : Int) : Prop := ∀ x e, mlook es x = some e → e.1 = sec [x, IntKind.wrap .u8 e.2] ∧ 1 ≤ e.2 ∧ e.2 ≤ i ∧ 0 ≤ x ∧ x ≤ 255
def Dist (es : List (Int × Ent)) : Prop := ∀ x y e f, mlook es x = some e → mlook es y = some f → e.2 = f.2 → x = y
theorem ver_ins (es : List (Int × Ent)) (x v y : Int) (s : Sec) : verOf (ins es x (s, v)) y = if y = x then v else verOf es y := by
  unfold verOf
  rw [look_ins]
  by_cases h : y = x <;> simp [h]
theorem row_ins (es : List (Int × Ent)) {x : Int} (hx : 0 ≤ x) (v : Int) (s : Sec) : (fun j => if j = x.toNat then Value.int .u64 v else row es j) = row (ins es x (s, v)) := by
  funext j
  unfold row
  rw [ver_ins]
  by_cases h : j = x.toNat
  · rw [if_pos h, if_pos (by omega)]
  · rw [if_neg h, if_neg (by omega)]
theorem good_ins {es : List (Int × Ent)} {i : Int} (h : Good es i) (hi : 0 ≤ i) {x : Int} (hx : 0 ≤ x ∧ x ≤ 255) : Good (ins es x (sec [x, IntKind.wrap .u8 (i + 1)], i + 1)) (i + 1) := by
  intro y e he
  rw [look_ins] at he
  split at he
  · rename_i hy; subst hy; cases he; exact ⟨rfl, by simp; omega, by simp, hx.1, hx.2⟩
  · obtain ⟨a, b, c, d⟩ := h y e he; exact ⟨a, b, by omega, d⟩
theorem dist_ins {es : List (Int × Ent)} {i : Int} (h : Dist es) (hg : Good es i) {x : Int} (s : Sec) : Dist (ins es x (s, i + 1)) := by
  intro a b e f ha hb hef
  rw [look_ins] at ha hb
  split at ha <;> split at hb
  · rename_i h1 h2; rw [h1, h2]
  · rename_i h1 h2; cases ha; have := (hg b f hb).2.2.1; simp only at hef; omega
  · rename_i h1 h2; cases hb; have := (hg a e ha).2.2.1; simp only at hef; omega
  · exact h a b e f ha hb hef
structure Inv (W : World) (c m p : Nat) (es : List (Int × Ent)) (nn i : Int) (w : World) : Prop where
  cache : CacheAt w c m 64 es
  top : Has w p (.cells (ofF 256 (row es)) 32 (0, 0))
  good : Good es i
  dist : Dist es
  nn : nn = es.length
  le : (es.length : Int) ≤ 64
  i0 : 0 ≤ i
  keep : Keep (fun _ => False) W w
theorem put_ok {es : List (Int × Ent)} {i : Int} (h : Good es i) {x : Int} (hx : 0 ≤ x ∧ x ≤ 255) :
    putE 64 es x (i + 1) = if verOf es x = 0 ∧ 64 ≤ (es.length : Int) then 9 else 0 := by
  unfold putE verOf
  rw [if_neg (by omega)]
  cases hl : mlook es x with
  | none => simp
  | some e =>
    obtain ⟨_, a, b, _⟩ := h x e hl
    simp only
    rw [if_neg (by omega), if_neg (by omega)]
theorem len_put {es : List (Int × Ent)} {i : Int} (h : Good es i) {x : Int} (v : Ent) : ((ins es x v).length : Int) = if verOf es x = 0 then (es.length : Int) + 1 else es.length := by
  rw [length_ins]
  unfold verOf
  cases hl : mlook es x with
  | none => simp
  | some e => have := h x e hl; simp; omega
end Drains
open Drains

theorem drains_walk {lp : Option Addr} {ll lc : Nat} {gl : Nat → List Value} {W : World} (hll : ll ≤ maxLen) (hl : Sl W 1 lp ll gl) (fl : ∀ i, i < ll → Fits [.int .u8] (gl i)) :
    CallV Try.prog 9 #[.slice lp ll lc] W fun v w' => v = .bool true ∧ Below W.heap.size W w' := by
  apply C_ravelinlaw11_CacheDrains
  unfold F_ravelinlaw11_CacheDrains
  have hmax : ll ≤ 9223372036854775807 := by simpa [maxLen] using hll
  refine cache_New (by decide) (by decide) fun c m w1 hC k1 hcs hms => ?_
  simp only [T2_mk, OpP_some, OpI_int]
  refine law11_awake fun w2 k2 => ?_
  simp only [OpB_bool, Req_true, Req_rfl]
  rw [show (cond (cond (!true) true ((0 : Int) != 0)) true false) = false from rfl, Cb_false]
  have hC2 := hC.keep k2 (by simp) (by simp)
  have k12 := k1.trans k2
  refine ⟨_, _, run_make (P := Try.prog) w2 69 32 ((Try.prog.info? 32).get (by kernel_rfl)) (.int .u64 0) (by kernel_rfl) (by kernel_rfl) (by kernel_rfl) .i64 .i64 256 256 (by decide) (by decide) (by decide +kernel) (by decide), ?_⟩
  simp only [OpS_slice]
  have e256 : (256 : Int).toNat = 256 := rfl
  rw [e256]
  have hrow0 : madeCells (Value.int .u64 0).cells (256 * ((Try.prog.info? 32).get (by kernel_rfl)).size) = ofF 256 (row []) := by
    rw [show ((Try.prog.info? 32).get (by kernel_rfl)).size = 1 by kernel_rfl, Nat.mul_one]
    exact madeCells_one _ _
  rw [hrow0]
  have hp := Has.new w2 (.cells (ofF 256 (row [])) 32)
  have k13 := k12.alloc (.cells (ofF 256 (row [])) 32)
  have hC3 := hC2.keep (w' := w2.alloc (.cells (ofF 256 (row [])) 32)) (Keep.new (fun _ => False) w2 _) (by simp) (by simp)
  have hpc : c < w2.heap.size := hC2.lt.1
  have hpm : m < w2.heap.size := hC2.lt.2
  have hpW : W.heap.size ≤ w2.heap.size := k12.size
  generalize hw3 : w2.alloc (.cells (ofF 256 (row [])) 32) = w3 at *
  generalize hpn : w2.heap.size = p at *
  refine ⟨fun (s : Int × Unit) w' => ∃ es, ∃ i, Inv W c m p es s.1 i w', ?_, ?_⟩
  · refine LoopC_of (σ := Int × Int × Unit) (fun s w' => s.2.1 ≤ ll ∧ ∃ es, Inv W c m p es s.1 s.2.1 w') (fun s _ => (ll - s.2.1).toNat)
      ⟨by simp, [], hC3, hp, fun x e h => by simp [mlook] at h, fun x y e f h => by simp [mlook] at h, by simp, by simp, by simp, k13⟩ ?_
    intro j s w h
    obtain ⟨nn, i, u⟩ := s
    obtain ⟨hil, es, hI⟩ := h
    simp only at hil ⊢
    obtain ⟨hca, htop, hgood, hdist, hnn, hle, hi0, hk⟩ := hI
    simp only at hnn hi0 hgood
    refine Cb_of (fun hc1 => ?_) (fun hc1 => ?_)
    · simp only [decide_eq_true_eq] at hc1
      obtain ⟨x, hgx, hx0, hx1⟩ := Last.byte_of (fl i.toNat (by omega))
      intro d
      have hld := hl.keep (hk.dr d) (by simp)
      refine ⟨fun w' => Sl w' 1 lp ll gl, hld, ?_⟩
      refine hld.ldS hi0 hc1 hgx ?_
      simp only [OpI_int]
      refine hld.ldS hi0 hc1 hgx ?_
      simp only [OpI_int]
      have ew1 : IntKind.wrap .i64 x = x := wrapI (by omega) (by omega)
      have ew2 : IntKind.wrap .u64 i = i := wrapU64 (by omega) (by omega)
      have ew3 : IntKind.wrap .u64 (i + 1) = i + 1 := wrapU64 (by omega) (by omega)
      have ew5 : IntKind.wrap .i64 (i + 1) = i + 1 := wrapI (by omega) (by omega)
      simp only [ew1, ew2, ew3, ew5]
      refine ⟨_, fun w' _ => bld_sec2 _ _ _, ?_⟩
      simp only [OpA_agg]
      refine ⟨rfl, ?_⟩
      refine cache_Put (hca.keep (Keep.drew (fun _ => False) w d) (by simp) (by simp)) fun w4 k4 hC4 => ?_
      have htop4 := k4.has (htop.dr d) (by omega)
      have hk4 : Keep (fun _ => False) W w4 := (hk.dr d).trans' k4 (fun k hk e => by omega)
      have hl4 := hl.keep hk4 (by simp)
      simp only [OpI_int]
      refine ⟨hl4, ?_⟩
      have hrow : row es x.toNat = .int .u64 (verOf es x) := by unfold row; rw [Int.toNat_of_nonneg hx0]
      have hq := put_ok hgood ⟨hx0, hx1⟩
      have hlp := len_put hgood (x := x) (sec [x, IntKind.wrap .u8 (i + 1)], i + 1)
      have hgi := good_ins hgood hi0 ⟨hx0, hx1⟩
      have hdi := dist_ins hdist hgood (x := x) (sec [x, IntKind.wrap .u8 (i + 1)])
      have hri := row_ins es hx0 (i + 1) (sec [x, IntKind.wrap .u8 (i + 1)])
      simp only [ld_own htop4 hx0 (show x < ((256 : Nat) : Int) by omega), st_own htop4 hx0 (show x < ((256 : Nat) : Int) by omega), hl4.ld_iff hi0 hc1 hgx, hrow, OpI_int, hri]
      generalize verOf es x = T at *
      generalize putE 64 es x (i + 1) = q at *
      have fin : ∀ nn' es' w', Inv W c m p es' nn' (i + 1) w' → (∃ m', m' < (ll - i).toNat ∧ ((i + 1 ≤ ll ∧ ∃ es, Inv W c m p es nn' (i + 1) w') ∧ (ll - (i + 1)).toNat = m')) :=
        fun nn' es' w' h => ⟨_, by omega, ⟨by omega, es', h⟩, rfl⟩
      by_cases hf : T = 0 ∧ 64 ≤ (es.length : Int)
      · rw [if_pos hf] at hq
        subst hq
        rw [if_neg (by decide)] at hC4
        have en : (nn != 64) = false := by simp; omega
        have et : (T != 0) = false := by simp [hf.1]
        simp only [show ((9 : Int) == 0) = false from rfl, show ((9 : Int) != 0) = true from rfl, show ((9 : Int) != 9) = false from rfl, en, et, Cb_true, Cb_false]
        exact fin _ es _ ⟨hC4, htop4, fun x e h => by obtain ⟨a, b, c, d⟩ := hgood x e h; exact ⟨a, b, by omega, d⟩, hdist, hnn, hle, by omega, hk4⟩
      · rw [if_neg hf] at hq
        subst hq
        rw [if_pos rfl] at hC4
        by_cases hT : T = 0
        · have et : (T == 0) = true := by simp [hT]
          have ew6 : IntKind.wrap .i64 (nn + 1) = nn + 1 := wrapI (by omega) (by omega)
          simp only [show ((0 : Int) == 0) = true from rfl, show ((0 : Int) != 0) = false from rfl, et, Cb_true, Cb_false, ew6]
          refine ⟨rfl, fin _ (ins es x (sec [x, IntKind.wrap .u8 (i + 1)], i + 1)) _ ⟨hC4.keep (Keep.one w4 p _) (by omega) (by omega), htop4.upd_same _, hgi, hdi, ?_, ?_, by omega, hk4.upd (by omega) _⟩⟩
          · rw [hlp, if_pos hT]; omega
          · rw [hlp, if_pos hT]; omega
        · have et : (T == 0) = false := by simp [hT]
          simp only [show ((0 : Int) == 0) = true from rfl, show ((0 : Int) != 0) = false from rfl, et, Cb_true, Cb_false]
          refine ⟨rfl, fin _ (ins es x (sec [x, IntKind.wrap .u8 (i + 1)], i + 1)) _ ⟨hC4.keep (Keep.one w4 p _) (by omega) (by omega), htop4.upd_same _, hgi, hdi, ?_, ?_, by omega, hk4.upd (by omega) _⟩⟩
          · rw [hlp, if_neg hT]; exact hnn
          · rw [hlp, if_neg hT]; exact hle
    · exact ⟨es, i, hca, htop, hgood, hdist, hnn, hle, hi0, hk⟩
  · intro j s w h
    obtain ⟨nn, u⟩ := s
    obtain ⟨es, i, hI⟩ := h
    simp only at hI ⊢
    obtain ⟨hca, htop, hgood, hdist, hnn, hle, hi0, hk⟩ := hI
    refine LoopC_of (σ := Int × Int × Unit) (fun s w' => ∃ es', CacheAt w' c m 64 es' ∧ (es'.length : Int) = nn - s.2.1 ∧ 0 ≤ s.2.1 ∧ (∀ x e, mlook es' x = some e → mlook es x = some e ∧ s.1 < e.2) ∧
        Has w' p (.cells (ofF 256 (row es)) 32 (0, 0)) ∧ Keep (fun _ => False) W w') (fun s _ => (nn - s.2.1).toNat)
      ⟨es, hca, by simp [hnn], by simp, fun x e h => ⟨h, by have := hgood x e h; simp only; omega⟩, htop, hk⟩ ?_
    clear hca htop hk
    intro j s w h
    obtain ⟨old, k, u⟩ := s
    obtain ⟨es', hca, hlen, h0, hes, htop, hk⟩ := h
    simp only at hlen h0 hes ⊢
    refine Cb_of (fun hc => ?_) (fun hc => ?_)
    · simp only [decide_eq_true_eq] at hc
      have hnd := hca.nodup
      refine cache_Next hca (by omega) (fun w' he _ => ?_) fun pr w1 hpm hmin k1 => ?_
      · exfalso; rw [he] at hlen; simp at hlen; omega
      obtain ⟨x, e⟩ := pr
      have hlx := mem_mlook hnd hpm
      obtain ⟨hlo, hold⟩ := hes x e hlx
      obtain ⟨g1, g2, g3, g4, g5⟩ := hgood x e hlo
      simp only [T2_mk, OpA_agg, OpI_int]
      refine ⟨rfl, ?_⟩
      rw [Alc_iff]
      refine StA_all (Has.new _ _) rfl (by rw [zc_rec']; rfl) (one_recV' _) ?_
      have hb := (Has.new w1 (.cells (zc Try.prog 42) 42)).upd_same (.cells (recV (recOf (x, e))) 42)
      have s1 := k1.size
      have kk : Keep (fun _ => False) w _ := (k1.alloc (.cells (zc Try.prog 42) 42)).upd (k := w1.heap.size) (by omega) (.cells (recV (recOf (x, e))) 42)
      generalize (w1.alloc (.cells (zc Try.prog 42) 42)).upd w1.heap.size (.cells (recV (recOf (x, e))) 42) = w2 at *
      have hca2 := hca.keep kk (by simp) (by simp)
      have htop2 := kk.has htop (by simp)
      have hk2 := hk.trans kk
      have hrow : row es x.toNat = .int .u64 e.2 := by unfold row verOf; rw [Int.toNat_of_nonneg g4, hlo]
      rw [show ((0 : Int) != 0) = false from rfl, Cb_false]
      refine LdV_has (v := .int .u64 e.2) hb rfl ?_
      simp only [OpI_int]
      rw [show decide (e.2 ≤ old) = false by simp; omega, Cb_false]
      refine LdV_has (v := .int .i64 x) hb rfl ?_
      simp only [OpI_int]
      rw [show decide (x < 0) = false by simp; omega, Cb_false]
      refine LdV_has (v := .int .i64 x) hb rfl ?_
      simp only [OpI_int]
      rw [show decide (x > 255) = false by simp; omega, Cb_false]
      refine LdV_has (v := .int .i64 x) hb rfl ?_
      simp only [OpI_int]
      refine (ld_own htop2 g4 (show x < ((256 : Nat) : Int) by omega)).2 ?_
      simp only [hrow, OpI_int]
      refine LdV_has (v := .int .u64 e.2) hb rfl ?_
      simp only [OpI_int]
      rw [show (e.2 != e.2) = false by simp, Cb_false]
      refine LdV_has (v := .int .i64 1) hb rfl ?_
      simp only [OpI_int]
      intro d
      rw [show ((1 : Int) != 1) = false from rfl, Cb_false]
      have hb3 := hb.dr d
      have hca3 := hca2.keep (Keep.drew (fun _ => False) w2 d) (by simp) (by simp)
      have htop3 := htop2.dr d
      have hk3 := hk2.dr d
      generalize w2.dr d = w3 at *
      refine LdV_has (v := .int .i64 x) hb3 rfl ?_
      simp only [OpI_int]
      refine LdV_has (v := .int .u64 e.2) hb3 rfl ?_
      simp only [OpI_int]
      refine DoQ_of (fun d => bld_sec2 _ _ _) ?_
      simp only [OpA_agg]
      refine ⟨rfl, ?_⟩
      rw [Alc_iff]
      refine StA_all (Has.new _ _) rfl (by rw [zc_sec]; rfl) (one_secV _) ?_
      have hbs := (Has.new w3 (.cells (zc Try.prog 31) 31)).upd_same (.cells (secV (sec [IntKind.wrap .u8 x, IntKind.wrap .u8 e.2])) 31)
      have hb4 := (hb3.alloc (y := .cells (zc Try.prog 31) 31)).upd (y := .cells (secV (sec [IntKind.wrap .u8 x, IntKind.wrap .u8 e.2])) 31) hb3.ne_new
      have k4 : Keep (fun _ => False) w3 _ := (Keep.new (fun _ => False) w3 (.cells (zc Try.prog 31) 31)).upd (k := w3.heap.size) (by omega) (.cells (secV (sec [IntKind.wrap .u8 x, IntKind.wrap .u8 e.2])) 31)
      generalize (w3.alloc (.cells (zc Try.prog 31) 31)).upd w3.heap.size (.cells (secV (sec [IntKind.wrap .u8 x, IntKind.wrap .u8 e.2])) 31) = w4 at *
      refine LdA_has (cs := secV e.1) hb4 (by simp) rfl ?_
      refine LdA_all hbs rfl ?_
      have hw8 : 0 ≤ IntKind.wrap .u8 e.2 ∧ IntKind.wrap .u8 e.2 ≤ 255 := by
        have := wf_wrap .u8 e.2
        simpa [Lit.wf, IntKind.min, IntKind.max, IntKind.signed, IntKind.bits] using this
      have hx8 : IntKind.wrap .u8 x = x := wrapU8 (by omega) (by omega)
      have hok : SecOk (sec [x, IntKind.wrap .u8 e.2]) := sec_ok (by simp; omega)
      rw [hx8]
      refine EqB_sec_ne (by rw [g1]; exact hok) hok fun r hr => ?_
      have hrf : r = false := by
        cases r
        · rfl
        · exact absurd g1 (hr.1 rfl)
      rw [hrf, Cb_false]
      have hca4 := hca3.keep k4 (by simp) (by simp)
      have htop4 := k4.has htop3 (by simp)
      have hk4 := hk3.trans k4
      refine LdV_has (v := .int .i64 x) hb4 rfl ?_
      simp only [OpI_int]
      refine LdV_has (v := .int .u64 e.2) hb4 rfl ?_
      simp only [OpI_int]
      have hcl : cleanE es' x e.2 = 0 := by simp [cleanE, hlx]
      refine cache_Clean hca4 fun w5 k5 hC5 => ?_
      rw [hcl]
      rw [if_pos hcl] at hC5
      simp only [OpI_int]
      rw [show ((0 : Int) != 0) = false from rfl, Cb_false]
      have hb5 := k5.has hb4 (by have := hca4.lt; have := hca.lt; omega)
      refine LdV_has (v := .int .u64 e.2) hb5 rfl ?_
      simp only [OpI_int]
      have ew : IntKind.wrap .i64 (k + 1) = k + 1 := wrapI (by omega) (by omega)
      rw [ew]
      refine ⟨_, by omega, ⟨del es' x, hC5, ?_, by omega, ?_, k5.has htop4 (by omega), hk4.trans' k5 (fun k hk e => by omega)⟩, rfl⟩
      · rw [length_del hnd, hlx]
        have : 1 ≤ es'.length := by
          cases es' with
          | nil => simp at hpm
          | cons a b => simp
        simp only [Option.isSome_some, if_true]
        omega
      · intro y f hy
        rw [look_del] at hy
        split at hy
        · cases hy
        · rename_i hyx
          obtain ⟨a, b⟩ := hes y f hy
          refine ⟨a, ?_⟩
          have hm := hmin (y, f) (mlook_mem hy)
          rw [cmpR_lt] at hm
          simp only [recOf] at hm
          have hne : e.2 ≠ f.2 := fun h => hyx (hdist y x f e a hlo h.symm)
          show e.2 < f.2
          omega
    · simp only [decide_eq_false_iff_not] at hc
      refine cache_Len hca ?_
      simp only [OpI_int, Ret_nil]
      have : (es'.length : Int) = 0 := by omega
      rw [this]
      exact ⟨rfl, hk.below⟩
end Go.Proofs
