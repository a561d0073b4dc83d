/-
  SECTORS, BY THEIR BYTES: bytes.Compare of two, slices.SortFunc with it, slices.Contains.
-/
import Derived.Test.YtdjlmpkjdgmkkaaHistL
import Derived.Test.YtdjlmpkjdgmkkaaSortS
import Derived.Test.YtdjlmpkjdgmkkaaFLast
import Derived.Shelf.SlSortCmp.NoneTotal
import Derived.Lib.BytesEntry
import Derived.Laws.Externs
import Derived.Sort.Grow
import Derived.Deep.Draws
namespace Go.Proofs
open Go Go.Ev Go.Sort
set_option linter.unusedSimpArgs false
set_option linter.unusedVariables false
set_option maxRecDepth 100000

/-! ### the order of bytes -/
theorem cb_anti : ∀ a b : List UInt8, Lib.compareBytes b a = - Lib.compareBytes a b
  | [], [] => rfl
  | [], _ :: _ => rfl
  | _ :: _, [] => rfl
  | a :: xs, b :: ys => by
    have ih := cb_anti xs ys
    simp only [Lib.compareBytes, UInt8.lt_iff_toNat_lt]
    by_cases h1 : a.toNat < b.toNat
    · rw [if_pos h1, if_neg (by omega), if_pos h1]; rfl
    · by_cases h2 : b.toNat < a.toNat
      · rw [if_pos h2, if_neg h1, if_pos h2]
      · rw [if_neg h1, if_neg h2, if_neg h2, if_neg h1]; exact ih
theorem cb_trans : ∀ a b c : List UInt8, Lib.compareBytes a b ≤ 0 → Lib.compareBytes b c ≤ 0 → Lib.compareBytes a c ≤ 0 ∧ (Lib.compareBytes a b < 0 ∨ Lib.compareBytes b c < 0 → Lib.compareBytes a c < 0)
  | [], [], [], _, _ => by simp [Lib.compareBytes]
  | [], [], _ :: _, _, _ => by simp [Lib.compareBytes]
  | [], _ :: _, [], _, h => by simp [Lib.compareBytes] at h
  | [], _ :: _, _ :: _, _, _ => by simp [Lib.compareBytes]
  | _ :: _, [], _, h, _ => by simp [Lib.compareBytes] at h
  | _ :: _, _ :: _, [], _, h => by simp [Lib.compareBytes] at h
  | a :: xs, b :: ys, c :: zs, h1, h2 => by
    have ih := cb_trans xs ys zs
    simp only [Lib.compareBytes, UInt8.lt_iff_toNat_lt] at h1 h2 ⊢
    by_cases a1 : a.toNat < b.toNat
    · by_cases b1 : b.toNat < c.toNat
      · rw [if_pos (show a.toNat < c.toNat by omega)]; exact ⟨by decide, fun _ => by decide⟩
      · by_cases b2 : c.toNat < b.toNat
        · rw [if_neg b1, if_pos b2] at h2; exact absurd h2 (by decide)
        · rw [if_pos (show a.toNat < c.toNat by omega)]; exact ⟨by decide, fun _ => by decide⟩
    · by_cases a2 : b.toNat < a.toNat
      · rw [if_neg a1, if_pos a2] at h1; exact absurd h1 (by decide)
      · rw [if_neg a1, if_neg a2] at h1 ⊢
        by_cases b1 : b.toNat < c.toNat
        · rw [if_pos (show a.toNat < c.toNat by omega)]; exact ⟨by decide, fun _ => by decide⟩
        · by_cases b2 : c.toNat < b.toNat
          · rw [if_neg b1, if_pos b2] at h2; exact absurd h2 (by decide)
          · rw [if_neg b1, if_neg b2] at h2 ⊢
            rw [if_neg (show ¬ a.toNat < c.toNat by omega), if_neg (show ¬ c.toNat < a.toNat by omega)]
            exact ih h1 h2
theorem cb_zero : ∀ a b : List UInt8, Lib.compareBytes a b = 0 → a = b
  | [], [], _ => rfl
  | [], _ :: _, h => by simp [Lib.compareBytes] at h
  | _ :: _, [], h => by simp [Lib.compareBytes] at h
  | a :: xs, b :: ys, h => by
    simp only [Lib.compareBytes, UInt8.lt_iff_toNat_lt] at h
    by_cases h1 : a.toNat < b.toNat
    · rw [if_pos h1] at h; cases h
    · by_cases h2 : b.toNat < a.toNat
      · rw [if_neg h1, if_pos h2] at h; cases h
      · rw [if_neg h1, if_neg h2] at h
        have e : a = b := UInt8.toNat_inj.1 (by omega)
        rw [e, cb_zero xs ys h]
def secL (f : Sec) : List Int := [f 0, f 1, f 2, f 3, f 4, f 5, f 6, f 7, f 8, f 9, f 10, f 11, f 12, f 13, f 14, f 15]
def seL (f : Sec) : List Value := (secV f).toList
@[simp] theorem len_seL (f : Sec) : (seL f).length = 16 := rfl
theorem seL_eq (f : Sec) : seL f = (secL f).map fun x => Value.int .u8 x := rfl
theorem one_seL (f : Sec) : ∀ v ∈ seL f, v.oneCell' = true := fun v hv => oneCell_of (one_secV f v hv)
def cmpS (f g : Sec) : Int := Lib.compareBytes (Lib.bytesOf (secL f)) (Lib.bytesOf (secL g))
theorem cmpS_anti (f g : Sec) : cmpS g f = - cmpS f g := cb_anti _ _
theorem cmpS_self (f : Sec) : cmpS f f = 0 := by have := cmpS_anti f f; omega
theorem cmpS_zero {f g : Sec} (hf : SecOk f) (hg : SecOk g) (h : cmpS f g = 0) : f = g := by
  have := cb_zero _ _ h
  unfold Lib.bytesOf secL at this
  simp only [List.map_cons, List.map_nil, List.cons.injEq, and_true] at this
  have one : ∀ i, UInt8.ofNat (f i).toNat = UInt8.ofNat (g i).toNat → f i = g i := by
    intro i h
    have h1 := hf i
    have h2 := hg i
    have h3 := congrArg UInt8.toNat h
    rw [UInt8.toNat_ofNat', UInt8.toNat_ofNat', Nat.mod_eq_of_lt (by omega), Nat.mod_eq_of_lt (by omega)] at h3
    omega
  obtain ⟨h0, h1, h2, h3, h4, h5, h6, h7, h8, h9, h10, h11, h12, h13, h14, h15⟩ := this
  apply secV_inj
  unfold secV
  rw [one _ h0, one _ h1, one _ h2, one _ h3, one _ h4, one _ h5, one _ h6, one _ h7, one _ h8, one _ h9, one _ h10, one _ h11, one _ h12, one _ h13, one _ h14, one _ h15]
theorem cmpS_trans {f g h : Sec} (h1 : cmpS f g < 0) (h2 : cmpS g h < 0) : cmpS f h < 0 := (cb_trans _ _ _ (Int.le_of_lt h1) (Int.le_of_lt h2)).2 (Or.inl h1)
theorem swo_cmpS : SWO (ltOf cmpS) where
  irrefl x := by simp [ltOf, cmpS_self]
  trans x y z h1 h2 := by simp only [ltOf, decide_eq_true_eq] at *; exact cmpS_trans h1 h2
  ntrans x y z h1 h2 := by
    simp only [ltOf, decide_eq_false_iff_not] at *
    have a1 : cmpS y x ≤ 0 := by have := cmpS_anti x y; omega
    have a2 : cmpS z y ≤ 0 := by have := cmpS_anti y z; omega
    have := (cb_trans _ _ _ a2 a1).1
    have e := cmpS_anti x z
    have h3 : cmpS z x ≤ 0 := this
    omega

/-! ### bytes.Compare -/
theorem sec_cells {w : World} {b : Nat} {f : Sec} {t : TypeId} {g : Nat × Nat} (h : Has w b (.cells (secV f) t g)) : ∀ j x, (secL f)[j]? = some x → w.cell? ((⟨b, 0, none⟩ : Addr).add j) = some (.int .u8 x) := by
  intro j x hx
  rw [add_add, Nat.zero_add, cell_of h, ← Array.getElem?_toList]
  show (seL f)[j]? = _
  rw [seL_eq, List.getElem?_map, hx]; rfl
theorem run_cmpb {w : World} {b1 b2 : Nat} {f g : Sec} {t1 t2 : TypeId} {g1 g2 : Nat × Nat} (h1 : Has w b1 (.cells (secV f) t1 g1)) (h2 : Has w b2 (.cells (secV g) t2 g2)) (c1 c2 : Nat) :
    (callFunc 69 #[.slice (some ⟨b1, 0, none⟩) 16 c1, .slice (some ⟨b2, 0, none⟩) 16 c2]).run Try.prog w = .ok (.value (.int .i64 (cmpS f g))) w := by
  have l1 := Lib.run_loadBytesX (P := Try.prog) w (secL f) ⟨b1, 0, none⟩ .empty (sec_cells h1)
  have l2 := Lib.run_loadBytesX (P := Try.prog) w (secL g) ⟨b2, 0, none⟩ .empty (sec_cells h2)
  have e1 : (secL f).length = 16 := rfl
  have e2 : (secL g).length = 16 := rfl
  rw [e1] at l1
  rw [e2] at l2
  rw [run_callFunc_extern Try.func69 (by kernel_rfl) (by kernel_rfl) (by kernel_rfl) (e := Extern.BytealgCompare.compare) (by kernel_rfl)]
  have e : Extern.BytealgCompare.compare #[.slice (some ⟨b1, 0, none⟩) 16 c1, .slice (some ⟨b2, 0, none⟩) 16 c2] = (do
    let x ← Extern.Bytes.loadBytes ⟨b1, 0, none⟩ 16 .empty
    let y ← Extern.Bytes.loadBytes ⟨b2, 0, none⟩ 16 .empty
    pure (goInt (Extern.BytealgCompare.cmp x y))) := rfl
  rw [e]
  simp only [Sem.run_bind, l1, l2, Result.andThen_ok, Sem.run_pure, Lib.cmp_eq]
  unfold cmpS goInt
  simp
theorem cmp_last (f g : Sec) (w : World) : Calls Try.prog 59 #[.agg (secV f), .agg (secV g)] w fun e w' => e = .returned (.int .i64 (cmpS f g)) ∧ ∃ q os, w' = grow (w.drewN q) os := by
  have key : CallV Try.prog 59 #[.agg (secV f), .agg (secV g)] w fun v w' => v = .int .i64 (cmpS f g) ∧ ∃ q os, w' = grow (w.drewN q) os := by
    apply C_LastCmp
    unfold F_LastCmp
    rw [Alc_iff, Alc_iff]
    have ha := (Has.new w (.cells (secV f) 23)).alloc (y := .cells (secV g) 23)
    have hb := Has.new (w.alloc (.cells (secV f) 23)) (.cells (secV g) 23)
    have hg : ∀ d, w.drawn ≤ d → ((w.alloc (.cells (secV f) 23)).alloc (.cells (secV g) 23)).dr d = grow (w.drewN (d - w.drawn)) #[.cells (secV f) 23, .cells (secV g) 23] := by
      intro d hd
      have : w.drawn + (d - w.drawn) = d := by omega
      unfold World.dr World.alloc grow World.drewN
      simp only [this]
      congr 1
    generalize hw2 : (w.alloc (.cells (secV f) 23)).alloc (.cells (secV g) 23) = w2 at *
    have hdr : w2.drawn = w.drawn := by rw [← hw2]; rfl
    intro d hd
    rw [hdr] at hd
    refine ⟨fun _ => True, trivial, ?_⟩
    refine ⟨by decide, by decide, by decide, by decide, ?_⟩
    refine ⟨by decide, by decide, by decide, by decide, ?_⟩
    refine C_bytes_Compare ?_
    unfold F_bytes_Compare
    refine ⟨_, _, run_cmpb (ha.dr d) (hb.dr d) _ _, ?_⟩
    simp only [OpI_int, Ret_nil]
    exact ⟨trivial, by trivial, d - w.drawn, _, hg d hd⟩
  exact Calls.mono key fun e w' ⟨v, he, hv, hw⟩ => by subst hv; exact ⟨he, hw⟩

/-! ### slices.SortFunc -/
theorem flatMap_rows (d : List Sec) : d.flatMap seL = (d.map seL).flatten := by rw [List.flatMap_def]
theorem rows_len (d : List Sec) : ∀ r ∈ d.map seL, r.length = 16 := by
  intro r hr
  obtain ⟨x, _, rfl⟩ := List.mem_map.1 hr
  rfl
theorem get_flat {d : Array Sec} {t : Nat} (h : t < d.size * 16) : (d.toList.flatMap seL)[t]? = some ((flatK seL 16 d)[t]!) := by
  rw [get_flatK _ _ _ _ h]
  have h1 : t / 16 < d.size := by omega
  have h2 : t % 16 < 16 := by omega
  have hg := get_rows (rows_len d.toList) (i := t / 16) (r := seL d[t / 16]) (by simp [h1]) (t % 16) h2
  rw [flatMap_rows]
  have e : t / 16 * 16 + t % 16 = t := by omega
  rw [e] at hg
  rw [hg, getElem!_pos d (t / 16) h1]
  have h3 : t % 16 < (seL d[t / 16]).length := by simpa using h2
  rw [List.getElem?_eq_getElem h3, getElem!_pos (seL d[t / 16]) (t % 16) h3]

theorem swk_own {w : World} {base : Nat} {T : TypeId} {b l c : Nat} {xs : List Value} (h : Own w base T 16 (some ⟨b, 0, none⟩) l c xs) (d : Array Sec) (hd : d.size = l) (n : Nat) (os : Array Obj) :
    Own (sortWorldK seL 16 w b 0 n d os) base T 16 (some ⟨b, 0, none⟩) l c (d.toList.flatMap seL) ∧ Keep (fun k => k = b) w (sortWorldK seL 16 w b 0 n d os) := by
  rcases h.cases with ⟨h, _⟩ | ⟨b', cur, hp, hb, hg, hle, hm, hs, ht⟩
  · cases h
  cases hp
  have hbs := hg.lt
  have hh : ∀ k, k < w.heap.size → (sortWorldK seL 16 w b 0 n d os).heap[k]? = (if b = k then (w.heap[k]?).map (onCells (putCells id 0 (flatK seL 16 d))) else w.heap[k]?) := by
    intro k hk
    show ((w.heap.modify b (onCells (putCells id 0 (flatK seL 16 d)))) ++ os)[k]? = _
    rw [Array.getElem?_append_left (by simpa using hk), Array.getElem?_modify]
  refine ⟨Own.mk (cur := putCells id 0 (flatK seL 16 d) cur) hb ?_ hle hm (by simp [putCells, hs]) ?_, ⟨rfl, rfl, rfl, ?_, fun k hk hS => ?_⟩⟩
  · unfold Has
    rw [hh b hbs, if_pos rfl]
    unfold Has at hg
    rw [hg]
    rfl
  · apply List.ext_getElem?
    intro i
    by_cases hi : i < l * 16
    · rw [List.getElem?_take_of_lt hi, get_flat (by rw [hd]; exact hi)]
      have hc : i < cur.size := by rw [hs]; have : l * 16 ≤ c * 16 := Nat.mul_le_mul_right _ hle; omega
      rw [Array.getElem?_toList]
      unfold putCells
      rw [Array.getElem?_mapIdx, Array.getElem?_eq_getElem hc]
      simp [hd, hi]
    · rw [List.getElem?_eq_none (by rw [List.length_take]; omega), List.getElem?_eq_none]
      rw [flatMap_rows, length_rows (rows_len _)]
      simp [hd]; omega
  · show w.heap.size ≤ ((w.heap.modify b _) ++ os).size
    simp
  · rw [hh k hk, if_neg (fun e => hS e.symm)]

theorem cmpLays_of {g : Nat} (hg : ∀ (r s : Sec) (w : World), Calls Try.prog g #[.agg (secV r), .agg (secV s)] w fun e w' => e = .returned (.int .i64 (cmpS r s)) ∧ ∃ q os, w' = grow (w.drewN q) os) (blk off size : Nat) (w : World) :
    CmpLays Try.prog g #[] seL 16 cmpS blk off size w := fun m os dk _ x y => hg x y _

/-- slices.SortFunc of sectors -/
theorem sort_secs {g : Nat} (hg : ∀ (r s : Sec) (w : World), Calls Try.prog g #[.agg (secV r), .agg (secV s)] w fun e w' => e = .returned (.int .i64 (cmpS r s)) ∧ ∃ q os, w' = grow (w.drewN q) os)
    (eg : ∀ args w, (callFunc g args).run Try.prog w = .ok (.enter g args) w) {w : World} {base : Nat} {T : TypeId} {b l c : Nat} {rs : List Sec} (h : Own w base T 16 (some ⟨b, 0, none⟩) l c (rs.flatMap seL)) (hsz : l < 4611686018427387904)
    {R : Value → World → Prop} (hK : ∀ (rs' : List Sec) (w' : World), rs'.Perm rs → rs'.Pairwise (fun r s => ¬ cmpS s r < 0) → Own w' base T 16 (some ⟨b, 0, none⟩) l c (rs'.flatMap seL) → Keep (fun k => k = b) w w' → R (.tuple #[]) w') :
    CallV Try.prog 58 #[.slice (some ⟨b, 0, none⟩) l c, .func (.func g) #[] #[]] w R := by
  have hl : l = rs.length := by
    have := h
    rw [flatMap_rows] at this
    simpa using this.count (rows_len rs) (by decide)
  have hds : rs.toArray.size = l := by simp [hl]
  have hlt := h.lt rfl
  have hH : HoldsK seL 16 w b 0 rs.toArray := by
    intro j hj
    have hj' : j < l * 16 := by simpa [hl] using hj
    rcases h.cases with ⟨h0, _⟩ | ⟨b', cur, hp, hb, hg, _⟩
    · cases h0
    cases hp
    refine ⟨?_, ?_⟩
    · rw [Nat.zero_add, h.cell hj']
      have := get_flat (d := rs.toArray) (t := j) (by rw [hds]; exact hj')
      simpa using this
    · exact frozen_of hg
  have := AnyQ.slices_SortFunc Try.sortSec 16 (by intro w; kernel_rfl) (by intro w; kernel_rfl) seL (fun _ => rfl) one_seL cmpS swo_cmpS g #[] b 0 c rs.toArray w eg (cmpLays_of hg b 0 _ w) hH hlt.2 (by rw [hds]; exact hsz)
  rw [hds] at this
  refine Calls.mono this fun e w' ⟨he, d', n, os, hp, hs, hw⟩ => ⟨_, he, ?_⟩
  subst hw
  have hd' : d'.size = l := hp.1.trans hds
  obtain ⟨ho, hk⟩ := swk_own h d' hd' n os
  refine hK d'.toList _ ?_ ?_ ho hk
  · have := hp.2.2
    have e1 : d'.extract 0 l = d' := by rw [← hd']; simp
    have e2 : rs.toArray.extract 0 l = rs.toArray := by rw [← hds]; simp
    rw [e1, e2] at this
    simpa using this
  · rw [List.pairwise_iff_getElem]
    intro i j hi hj hij
    have := hs i j (Nat.zero_le _) hij (by simpa [hd'] using hj)
    rw [getElem!_pos d' j (by simpa using hj), getElem!_pos d' i (by simpa using hi)] at this
    simpa [ltOf] using this
/-- sorting a row that may be nil -/
theorem sort_srow {g : Nat} (hg : ∀ (r s : Sec) (w : World), Calls Try.prog g #[.agg (secV r), .agg (secV s)] w fun e w' => e = .returned (.int .i64 (cmpS r s)) ∧ ∃ q os, w' = grow (w.drewN q) os)
    (eg : ∀ args w, (callFunc g args).run Try.prog w = .ok (.enter g args) w) {w : World} {base : Nat} {T : TypeId} {p : Option Addr} {l c : Nat} {rs : List Sec} (h : Own w base T 16 p l c (rs.flatMap seL)) (hsz : l < 4611686018427387904)
    {R : Value → World → Prop} (hK : ∀ (rs' : List Sec) (w' : World), rs'.Perm rs → rs'.Pairwise (fun r s => ¬ cmpS s r < 0) → Own w' base T 16 p l c (rs'.flatMap seL) → Keep (fun k => p = some ⟨k, 0, none⟩) w w' → R (.tuple #[]) w') :
    CallV Try.prog 58 #[.slice p l c, .func (.func g) #[] #[]] w R := by
  rcases h.cases with ⟨rfl, rfl, rfl, h0⟩ | ⟨b, cur, rfl, _⟩
  · have hrs : rs = [] := by
      cases rs with
      | nil => rfl
      | cons r rs =>
        have := congrArg List.length h0
        simp at this
    subst hrs
    exact Calls.mono (AnyF.slices_SortFunc_none Try.sortSec none 0 (.func (.func g) #[] #[]) w) fun e w' ⟨he, hw⟩ => ⟨_, he, by subst hw; exact hK [] _ (List.Perm.refl _) List.Pairwise.nil h (Keep.refl _ _)⟩
  · exact sort_secs hg eg h hsz fun rs' w' hp hs ho hk => hK rs' w' hp hs ho (hk.mono fun k hk => by rw [hk])


end Go.Proofs
