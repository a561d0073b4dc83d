/-
  THE CACHE, on: Next gives the record of the least version, Clean takes a sector out.
-/
import Derived.Test.YtjikegaipldnhaaListC
namespace Go.Proofs
open Go Go.Ev
set_option linter.unusedSimpArgs false
set_option linter.unusedVariables false
set_option maxRecDepth 100000

theorem mlook_mem {α : Type} {es : List (Int × α)} {x : Int} {e : α} (h : mlook es x = some e) : (x, e) ∈ es := by
  unfold mlook at h
  rw [Option.map_eq_some_iff] at h
  obtain ⟨p, hp, rfl⟩ := h
  have h1 := List.mem_of_find?_eq_some hp
  have h2 := List.find?_some hp
  have : p.1 = x := by simpa using h2
  rw [← this]; exact h1
theorem mem_mlook {α : Type} {es : List (Int × α)} (hn : (es.map (·.1)).Nodup) {x : Int} {e : α} (h : (x, e) ∈ es) : mlook es x = some e := by
  induction es with
  | nil => simp at h
  | cons p es ih =>
    simp only [List.map_cons, List.nodup_cons] at hn
    unfold mlook at *
    rw [List.find?_cons]
    rcases List.mem_cons.1 h with rfl | h
    · simp
    · have hne : p.1 ≠ x := fun e' => hn.1 (List.mem_map.2 ⟨(x, e), h, e'.symm⟩)
      have : (p.1 == x) = false := beq_eq_false_iff_ne.2 hne
      rw [this]
      exact ih hn.2 h
theorem CacheAt.nodup {w : World} {c m : Nat} {room : Int} {es : List (Int × Ent)} (h : CacheAt w c m room es) : (es.map (·.1)).Nodup := by
  obtain ⟨_, arr, clk, _, ho⟩ := h
  have := ho.keys
  unfold tag at this
  rw [List.map_map] at this
  exact this
def rec00 : Rec := ⟨0, 0, 0, sec []⟩
theorem zc_rec' : zc Try.prog 46 = recV rec00 := by kernel_rfl
theorem bld_rec00 (w : World) : (Instr.build 46 #[]).run Try.prog w = .ok (.agg (recV rec00)) w := run_build _ _ _ _ (by kernel_rfl)
theorem one_recV' (r : Rec) : ∀ v ∈ (recV r).toList, oneV v = true := by intro v hv; exact one_recL r v (by simpa [recV] using hv)
/-- a record of a row of one's own, loaded -/
theorem LdA_row {w : World} {base : Nat} {T : TypeId} {p : Option Addr} {l c : Nat} {rs : List Rec} (h : Own w base T 19 p l c (rs.flatMap recL)) {i : Int} {r : Rec} (h0 : 0 ≤ i) (hi : rs[i.toNat]? = some r) {K : Array Value → Prop} (hK : K (recV r)) :
    IdxS p l i 19 fun b o => LdA 19 b o (At w) K := by
  have hlr : l = rs.length := by
    have := h
    rw [flatMap_rows] at this
    simpa using this.count (rows_len rs) (by decide)
  have hlt := (List.getElem?_eq_some_iff.1 hi).1
  have h2 := h
  rw [flatMap_rows] at h2
  obtain ⟨b, rfl, hc⟩ := h2.at (rows_len rs) (by decide) (i := i.toNat) (r := recL r) (by simp [hi])
  refine ⟨b, 0, rfl, h0, by omega, recV r, rfl, ?_, hK⟩
  rintro w' ⟨d, rfl⟩ j hj
  rw [Nat.zero_add]
  have := hc j hj
  rw [show (w.dr d).cell? ⟨b, i.toNat * 19 + j, none⟩ = w.cell? ⟨b, i.toNat * 19 + j, none⟩ from rfl, this]
  simp [recV]

theorem cache_Next {c m : Nat} {room : Int} {es : List (Int × Ent)} {w : World} {R : Value → World → Prop} (h : CacheAt w c m room es) (hlen : es.length ≤ 1000000)
    (h0 : ∀ w', es = [] → Keep (fun _ => False) w w' → R (.tuple #[.agg (recV rec00), .int .i64 10]) w')
    (h1 : ∀ p w', p ∈ es → (∀ q ∈ es, ¬ cmpR (recOf q) (recOf p) < 0) → Keep (fun _ => False) w w' → R (.tuple #[.agg (recV (recOf p)), .int .i64 0]) w') :
    CallV Try.prog 69 #[.pointer (some ⟨c, 0, none⟩)] w R := by
  apply C_cache_Cache_Next
  unfold F_cache_Cache_Next
  rw [Alc_iff]
  have hb := Has.new w (.cells (zc Try.prog 46) 46)
  have k0 := Keep.new (fun _ => False) w (.cells (zc Try.prog 46) 46)
  have hC := h.keep k0 (by simp) (by simp)
  generalize w.alloc (.cells (zc Try.prog 46) 46) = w0 at *
  refine cache_List hC hlen fun p l cp rs w1 hrp hrs ho k1 => ?_
  simp only [OpS_slice]
  have hlr : l = rs.length := by
    have := ho
    rw [flatMap_rows] at this
    simpa using this.count (rows_len rs) (by decide)
  have hle : rs.length = es.length := by have := hrp.length_eq; simpa using this
  have hb1 := k1.has hb (by simp)
  have k01 := k0.trans k1
  cases rs with
  | nil =>
    have hes : es = [] := List.eq_nil_of_length_eq_zero (by rw [← hle]; rfl)
    subst hlr
    rw [show ((((([] : List Rec).length : Nat) : Int)) == 0) = true from rfl, Cb_true]
    refine DoQ_of (fun d => bld_rec00 _) ?_
    simp only [OpA_agg]
    refine ⟨rfl, StA_all hb1 rfl (by rw [zc_rec']; rfl) (one_recV' _) ?_⟩
    refine LdA_all (hb1.upd_same _) rfl ?_
    simp only [Ret_nil]
    exact h0 _ hes (k01.upd (by omega) _)
  | cons r rs =>
    have hz : (((l : Nat) : Int) == 0) = false := by simp [hlr]; omega
    rw [hz, Cb_false]
    refine LdA_row ho (by decide) (r := r) rfl ?_
    refine StA_all hb1 rfl (by rw [zc_rec']; rfl) (one_recV' _) ?_
    refine LdA_all (hb1.upd_same _) rfl ?_
    simp only [Ret_nil]
    have hr : r ∈ es.map recOf := hrp.subset (by simp)
    obtain ⟨q, hq, rfl⟩ := List.mem_map.1 hr
    refine h1 q _ hq (fun q' hq' => ?_) (k01.upd (by omega) _)
    have : recOf q' ∈ recOf q :: rs := hrp.symm.subset (List.mem_map.2 ⟨q', hq', rfl⟩)
    rcases List.mem_cons.1 this with e | hm
    · rw [e, cmpR_lt]; omega
    · exact (List.pairwise_cons.1 hrs).1 _ hm

/-- what Clean answers -/
def cleanE (es : List (Int × Ent)) (lba version : Int) : Int := match mlook es lba with
  | none => 10
  | some e => if e.2 > version then 12 else 0
theorem cache_Clean {c m : Nat} {room lba version : Int} {es : List (Int × Ent)} {w : World} {R : Value → World → Prop} (h : CacheAt w c m room es)
    (hK : ∀ w', Keep (fun k => k = m) w w' → CacheAt w' c m room (if cleanE es lba version = 0 then del es lba else es) → R (.int .i64 (cleanE es lba version)) w') :
    CallV Try.prog 70 #[.pointer (some ⟨c, 0, none⟩), .int .i64 lba, .int .u64 version] w R := by
  apply C_cache_Cache_Clean
  unfold F_cache_Cache_Clean
  refine cache_Get h fun w1 k1 => ?_
  have go : ∀ (f : Sec), ∃ w2, (w1.alloc (.cells (zc Try.prog 40) 40)).upd w1.heap.size (.cells (secV f) 40) = w2 ∧ Keep (fun _ => False) w w2 := by
    intro f
    exact ⟨_, rfl, (k1.alloc _).upd (by have := k1.size; omega) _⟩
  cases hl : mlook es lba with
  | none =>
    have e : cleanE es lba version = 10 := by simp [cleanE, hl]
    rw [e] at hK
    simp only [T3_mk, OpA_agg, OpI_int]
    refine ⟨rfl, ?_⟩
    rw [Alc_iff]
    refine StA_all (Has.new _ _) rfl (by rw [zc_sec]; rfl) (one_secV _) ?_
    obtain ⟨w2, hw, k2⟩ := go (sec [])
    rw [hw, show ((10 : Int) != 0) = true from rfl, Cb_true]
    simp only [Ret_nil]
    exact hK w2 (k2.mono fun _ h => h.elim) (by simpa using h.keep k2 (by simp) (by simp))
  | some e =>
    simp only [T3_mk, OpA_agg, OpI_int]
    refine ⟨rfl, ?_⟩
    rw [Alc_iff]
    refine StA_all (Has.new _ _) rfl (by rw [zc_sec]; rfl) (one_secV _) ?_
    obtain ⟨w2, hw, k2⟩ := go e.1
    rw [hw, show ((0 : Int) != 0) = false from rfl, Cb_false]
    have h2 := h.keep k2 (by simp) (by simp)
    refine Cb_of (fun hv => ?_) (fun hv => ?_)
    · have hv' : e.2 > version := by simpa using hv
      have ec : cleanE es lba version = 12 := by simp only [cleanE, hl]; rw [if_pos hv']
      rw [ec] at hK
      simp only [Ret_nil]
      exact hK w2 (k2.mono fun _ h => h.elim) (by simpa using h2)
    · have hv' : ¬ e.2 > version := by simpa using hv
      have ec : cleanE es lba version = 0 := by simp only [cleanE, hl]; rw [if_neg hv']
      rw [ec] at hK
      refine LdV_has (v := .map (some m)) h2.1 rfl ?_
      simp only [OpM_map]
      obtain ⟨arr, clk, hr, ho⟩ := run_delete (P := Try.prog) (ty := 0) under_map under_int h2.2 lba
      refine ⟨_, _, hr, ?_⟩
      rw [del_tag] at ho
      simp only [Ret_nil]
      obtain ⟨arr0, clk0, hm, _⟩ := h2.2
      have k3 : Keep (fun k => k = m) w w2 := k2.mono fun _ h => h.elim
      refine hK _ (k3.upd (k := m) (fun _ => rfl) _) ?_
      rw [if_pos rfl]
      exact ⟨h2.1.upd (h2.1.ne hm (by simp)), arr, clk, hm.upd_same _, ho⟩
end Go.Proofs
