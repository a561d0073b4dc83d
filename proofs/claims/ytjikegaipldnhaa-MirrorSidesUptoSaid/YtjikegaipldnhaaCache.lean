/-
  THE CACHE: what New, Put, Get, Len, Full do, said over a list of entries.
-/
import Derived.Test.YtjikegaipldnhaaData
import Derived.Test.YtjikegaipldnhaaFCache
namespace Go.Proofs
open Go Go.Ev
set_option linter.unusedSimpArgs false
set_option linter.unusedVariables false
set_option maxRecDepth 100000

/-- a sector and its version -/
abbrev Ent := Sec × Int
def entV (e : Ent) : Value :=
  .agg #[.int .u8 (e.1 0), .int .u8 (e.1 1), .int .u8 (e.1 2), .int .u8 (e.1 3), .int .u8 (e.1 4), .int .u8 (e.1 5), .int .u8 (e.1 6), .int .u8 (e.1 7),
    .int .u8 (e.1 8), .int .u8 (e.1 9), .int .u8 (e.1 10), .int .u8 (e.1 11), .int .u8 (e.1 12), .int .u8 (e.1 13), .int .u8 (e.1 14), .int .u8 (e.1 15), .int .u64 e.2]
/-- the cache in block c, its map in block m -/
def CacheAt (w : World) (c m : Nat) (room : Int) (es : List (Int × Ent)) : Prop :=
  Has w c (.cells #[.int .i64 room, .map (some m)] 161 (0, 0)) ∧ MapAt .i64 w m (tag entV es)
theorem CacheAt.keep {w w' : World} {c m : Nat} {room : Int} {es : List (Int × Ent)} {S : Nat → Prop} (h : CacheAt w c m room es) (hk : Keep S w w') (hc : ¬ S c) (hm : ¬ S m) : CacheAt w' c m room es :=
  ⟨hk.has h.1 hc, h.2.keep hk hm⟩
theorem CacheAt.lt {w : World} {c m : Nat} {room : Int} {es : List (Int × Ent)} (h : CacheAt w c m room es) : c < w.heap.size ∧ m < w.heap.size := ⟨h.1.lt, h.2.lt⟩

theorem under_map : Try.prog.underlying 159 = some (.map 3 157) := by kernel_rfl
theorem under_int : Try.prog.underlying 3 = some (.int .i64) := by kernel_rfl
theorem zero_ent (w : World) : (zeroValue 157).run Try.prog w = .ok (entV (sec [], 0)) w := run_zeroValue (i := ((Try.prog.info? 157).get (by kernel_rfl))) (by kernel_rfl) (by kernel_rfl)
theorem bld_ent (f : Sec) (v : Int) (w : World) : (Instr.build 157 #[(0, .agg (secV f)), (1, .int .u64 v)]).run Try.prog w = .ok (entV (f, v)) w := run_build _ _ _ _ (by kernel_rfl)
theorem zc_ent : zc Try.prog 157 = (entV (sec [], 0)).cells := by kernel_rfl
theorem bld_cache (room : Int) (m : Nat) (w : World) : (Instr.build 161 #[(0, .int .i64 room), (1, .map (some m))]).run Try.prog w = .ok (.agg #[.int .i64 room, .map (some m)]) w := run_build _ _ _ _ (by kernel_rfl)

theorem look_cache {w : World} {m : Nat} {es : List (Int × Ent)} (h : MapAt .i64 w m (tag entV es)) (x : Int) :
    (Instr.lookup 159 (.map (some m)) (.int .i64 x) true).run Try.prog w = .ok (.tuple #[entV ((mlook es x).getD (sec [], 0)), .bool (mlook es x).isSome]) w := by
  rw [run_lookup under_map under_int zero_ent h, look_tag]
  cases mlook es x <;> rfl

theorem cache_New_bad {room : Int} (hr : room < 1 ∨ 64 < room) {w : World} {R : Value → World → Prop} (hK : R (.tuple #[.pointer none, .int .i64 2]) w) :
    CallV Try.prog 72 #[.int .i64 room] w R := by
  apply C_cache_New
  unfold F_cache_New
  refine ⟨rfl, rfl, ?_⟩
  have : (cond (decide (room < 1)) true (decide (room > 64))) = true := by
    rcases hr with h | h
    · simp [h]
    · cases hd : decide (room < 1) <;> simp [h]
  rw [this]
  simpa using hK

theorem cache_New {room : Int} (h1 : 1 ≤ room) (h2 : room ≤ 64) {w : World} {R : Value → World → Prop}
    (hK : ∀ c m w', CacheAt w' c m room [] → Keep (fun _ => False) w w' → w.heap.size ≤ c → w.heap.size ≤ m → R (.tuple #[.pointer (some ⟨c, 0, none⟩), .int .i64 0]) w') :
    CallV Try.prog 72 #[.int .i64 room] w R := by
  apply C_cache_New
  unfold F_cache_New
  refine ⟨rfl, rfl, ?_⟩
  have e1 : decide (room < 1) = false := by simp; omega
  have e2 : decide (room > 64) = false := by simp; omega
  simp only [e1, e2, cond_false, Cb_false]
  refine ⟨_, _, run_makeMap, ?_⟩
  simp only [OpM_map]
  refine DoQ_of (fun d => bld_cache _ _ _) ?_
  simp only [OpA_agg]
  refine ⟨rfl, ?_⟩
  rw [Alc_iff]
  simp only [Ret_nil]
  have hm := Has.new w (.map #[] 0)
  refine hK _ w.heap.size _ ⟨Has.new _ _, #[], 0, hm.alloc, MapOk.nil _⟩ (((Keep.refl _ w).alloc _).alloc _) (by simp) (Nat.le_refl _)

theorem cache_Full {c m : Nat} {room : Int} {es : List (Int × Ent)} {w : World} {R : Value → World → Prop} (h : CacheAt w c m room es)
    (hK : ∀ d, R (.bool (decide (room ≤ (es.length : Int)))) (w.dr d)) : CallV Try.prog 71 #[.pointer (some ⟨c, 0, none⟩)] w R := by
  apply C_cache_Cache_Full
  unfold F_cache_Cache_Full
  refine LdV_has (v := .map (some m)) h.1 rfl ?_
  simp only [OpM_map]
  refine DoQ_of (fun d => run_lenm under_map (h.2.dr d)) ?_
  simp only [OpI_int]
  refine LdV_has (v := .int .i64 room) h.1 rfl ?_
  simp only [OpI_int, Drw_iff, Ret_nil, length_tag]
  exact hK

/-- what Get answers -/
theorem cache_Get {c m : Nat} {room : Int} {es : List (Int × Ent)} {lba : Int} {w : World} {R : Value → World → Prop} (h : CacheAt w c m room es)
    (hK : ∀ w', Keep (fun _ => False) w w' → R (match mlook es lba with
      | some e => .tuple #[.agg (secV e.1), .int .u64 e.2, .int .i64 0]
      | none => .tuple #[.agg (secV (sec [])), .int .u64 0, .int .i64 10]) w') :
    CallV Try.prog 68 #[.pointer (some ⟨c, 0, none⟩), .int .i64 lba] w R := by
  apply C_cache_Cache_Get
  unfold F_cache_Cache_Get
  rw [Alc_iff]
  have hb := Has.new w (.cells (zc Try.prog 40) 40)
  have k1 := (Keep.refl (fun _ => False) w).alloc (.cells (zc Try.prog 40) 40)
  have h1 := h.keep k1 (by simp) (by simp)
  generalize hw1 : w.alloc (.cells (zc Try.prog 40) 40) = w1 at *
  refine LdV_has (v := .map (some m)) h1.1 rfl ?_
  simp only [OpM_map]
  refine DoQ_of (fun d => look_cache (h1.2.dr d) lba) ?_
  simp only [T2_mk, entV, OpA_agg, OpB_bool]
  refine ⟨rfl, ?_⟩
  rw [Alc_iff]
  have hb1 := Has.new w1 (.cells (zc Try.prog 157) 157)
  have hb' := hb.alloc (y := .cells (zc Try.prog 157) 157)
  have k2 := k1.alloc (.cells (zc Try.prog 157) 157)
  have hne : w.heap.size ≠ w1.heap.size := hb.ne_new
  have hlt := hb.lt
  generalize hw2 : w1.alloc (.cells (zc Try.prog 157) 157) = w2 at *
  rw [zc_ent] at hb1
  rw [zc_sec] at hb'
  refine StA_all hb1 rfl rfl ?_ ?_
  · intro v hv
    simp only [List.mem_cons, List.not_mem_nil, or_false] at hv
    rcases hv with rfl | rfl | rfl | rfl | rfl | rfl | rfl | rfl | rfl | rfl | rfl | rfl | rfl | rfl | rfl | rfl | rfl <;> rfl
  generalize hcs : (#[Value.int IntKind.u8 _, _, _, _, _, _, _, _, _, _, _, _, _, _, _, _, _] : Array Value) = cs
  have hb2 := hb1.upd_same (.cells cs 157)
  have hb3 := hb'.upd (y := .cells cs 157) hne
  have k3 := k2.upd (k := w1.heap.size) (by omega) (.cells cs 157)
  generalize hw3 : w2.upd w1.heap.size (.cells cs 157) = w3 at *
  cases hl : mlook es lba with
  | none =>
    simp only [hl] at hK
    simp only [Option.isSome_none, Bool.not_false, Cb_true]
    refine DoQ_of (fun d => bld_sec0 _) ?_
    simp only [OpA_agg]
    refine ⟨rfl, StA_all hb3 rfl rfl (one_secV _) ?_⟩
    have hb4 := hb3.upd_same (.cells (secV (sec [])) 40)
    refine LdA_all hb4 rfl ?_
    simp only [Ret_nil]
    exact hK _ (k3.upd (by omega) _)
  | some e =>
    simp only [hl] at hK hcs
    simp only [Option.isSome_some, Bool.not_true, Cb_false]
    intro d
    refine ⟨fun w' => Has w' w1.heap.size (.cells cs 157), hb2, ?_⟩
    subst hcs
    refine LdA_has (cs := secV e.1) (hb2.dr d) (by simp) rfl ?_
    refine LdV_of (v := .int .u64 e.2) (fun w' h => ⟨_, _, _, h, rfl⟩) ?_
    simp only [OpI_int]
    refine StA_all (hb3.dr d) rfl rfl (one_secV _) ?_
    refine ⟨(hb2.dr d).upd (fun e => hne e.symm), ?_⟩
    have hb4 := (hb3.dr d).upd_same (.cells (secV e.1) 40)
    refine LdA_all hb4 rfl ?_
    simp only [Ret_nil]
    exact hK _ ((k3.dr d).upd (by omega) _)

/-- what Put answers -/
def putE (room : Int) (es : List (Int × Ent)) (lba version : Int) : Int :=
  if lba < 0 ∨ 2147483647 < lba then 2 else
  match mlook es lba with
  | some e => if version ≤ e.2 then 2 else 0
  | none => if room ≤ (es.length : Int) then 9 else 0

theorem put_tail {c m b : Nat} {room lba version : Int} {f : Sec} {es : List (Int × Ent)} {w0 w : World} {R : Value → World → Prop} (h : CacheAt w c m room es) (k : Keep (fun k => k = m) w0 w)
    (hb : Has w b (.cells (secV f) 40 (0, 0)))
    (hK : ∀ w', Keep (fun k => k = m) w0 w' → CacheAt w' c m room (ins es lba (f, version)) → R (.int .i64 0) w') :
    Dr1 w fun w => LdV c 1 (At w) fun v6 => OpM v6 fun m1 => LdA 16 b 0 (At w) fun cs1 => DoQ Try.prog (Instr.build 157 #[(0, .agg cs1), (1, .int .u64 version)]) (At w) fun v7 => OpA 17 v7 fun cs2 =>
      DoU Try.prog (Instr.mapUpdate 159 (.map m1) (.int .i64 lba) (.agg cs2)) w fun w => Ret [] (R (.int .i64 0) w) := by
  intro d _
  refine LdV_has (v := .map (some m)) (h.1.dr d) rfl ?_
  simp only [OpM_map]
  refine LdA_all (hb.dr d) rfl ?_
  refine DoQ_of (fun d => bld_ent _ _ _) ?_
  simp only [entV, OpA_agg]
  refine ⟨rfl, ?_⟩
  obtain ⟨arr, clk, hr, ho⟩ := run_mapUpdate (P := Try.prog) under_map under_int (h.2.dr d) lba (entV (f, version))
  refine ⟨_, hr, ?_⟩
  rw [ins_tag] at ho
  simp only [Ret_nil]
  obtain ⟨arr0, clk0, hm, _⟩ := h.2
  exact hK _ ((k.dr d).upd (fun _ => rfl) _) ⟨(h.1.dr d).upd (h.1.ne hm (by simp)), arr, clk, (hm.dr d).upd_same _, ho⟩

theorem cache_Put {c m : Nat} {room lba version : Int} {f : Sec} {es : List (Int × Ent)} {w : World} {R : Value → World → Prop} (h : CacheAt w c m room es)
    (hK : ∀ w', Keep (fun k => k = m) w w' → CacheAt w' c m room (if putE room es lba version = 0 then ins es lba (f, version) else es) → R (.int .i64 (putE room es lba version)) w') :
    CallV Try.prog 47 #[.pointer (some ⟨c, 0, none⟩), .int .i64 lba, .agg (secV f), .int .u64 version] w R := by
  apply C_cache_Cache_Put
  unfold F_cache_Cache_Put
  rw [Alc_iff]
  have hb := Has.new w (.cells (secV f) 40)
  have k1 := (Keep.refl (fun k => k = m) w).alloc (.cells (secV f) 40)
  have h1 := h.keep (w' := w.alloc (.cells (secV f) 40)) ((Keep.refl (fun k => False) w).alloc _) (by simp) (by simp)
  have hlt := h.lt
  generalize hw1 : w.alloc (.cells (secV f) 40) = w1 at *
  refine ⟨rfl, rfl, rfl, rfl, ?_⟩
  refine Cb_of (fun hc => ?_) (fun hc => ?_)
  · have hr : lba < 0 ∨ 2147483647 < lba := by
      by_cases h1 : lba < 0
      · exact Or.inl h1
      · simp [h1] at hc; exact Or.inr hc
    have he : putE room es lba version = 2 := by simp [putE, hr]
    rw [he] at hK
    simp only [Ret_nil]
    exact hK _ k1 (by simpa using h1)
  have hr : ¬ (lba < 0 ∨ 2147483647 < lba) := by
    by_cases h1 : lba < 0
    · simp [h1] at hc
    · simp [h1] at hc; omega
  refine LdV_has (v := .map (some m)) h1.1 rfl ?_
  simp only [OpM_map]
  refine DoQ_of (fun d => look_cache (h1.2.dr d) lba) ?_
  simp only [T2_mk, entV, OpA_agg, OpB_bool]
  refine ⟨rfl, ?_⟩
  rw [Alc_iff]
  have hb1 := Has.new w1 (.cells (zc Try.prog 157) 157)
  have hb' := hb.alloc (y := .cells (zc Try.prog 157) 157)
  have k2 := k1.alloc (.cells (zc Try.prog 157) 157)
  have h2 := h1.keep (w' := w1.alloc (.cells (zc Try.prog 157) 157)) ((Keep.refl (fun k => False) w1).alloc _) (by simp) (by simp)
  have hne : w.heap.size ≠ w1.heap.size := hb.ne_new
  have hlb := hb.lt
  have hlt1 := h1.lt
  generalize hw2 : w1.alloc (.cells (zc Try.prog 157) 157) = w2 at *
  rw [zc_ent] at hb1
  refine StA_all hb1 rfl rfl ?_ ?_
  · intro v hv
    simp only [List.mem_cons, List.not_mem_nil, or_false] at hv
    rcases hv with rfl | rfl | rfl | rfl | rfl | rfl | rfl | rfl | rfl | rfl | rfl | rfl | rfl | rfl | rfl | rfl | rfl <;> rfl
  generalize hcs : (#[Value.int IntKind.u8 _, _, _, _, _, _, _, _, _, _, _, _, _, _, _, _, _] : Array Value) = cs
  have hb2 := hb1.upd_same (.cells cs 157)
  have hb3 := hb'.upd (y := .cells cs 157) hne
  have k3 := k2.upd (k := w1.heap.size) (by omega) (.cells cs 157)
  have h3 := h2.keep (w' := w2.upd w1.heap.size (.cells cs 157)) (S := fun k => k = w1.heap.size) (Keep.upd (Keep.refl (fun k => k = w1.heap.size) w2) (k := w1.heap.size) (fun _ => rfl) _) (by omega) (by omega)
  generalize hw3 : w2.upd w1.heap.size (.cells cs 157) = w3 at *
  cases hl : mlook es lba with
  | some e =>
    simp only [Option.isSome_some, Bool.not_true, Cb_true, Cb_false]
    refine LdV_has (v := .int .u64 e.2) hb2 (by subst hcs; simp [hl]) ?_
    simp only [OpI_int]
    refine Cb_of (fun hv => ?_) (fun hv => ?_)
    · have he : putE room es lba version = 2 := by
        simp only [decide_eq_true_eq] at hv
        simp only [putE, if_neg hr, hl, if_pos hv]
      rw [he] at hK
      simp only [Ret_nil]
      exact hK _ k3 (by simpa using h3)
    · have he : putE room es lba version = 0 := by
        simp only [decide_eq_false_iff_not, ge_iff_le] at hv
        simp only [putE, if_neg hr, hl, if_neg hv]
      rw [he] at hK
      exact put_tail h3 k3 hb3 fun w' hk' hc' => hK w' hk' (by simpa using hc')
  | none =>
    simp only [Option.isSome_none, Bool.not_false, Cb_true, Cb_false]
    refine cache_Full h3 fun d => ?_
    simp only [OpB_bool]
    refine Cb_of (fun hv => ?_) (fun hv => ?_)
    · have he : putE room es lba version = 9 := by
        simp only [decide_eq_true_eq] at hv
        simp only [putE, if_neg hr, hl, if_pos hv]
      rw [he] at hK
      simp only [Ret_nil]
      exact hK _ (k3.dr d) (by simpa using h3.keep ((Keep.refl (fun _ => False) w3).dr d) (by simp) (by simp))
    · have he : putE room es lba version = 0 := by
        simp only [decide_eq_false_iff_not] at hv
        simp only [putE, if_neg hr, hl, if_neg hv]
      rw [he] at hK
      exact put_tail (h3.keep ((Keep.refl (fun _ => False) w3).dr d) (by simp) (by simp)) (k3.dr d) (hb3.dr d) fun w' hk' hc' => hK w' hk' (by simpa using hc')
end Go.Proofs
