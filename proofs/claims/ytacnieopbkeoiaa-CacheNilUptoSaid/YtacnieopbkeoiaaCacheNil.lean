/-
  A nil cache answers as the chapter says, and a list that was answered is its own: CacheNil.
-/
import Derived.Test.YtacnieopbkeoiaaListC
import Derived.Test.YtacnieopbkeoiaaLast
import Derived.Test.YtacnieopbkeoiaaFCacheNil
namespace Go.Proofs
open Go Go.Ev Go.RowKit
set_option linter.unusedSimpArgs false
set_option linter.unusedVariables false
set_option maxRecDepth 100000

/-- the zero record -/
def rec0 : Rec := ⟨0, 0, 0, sec []⟩
theorem bld_rec0 (w : World) : (Instr.build 42 #[]).run Try.prog w = .ok (.agg (recV rec0)) w := run_build _ _ _ _ (by kernel_rfl)
theorem zc_rec : zc Try.prog 42 = recV rec0 := by kernel_rfl
theorem one_recV (r : Rec) : ∀ v ∈ (recV r).toList, oneV v = true := by intro v hv; exact one_recL r v (by simpa [recV] using hv)
theorem nilc_Get {lba : Int} {w : World} {R : Value → World → Prop} (h : ∀ w', Keep (fun _ => False) w w' → R (.tuple #[.agg (secV (sec [])), .int .u64 0, .int .i64 2]) w') : CallV Try.prog 15 #[.pointer none, .int .i64 lba] w R := by
  apply C_NilGet
  unfold F_NilGet
  rw [Alc_iff]
  refine DoQ_of (fun d => bld_sec0 _) ?_
  simp only [OpA_agg]
  refine ⟨rfl, StA_all (Has.new _ _) rfl (by rw [zc_sec]; rfl) (one_secV _) ?_⟩
  refine LdA_all ((Has.new _ _).upd_same _) rfl ?_
  simp only [Ret_nil]
  exact h _ ((Keep.new _ _ _).upd (by omega) _)
theorem nilc_Next {w : World} {R : Value → World → Prop} (h : ∀ w', Keep (fun _ => False) w w' → R (.tuple #[.agg (recV rec0), .int .i64 2]) w') : CallV Try.prog 31 #[.pointer none] w R := by
  apply C_NilNext
  unfold F_NilNext
  rw [Alc_iff]
  refine DoQ_of (fun d => bld_rec0 _) ?_
  simp only [OpA_agg]
  refine ⟨rfl, StA_all (Has.new _ _) rfl (by rw [zc_rec]; rfl) (one_recV _) ?_⟩
  refine LdA_all ((Has.new _ _).upd_same _) rfl ?_
  simp only [Ret_nil]
  exact h _ ((Keep.new _ _ _).upd (by omega) _)
theorem nilc_Put {lba version : Int} {data : Array Value} {w : World} {R : Value → World → Prop} (h : ∀ w', Keep (fun _ => False) w w' → R (.int .i64 2) w') :
    CallV Try.prog 14 #[.pointer none, .int .i64 lba, .agg data, .int .u64 version] w R := by
  apply C_NilPut
  unfold F_NilPut
  rw [Alc_iff]
  simpa using h _ (Keep.new _ _ _)
theorem nilc_Clean {lba version : Int} {w : World} {R : Value → World → Prop} (h : ∀ w', Keep (fun _ => False) w w' → R (.int .i64 2) w') :
    CallV Try.prog 28 #[.pointer none, .int .i64 lba, .int .u64 version] w R := by
  apply C_NilClean
  unfold F_NilClean
  refine nilc_Get fun w1 k1 => ?_
  simp only [T3_mk, OpA_agg, OpI_int]
  refine ⟨rfl, ?_⟩
  rw [Alc_iff]
  refine StA_all (Has.new _ _) rfl (by rw [zc_sec]; rfl) (one_secV _) ?_
  rw [show ((2 : Int) != 0) = true from rfl, Cb_true]
  simp only [Ret_nil]
  have := k1.size
  exact h _ ((k1.alloc _).upd (by omega) _)
theorem nilc_List {w : World} {R : Value → World → Prop} (h : R (.slice none 0 0) w) : CallV Try.prog 32 #[.pointer none] w R := by
  apply C_NilList
  simpa [F_NilList] using h
theorem nilc_Len {w : World} {R : Value → World → Prop} (h : R (.int .i64 0) w) : CallV Try.prog 16 #[.pointer none] w R := by
  apply C_NilLen
  simpa [F_NilLen] using h
theorem nilc_Full {w : World} {R : Value → World → Prop} (h : ∀ d, R (.bool false) (w.dr d)) : CallV Try.prog 17 #[.pointer none] w R := by
  apply C_NilFull
  unfold F_NilFull
  intro d
  simpa using h d

theorem cacheNil_walk {lba version : Int} {f : Sec} {W : World} :
    CallV Try.prog 10 #[.int .i64 lba, .agg (secV f), .int .u64 version] W fun v w' => v = .bool true ∧ Below W.heap.size W w' := by
  apply C_ravelinlaw11_CacheNil
  unfold F_ravelinlaw11_CacheNil
  rw [Alc_iff]
  have hd := Has.new W (.cells (secV f) 31)
  have k0 := Keep.new (fun _ => False) W (.cells (secV f) 31)
  generalize W.alloc (.cells (secV f) 31) = w0 at *
  refine nilc_Get fun w1 k1 => ?_
  simp only [T3_mk, OpA_agg, OpI_int]
  refine ⟨rfl, ?_⟩
  rw [Alc_iff]
  refine StA_all (Has.new _ _) rfl (by rw [zc_sec]; rfl) (one_secV _) ?_
  have k2 : Keep (fun _ => False) w0 _ := (k1.alloc (.cells (zc Try.prog 31) 31)).upd (k := w1.heap.size) (by have := k1.size; omega) (.cells (secV (sec [])) 31)
  generalize (w1.alloc (.cells (zc Try.prog 31) 31)).upd w1.heap.size (.cells (secV (sec [])) 31) = w2 at *
  refine nilc_Next fun w3 k3 => ?_
  simp only [T2_mk, OpA_agg, OpI_int]
  refine ⟨rfl, ?_⟩
  rw [Alc_iff]
  refine StA_all (Has.new _ _) rfl (by rw [zc_rec]; rfl) (one_recV _) ?_
  have k4 : Keep (fun _ => False) w0 _ := ((k2.trans k3).alloc (.cells (zc Try.prog 42) 42)).upd (k := w3.heap.size) (by have := (k2.trans k3).size; omega) (.cells (recV rec0) 42)
  generalize (w3.alloc (.cells (zc Try.prog 42) 42)).upd w3.heap.size (.cells (recV rec0) 42) = w4 at *
  refine cache_New (by decide) (by decide) fun c m w5 hC k5 hc hm => ?_
  simp only [T2_mk, OpP_some, OpI_int]
  refine law11_awake fun w6 k6 => ?_
  simp only [OpB_bool, Req_true, Req_rfl]
  rw [show (cond (cond (!true) true ((0 : Int) != 0)) true false) = false from rfl, Cb_false]
  have hC6 := hC.keep k6 (by simp) (by simp)
  have k06 := (k4.trans k5).trans k6
  have hd6 := k06.has hd (by simp)
  have sz4 := k4.size
  have sz0 := k0.size
  refine LdA_all hd6 rfl ?_
  refine cache_Put hC6 fun w7 k7 hC7 => ?_
  have e1 : putE 1 [] 3 9 = 0 := by decide
  rw [e1]
  simp only [OpI_int]
  rw [show ((0 : Int) != 0) = false from rfl, Cb_false]
  rw [if_pos e1] at hC7
  have k07 : Keep (fun _ => False) w0 w7 := k06.trans' k7 (fun k hk e => by omega)
  refine cache_List hC7 (by simp [ins]) fun p l cp rs w8 hrp hrs ho k8 => ?_
  simp only [OpS_slice]
  have hlr : l = rs.length := by
    have := ho
    rw [flatMap_rows] at this
    simpa using this.count (rows_len rs) (by decide)
  have hl1 : l = 1 := by rw [hlr, hrp.length_eq]; simp [ins]
  subst hl1
  rw [show (((1 : Nat) : Int) != 1) = false from rfl, Cb_false]
  rcases ho.cases with ⟨_, h0, _⟩ | ⟨b, cur, rfl, hb, hg, hle, hmx, hss, ht⟩
  · cases h0
  refine ⟨b, 0, rfl, by decide, by decide, ?_⟩
  refine StV_of hg (by simp; omega) rfl ?_
  have k08 := k07.trans k8
  have k9 := Keep.one w8 b (.cells (cur.setIfInBounds (0 + (0 : Int).toNat * 19 + 2) (.int .i64 4)) 42 (0, 0))
  have hC8 := hC7.keep k8 (by simp) (by simp)
  have hlt7 := hC7.lt
  have hC9 := hC8.keep k9 (by omega) (by omega)
  have sz7 := k07.size
  have k09 := k08.trans' k9 (fun k hk e => by omega)
  have hd9 := k09.has hd (by simp)
  generalize w8.upd b (.cells (cur.setIfInBounds (0 + (0 : Int).toNat * 19 + 2) (.int .i64 4)) 42 (0, 0)) = w9 at *
  refine cache_Get hC9 fun w10 k10 => ?_
  have e2 : mlook (ins [] 3 (f, 9)) 3 = some ((f, 9) : Ent) := rfl
  rw [e2]
  simp only [T3_mk, OpA_agg, OpI_int]
  refine ⟨rfl, ?_⟩
  rw [Alc_iff]
  refine StA_all (Has.new _ _) rfl (by rw [zc_sec]; rfl) (one_secV _) ?_
  have k011 : Keep (fun _ => False) w0 _ := ((k09.trans k10).alloc (.cells (zc Try.prog 31) 31)).upd (k := w10.heap.size) (by have := (k09.trans k10).size; omega) (.cells (secV f) 31)
  generalize (w10.alloc (.cells (zc Try.prog 31) 31)).upd w10.heap.size (.cells (secV f) 31) = w11 at *
  rw [show (cond (cond (cond ((0 : Int) == 0) ((9 : Int) == 9) false) ((2 : Int) == 2) false) ((2 : Int) == 2) false) = true from rfl, Cb_true]
  refine LdA_all (k011.has hd (by simp)) rfl ?_
  refine nilc_Put fun w12 k12 => ?_
  simp only [OpI_int]
  rw [show ((2 : Int) == 2) = true from rfl, Cb_true]
  refine nilc_Clean fun w13 k13 => ?_
  simp only [OpI_int]
  rw [show ((2 : Int) == 2) = true from rfl, Cb_true]
  refine nilc_List ?_
  simp only [OpS_slice]
  rw [show (((0 : Nat) : Int) == 0) = true from rfl, Cb_true]
  refine nilc_Len ?_
  simp only [OpI_int]
  rw [show ((0 : Int) == 0) = true from rfl, Cb_true]
  refine nilc_Full fun d => ?_
  simp only [OpB_bool, Ret_nil]
  first | exact ⟨rfl, (k0.trans (((k011.trans k12).trans k13).dr d)).below⟩ | exact ⟨trivial, (k0.trans (((k011.trans k12).trans k13).dr d)).below⟩
/-- sixteen bytes are a sector -/
theorem sec_of {cs : Array Value} (h : Fits (List.replicate 16 (.int .u8)) cs.toList) : ∃ f, cs = secV f ∧ SecOk f := by
  obtain ⟨l⟩ := cs
  match l, h with
  | [_, _, _, _, _, _, _, _, _, _, _, _, _, _, _, _], ⟨⟨x0, rfl, a0⟩, ⟨x1, rfl, a1⟩, ⟨x2, rfl, a2⟩, ⟨x3, rfl, a3⟩, ⟨x4, rfl, a4⟩, ⟨x5, rfl, a5⟩, ⟨x6, rfl, a6⟩, ⟨x7, rfl, a7⟩, ⟨x8, rfl, a8⟩, ⟨x9, rfl, a9⟩, ⟨xa, rfl, aa⟩, ⟨xb, rfl, ab⟩, ⟨xc, rfl, ac⟩, ⟨xd, rfl, ad⟩, ⟨xe, rfl, ae⟩, ⟨xf, rfl, af⟩, _⟩ =>
    refine ⟨sec [x0, x1, x2, x3, x4, x5, x6, x7, x8, x9, xa, xb, xc, xd, xe, xf], rfl, sec_ok ?_⟩
    intro x hx
    simp only [List.mem_cons, List.not_mem_nil, or_false] at hx
    rcases hx with rfl | rfl | rfl | rfl | rfl | rfl | rfl | rfl | rfl | rfl | rfl | rfl | rfl | rfl | rfl | rfl <;> assumption
end Go.Proofs
