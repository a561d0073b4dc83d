/-
  MirrorNil: the walk.
-/
import Derived.Test.YtjikegaipldnhaaAw12
import Derived.Test.YtjikegaipldnhaaFPairNil
namespace Go.Proofs
open Go Go.Ev Go.RowKit
set_option linter.unusedSimpArgs false
set_option linter.unusedVariables false
set_option maxRecDepth 100000
section calls
variable {w : World} {R : Value → World → Prop}
theorem nilPut {n lba : Int} {d : Sec} (hK : ∀ w', Keep (fun _ => False) w w' → R (.tuple #[.int .u64 0, .int .i64 2]) w') : CallV Try.prog 14 #[.pointer none, .int .i64 n, .int .i64 lba, .agg (secV d)] w R := by
  apply C_PNilPut
  unfold F_PNilPut
  refine alc_fresh fun w1 hb1 k1 z1 => ?_
  exact ⟨rfl, rfl, rfl, rfl, Ret_nil.2 (hK w1 k1)⟩
theorem nilGet {lba : Int} (hK : ∀ w', Keep (fun _ => False) w w' → R (.tuple #[.agg (secV (sec [])), .int .u64 0, .int .i64 2]) w') : CallV Try.prog 36 #[.pointer none, .int .i64 lba] w R := by
  apply C_PNilGet
  unfold F_PNilGet
  refine alc_fresh fun w1 hb1 k1 z1 => ?_
  refine DoQ_of (fun d => bld_sec0 _) (OpA_agg.2 ⟨rfl, ?_⟩)
  refine StA_all hb1 rfl (by rw [zc_sec]; rfl) (one_secV _) ?_
  refine LdA_all (hb1.upd_same _) rfl ?_
  exact Ret_nil.2 (hK _ (k1.upd (by omega) _))
theorem nilNext (hK : ∀ w', Keep (fun _ => False) w w' → R (.tuple #[.agg (recV (⟨0, 0, 0, sec []⟩ : Rec)), .int .i64 2]) w') : CallV Try.prog 37 #[.pointer none] w R := by
  apply C_PNilNext
  unfold F_PNilNext
  refine alc_fresh fun w1 hb1 k1 z1 => ?_
  refine DoQ_of (v := .agg (recV (⟨0, 0, 0, sec []⟩ : Rec))) (fun d => run_build _ _ _ _ (by kernel_rfl)) (OpA_agg.2 ⟨rfl, ?_⟩)
  refine StA_all hb1 rfl zc_rc (one_recV _) ?_
  refine LdA_all (hb1.upd_same _) rfl ?_
  exact Ret_nil.2 (hK _ (k1.upd (by omega) _))
theorem nilFlushed {lba version : Int} (hK : ∀ w', Keep (fun _ => False) w w' → R (.int .i64 2) w') : CallV Try.prog 38 #[.pointer none, .int .i64 lba, .int .u64 version] w R := by
  apply C_PNilFlushed
  unfold F_PNilFlushed
  refine nilGet fun w1 k1 => ?_
  refine T3_mk.2 (OpA_agg.2 ⟨rfl, OpI_int.2 (OpI_int.2 ?_)⟩)
  refine copy_of (by rw [zc_sec]; rfl) rfl (one_secV _) fun w2 hb2 k2 z2 => ?_
  exact (Cb_true (q := _)).2 (Ret_nil.2 (hK w2 (k1.trans k2)))
theorem nilNew {room : Int} (h1 : 1 ≤ room) (h2 : room ≤ 64) (hK : ∀ w', Keep (fun _ => False) w w' → R (.tuple #[.pointer none, .int .i64 2]) w') : CallV Try.prog 12 #[.pointer none, .pointer none, .int .i64 room] w R := by
  apply C_NilNew
  unfold F_NilNew
  apply C_NilResume
  unfold F_NilResume
  refine cache_New h1 h2 fun c mp w1 hc k1 hcb hmb => ?_
  refine T2_mk.2 (Or.inr ⟨c, 0, rfl, OpI_int.2 ⟨rfl, rfl, rfl, rfl, Ret_nil.2 ?_⟩⟩)
  exact T2_mk.2 (Or.inl ⟨rfl, OpI_int.2 (Ret_nil.2 (hK w1 k1))⟩)
theorem mirNil_walk {n lba version : Int} {d : Sec} : CallV Try.prog 8 #[.int .i64 n, .int .i64 lba, .agg (secV d), .int .u64 version] w fun v w' => v = .bool true ∧ Below w.heap.size w w' := by
  apply C_ravelinlaw12_MirrorNil
  unfold F_ravelinlaw12_MirrorNil
  refine alc_fresh fun w0 hb0 k0 z0 => ?_
  refine LdA_all hb0 rfl ?_
  refine nilPut fun w1 k1 => ?_
  refine T2_mk.2 (OpI_int.2 (OpI_int.2 ?_))
  refine nilGet fun w2 k2 => ?_
  refine T3_mk.2 (OpA_agg.2 ⟨rfl, OpI_int.2 (OpI_int.2 ?_)⟩)
  refine copy_of (by rw [zc_sec]; rfl) rfl (one_secV _) fun w3 hb3 k3 z3 => ?_
  refine nilNext fun w4 k4 => ?_
  refine T2_mk.2 (OpA_agg.2 ⟨rfl, OpI_int.2 ?_⟩)
  refine copy_of zc_rc rfl (one_recV _) fun w5 hb5 k5 z5 => ?_
  refine nilNew (by decide) (by decide) fun w6 k6 => ?_
  refine T2_mk.2 (Or.inl ⟨rfl, OpI_int.2 ?_⟩)
  have k06 := ((((((k0.trans k1).trans k2).trans k3).trans k4).trans k5).trans k6)
  refine CallV.mono aw12 ?_
  rintro _ w7 ⟨rfl, k7⟩
  refine OpB_bool.2 ⟨rfl, rfl, rfl, rfl, rfl, rfl, rfl, rfl, rfl, rfl, (Cb_true (q := _)).2 ?_⟩
  refine nilFlushed fun w8 k8 => OpI_int.2 ((Cb_true (q := _)).2 ?_)
  have k08 := (k06.trans k7).trans k8
  refine C_PNilStamp (Ret_nil.2 (OpI_int.2 ((Cb_true (q := _)).2 ?_)))
  refine C_PNilTake (Ret_nil.2 (OpI_int.2 ((Cb_true (q := _)).2 ?_)))
  refine C_PNilLeave (Ret_nil.2 (OpI_int.2 ((Cb_true (q := _)).2 ?_)))
  refine C_PNilJoin (Ret_nil.2 (OpI_int.2 ((Cb_true (q := _)).2 ?_)))
  refine C_PNilCompact (Ret_nil.2 (OpI_int.2 ((Cb_true (q := _)).2 ?_)))
  refine C_PNilDirty (Ret_nil.2 (OpS_slice.2 ((Cb_true (q := _)).2 ?_)))
  refine C_PNilFull (Ret_nil.2 (OpB_bool.2 ((Cb_true (q := _)).2 ?_)))
  refine C_PNilUp (Ret_nil.2 (OpS_slice.2 (Ret_nil.2 ⟨rfl, k08.below⟩)))
end calls
end Go.Proofs
