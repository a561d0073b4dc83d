/-
  A nil club answers as the chapter says; MemberNil.
-/
import Derived.Test.YtdjlmpkjdgmkkaaMemBack
import Derived.Test.YtdjlmpkjdgmkkaaFMemNil
namespace Go.Proofs
open Go Go.Ev Go.RowKit
set_option linter.unusedSimpArgs false
set_option linter.unusedVariables false
set_option maxRecDepth 100000
theorem nil_side {n : Int} {w : World} {R : Value → World → Prop} (h : R (.pointer none) w) : CallV Try.prog 48 #[.pointer none, .int .i64 n] w R := by
  apply C_NilSide
  unfold F_NilSide
  simpa using h
theorem nil_drive {n : Int} {w : World} {R : Value → World → Prop} (h : R (.pointer none) w) : CallV Try.prog 55 #[.pointer none, .int .i64 n] w R := by
  apply C_NilDrive
  unfold F_NilDrive
  simpa using h
theorem nil_Tick {n : Int} {w : World} {R : Value → World → Prop} (h : R (.int .i64 2) w) : CallV Try.prog 23 #[.pointer none, .int .i64 n] w R := by
  apply C_NilTick
  unfold F_NilTick
  refine nil_side ?_
  simpa using h
theorem nil_Beat {n : Int} {w : World} {R : Value → World → Prop} (h : R (.int .i64 2) w) : CallV Try.prog 21 #[.pointer none, .int .i64 n] w R := by
  apply C_NilBeat
  unfold F_NilBeat
  refine nil_side ?_
  simpa using h
theorem nil_Join {n : Int} {w : World} {R : Value → World → Prop} (h : R (.int .i64 2) w) : CallV Try.prog 22 #[.pointer none, .int .i64 n] w R := by
  apply C_NilJoin
  unfold F_NilJoin
  refine nil_side ?_
  simpa using h
theorem nil_Crash {n : Int} {w : World} {R : Value → World → Prop} (h : R (.int .i64 2) w) : CallV Try.prog 19 #[.pointer none, .int .i64 n] w R := by
  apply C_NilCrash
  unfold F_NilCrash
  refine nil_side ?_
  simpa using h
theorem nil_Restart {n : Int} {w : World} {R : Value → World → Prop} (h : R (.int .i64 2) w) : CallV Try.prog 25 #[.pointer none, .int .i64 n] w R := by
  apply C_NilRestart
  unfold F_NilRestart
  refine nil_side ?_
  simpa using h
theorem nil_Lose {n : Int} {w : World} {R : Value → World → Prop} (h : R (.int .i64 2) w) : CallV Try.prog 36 #[.pointer none, .int .i64 n] w R := by
  apply C_NilLose
  unfold F_NilLose
  refine nil_drive ?_
  simpa using h
theorem nil_Renew {n : Int} {w : World} {R : Value → World → Prop} (h : R (.int .i64 2) w) : CallV Try.prog 38 #[.pointer none, .int .i64 n] w R := by
  apply C_NilRenew
  unfold F_NilRenew
  refine nil_drive ?_
  simpa using h
theorem nil_Claim {n : Int} {w : World} {R : Value → World → Prop} (h : R (.tuple #[.int .u32 0, .int .i64 2]) w) : CallV Try.prog 24 #[.pointer none, .int .i64 n] w R := by
  apply C_NilClaim
  unfold F_NilClaim
  refine nil_side ?_
  simpa using h
theorem nil_Epoch {n : Int} {w : World} {R : Value → World → Prop} (h : R (.tuple #[.int .u32 0, .int .i64 2]) w) : CallV Try.prog 40 #[.pointer none, .int .i64 n] w R := by
  apply C_NilEpoch
  unfold F_NilEpoch
  refine nil_side ?_
  simpa using h
theorem nil_Suspects {n : Int} {w : World} {R : Value → World → Prop} (h : R (.bool false) w) : CallV Try.prog 26 #[.pointer none, .int .i64 n] w R := by
  apply C_NilSuspects
  unfold F_NilSuspects
  refine nil_side ?_
  simpa using h
theorem nil_Ready {n : Int} {w : World} {R : Value → World → Prop} (h : ∀ d, R (.bool false) (w.dr d)) : CallV Try.prog 20 #[.pointer none, .int .i64 n] w R := by
  apply C_NilReady
  unfold F_NilReady
  refine nil_side ?_
  simp only [OpP_none, Ret_nil]
  exact fun d => ⟨fun _ => True, trivial, trivial, h d⟩
theorem nil_Write {n disk : Int} {w : World} {R : Value → World → Prop} (h : R (.int .i64 2) w) : CallV Try.prog 32 #[.pointer none, .int .i64 n, .int .i64 disk] w R := by
  apply C_NilWrite
  unfold F_NilWrite
  refine nil_side ?_
  simp only [OpP_none]
  refine nil_drive ?_
  simpa using h

theorem memberNil_walk {a b : Int} {W : World} : CallV Try.prog 7 #[.int .i64 a, .int .i64 b] W fun v w' => v = .bool true ∧ Below W.heap.size W w' := by
  apply C_ravelinlaw15_MemberNil
  unfold F_ravelinlaw15_MemberNil
  refine nil_Claim ?_
  simp only [T2_mk, OpI_int]
  refine nil_Epoch ?_
  simp only [T2_mk, OpI_int]
  refine law15_awake fun w1 k1 => ?_
  simp only [OpB_bool, Req_true, Req_rfl]
  rw [show (cond (cond true ((2 : Int) == 2) false) ((2 : Int) == 2) false) = true from rfl, Cb_true]
  refine nil_Tick ?_
  simp only [OpI_int]
  rw [show ((2 : Int) == 2) = true from rfl, Cb_true]
  refine nil_Beat ?_
  simp only [OpI_int]
  rw [show ((2 : Int) == 2) = true from rfl, Cb_true]
  refine nil_Suspects ?_
  simp only [OpB_bool]
  rw [show (!false) = true from rfl, Cb_true]
  refine nil_Ready fun d => ?_
  simp only [OpB_bool]
  rw [show (!false) = true from rfl, Cb_true]
  refine nil_Join ?_
  simp only [OpI_int]
  rw [show ((2 : Int) == 2) = true from rfl, Cb_true]
  refine nil_Write ?_
  simp only [OpI_int]
  rw [show ((2 : Int) == 2) = true from rfl, Cb_true]
  refine nil_Crash ?_
  simp only [OpI_int]
  rw [show ((2 : Int) == 2) = true from rfl, Cb_true]
  refine nil_Restart ?_
  simp only [OpI_int]
  rw [show ((2 : Int) == 2) = true from rfl, Cb_true]
  refine nil_Lose ?_
  simp only [OpI_int]
  rw [show ((2 : Int) == 2) = true from rfl, Cb_true]
  refine nil_Renew ?_
  simp only [OpI_int, Ret_nil]
  first | exact ⟨rfl, (k1.dr d).below⟩ | exact ⟨trivial, (k1.dr d).below⟩
end Go.Proofs
