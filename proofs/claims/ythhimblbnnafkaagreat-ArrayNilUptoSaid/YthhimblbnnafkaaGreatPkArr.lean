/-
  SEVERAL TEXTS IN ONE: FDesk, Desk, Lock, CacheLen, FArr, FArr2, Arr, ArrM, FGate, ArrD, ArrRW, FLaw20, FForms20, FNilA, FNil20, ArrL.
-/
import Derived.Test.YthhimblbnnafkaaGreatChecked
import Derived.Test.YthhimblbnnafkaaGreatEv
import Derived.Test.YthhimblbnnafkaaGreatMix
import Derived.Test.YthhimblbnnafkaaGreatLib
import Derived.Laws.Small
import Derived.Test.YthhimblbnnafkaaGreatDef
import Derived.Test.YthhimblbnnafkaaGreatProg
import Derived.Conc.MuLib
import Derived.KernelRfl
import Derived.Test.YthhimblbnnafkaaGreatPkPair
import Derived.Test.YthhimblbnnafkaaGreatRedoM
import Derived.Test.YthhimblbnnafkaaGreatPkRefs
import Derived.Test.YthhimblbnnafkaaGreatArgs9
/- PRINTED BY pr.py (own program): what the evaluator of <Name>Ev makes of the code of some functions. -/
namespace Go.Proofs
open Go.Ev
set_option linter.unusedVariables false
set_option maxRecDepth 100000
def F_reserve_New  (w : World) (R : Value → World → Prop) : Prop :=
  DoQ Tryz.prog (Instr.build 229 #[]) (At w) fun v => OpA 19 v fun cs => Alc 229 cs w fun b w => Ret [] (R (.pointer (some ⟨b, 0, none⟩)) w)
theorem C_reserve_New  {w : World} {R : Value → World → Prop} (h : F_reserve_New  w R) : CallV Tryz.prog 72 #[] w R := by
  exact calls_of_F (args := []) (mkAnn [] [] [] [] []) Tryz_mixed Tryz.func72 rfl rfl (by kernel_rfl) h
def F_reserve_Desk_in (d : Nat) (init : Int) (w : World) (R : Value → World → Prop) : Prop :=
  Req (true = true) (Req (true = true) (Req ((decide (init ≥ 0)) = (decide (init ≥ 0))) (Req ((decide (init ≥ 0)) = (decide (init ≥ 0))) (Ret [] (R (.bool (cond (decide
  (init ≥ 0)) (decide (init < 16)) false)) w)))))
theorem C_reserve_Desk_in {d : Nat} {init : Int} {w : World} {R : Value → World → Prop} (h : F_reserve_Desk_in d init w R) : CallV Tryz.prog 223 #[.pointer (some ⟨d, 0, none⟩), .int .i64 init] w R := by
  exact calls_of_F (args := [.pointer (some ⟨d, 0, none⟩), .int .i64 init]) (mkAnn [] [] [] [] []) Tryz_mixed Tryz.func223 rfl rfl (by kernel_rfl) h
def F_reserve_Desk_fault (d : Nat) (init : Int) (w : World) (R : Value → World → Prop) : Prop :=
  CallV Tryz.prog 223 #[.pointer (some ⟨d, 0, none⟩), .int .i64 init] w fun v w => OpB v fun g => Cb (!g) (Ret [] (R (.int .i64 2) w)) (Req (0 ≤ init ∧ init < 16) (LdV d (0
  + Int.toNat init * 1) (At w) fun v1 => OpI .u64 v1 fun n => Cb (n == 0) (Ret [] (R (.int .i64 10) w)) (Ret [] (R (.int .i64 0) w))))
theorem C_reserve_Desk_fault {d : Nat} {init : Int} {w : World} {R : Value → World → Prop} (h : F_reserve_Desk_fault d init w R) : CallV Tryz.prog 224 #[.pointer (some ⟨d, 0, none⟩), .int .i64 init] w R := by
  exact calls_of_F (args := [.pointer (some ⟨d, 0, none⟩), .int .i64 init]) (mkAnn [] [] [] [] []) Tryz_mixed Tryz.func224 rfl rfl (by kernel_rfl) h
def F_reserve_Desk_Register (d : Nat) (init : Int) (key : Int) (keep : Bool) (w : World) (R : Value → World → Prop) : Prop :=
  CallV Tryz.prog 223 #[.pointer (some ⟨d, 0, none⟩), .int .i64 init] w fun v w => OpB v fun g => Cb (!g) (Ret [] (R (.int .i64 2) w)) (Req (0 ≤ init ∧ init < 16) (StV d (0
  + Int.toNat init * 1) (.int .u64 key) w fun w => StV d 18 (.bool keep) w fun w => Cb (key == 0) (LdV d 16 (At w) fun v1 => OpI .i64 v1 fun n => Cb (n == init) (StV d 17
  (.int .i64 0) w fun w => Ret [] (R (.int .i64 0) w)) (Ret [] (R (.int .i64 0) w))) (Ret [] (R (.int .i64 0) w))))
theorem C_reserve_Desk_Register {d : Nat} {init : Int} {key : Int} {keep : Bool} {w : World} {R : Value → World → Prop} (h : F_reserve_Desk_Register d init key keep w R) : CallV Tryz.prog 149 #[.pointer (some ⟨d, 0, none⟩), .int .i64 init, .int .u64 key, .bool keep] w R := by
  exact calls_of_F (args := [.pointer (some ⟨d, 0, none⟩), .int .i64 init, .int .u64 key, .bool keep]) (mkAnn [] [] [] [] []) Tryz_mixed Tryz.func149 rfl rfl (by kernel_rfl) h
def F_reserve_Desk_Reserve (d : Nat) (init : Int) (kind : Int) (w : World) (R : Value → World → Prop) : Prop :=
  CallV Tryz.prog 224 #[.pointer (some ⟨d, 0, none⟩), .int .i64 init] w fun v w => OpI .i64 v fun n => Req ((n == 2) = (n == 2)) (Req ((n == 2) = (n == 2)) (Req ((cond (n ==
  2) true (decide (kind < 1))) = (cond (n == 2) true (decide (kind < 1)))) (Req ((cond (n == 2) true (decide (kind < 1))) = (cond (n == 2) true (decide (kind < 1)))) (Cb
  (cond (cond (n == 2) true (decide (kind < 1))) true (decide (kind > 4))) (Ret [] (R (.int .i64 2) w)) (Cb (n != 0) (Ret [] (R (.int .i64 n) w)) (LdV d 17 (At w) fun v1 =>
  OpI .i64 v1 fun n1 => Cb (n1 != 0) (LdV d 16 (At w) fun v2 => OpI .i64 v2 fun n2 => Cb (n2 != init) (Ret [] (R (.int .i64 12) w)) (LdV d 17 (At w) fun v3 => OpI .i64 v3
  fun n3 => Cb (n3 != kind) (Ret [] (R (.int .i64 12) w)) (StV d 16 (.int .i64 init) w fun w => StV d 17 (.int .i64 kind) w fun w => Ret [] (R (.int .i64 0) w)))) (StV d 16
  (.int .i64 init) w fun w => StV d 17 (.int .i64 kind) w fun w => Ret [] (R (.int .i64 0) w))))))))
theorem C_reserve_Desk_Reserve {d : Nat} {init : Int} {kind : Int} {w : World} {R : Value → World → Prop} (h : F_reserve_Desk_Reserve d init kind w R) : CallV Tryz.prog 150 #[.pointer (some ⟨d, 0, none⟩), .int .i64 init, .int .i64 kind] w R := by
  exact calls_of_F (args := [.pointer (some ⟨d, 0, none⟩), .int .i64 init, .int .i64 kind]) (mkAnn [] [] [] [] []) Tryz_mixed Tryz.func150 rfl rfl (by kernel_rfl) h
def F_reserve_Desk_Release (d : Nat) (init : Int) (w : World) (R : Value → World → Prop) : Prop :=
  CallV Tryz.prog 224 #[.pointer (some ⟨d, 0, none⟩), .int .i64 init] w fun v w => OpI .i64 v fun n => Cb (n != 0) (Ret [] (R (.int .i64 n) w)) (LdV d 17 (At w) fun v1 =>
  OpI .i64 v1 fun n1 => Cb (n1 != 0) (LdV d 16 (At w) fun v2 => OpI .i64 v2 fun n2 => Cb (n2 != init) (Ret [] (R (.int .i64 12) w)) (StV d 17 (.int .i64 0) w fun w => Ret []
  (R (.int .i64 0) w))) (StV d 17 (.int .i64 0) w fun w => Ret [] (R (.int .i64 0) w)))
theorem C_reserve_Desk_Release {d : Nat} {init : Int} {w : World} {R : Value → World → Prop} (h : F_reserve_Desk_Release d init w R) : CallV Tryz.prog 151 #[.pointer (some ⟨d, 0, none⟩), .int .i64 init] w R := by
  exact calls_of_F (args := [.pointer (some ⟨d, 0, none⟩), .int .i64 init]) (mkAnn [] [] [] [] []) Tryz_mixed Tryz.func151 rfl rfl (by kernel_rfl) h
def F_reserve_Desk_Clear (d : Nat) (init : Int) (w : World) (R : Value → World → Prop) : Prop :=
  CallV Tryz.prog 224 #[.pointer (some ⟨d, 0, none⟩), .int .i64 init] w fun v w => OpI .i64 v fun n => Cb (n != 0) (Ret [] (R (.int .i64 n) w)) (CallV Tryz.prog 162
  #[.pointer (some ⟨d, 0, none⟩)] w fun v1 w => Ret [] (R (.int .i64 0) w))
theorem C_reserve_Desk_Clear {d : Nat} {init : Int} {w : World} {R : Value → World → Prop} (h : F_reserve_Desk_Clear d init w R) : CallV Tryz.prog 152 #[.pointer (some ⟨d, 0, none⟩), .int .i64 init] w R := by
  exact calls_of_F (args := [.pointer (some ⟨d, 0, none⟩), .int .i64 init]) (mkAnn [] [] [] [] []) Tryz_mixed Tryz.func152 rfl rfl (by kernel_rfl) h
def F_reserve_Desk_wipe (d : Nat) (w : World) (R : Value → World → Prop) : Prop :=
  DoQ Tryz.prog (Instr.build 227 #[]) (At w) fun v => OpA 16 v fun cs => StA 16 d 0 cs w fun w => StV d 17 (.int .i64 0) w fun w => StV d 16 (.int .i64 0) w fun w => Ret []
  (R (.tuple #[]) w)
theorem C_reserve_Desk_wipe {d : Nat} {w : World} {R : Value → World → Prop} (h : F_reserve_Desk_wipe d w R) : CallV Tryz.prog 162 #[.pointer (some ⟨d, 0, none⟩)] w R := by
  exact calls_of_F (args := [.pointer (some ⟨d, 0, none⟩)]) (mkAnn [] [] [] [] []) Tryz_mixed Tryz.func162 rfl rfl (by kernel_rfl) h
def F_reserve_Desk_Preempt (d : Nat) (init : Int) (key : Int) (w : World) (R : Value → World → Prop) : Prop :=
  CallV Tryz.prog 224 #[.pointer (some ⟨d, 0, none⟩), .int .i64 init] w fun v w => OpI .i64 v fun n => Req ((n == 2) = (n == 2)) (Req ((n == 2) = (n == 2)) (Cb (cond (n ==
  2) true (key == 0)) (Ret [] (R (.int .i64 2) w)) (Cb (n != 0) (Ret [] (R (.int .i64 n) w)) (LdA 16 d 0 (At w) fun cs => LoopC (σ := Bool × Bool × Int × Unit) (fun _ s1 w
  K1 => Cb (decide (s1.2.2.1 < 16)) (Req (0 ≤ s1.2.2.1 ∧ s1.2.2.1 < 16) (Fld cs (Int.toNat s1.2.2.1 * 1) fun v1 => OpI .u64 v1 fun n1 => Req ((s1.2.2.1 != init) = (s1.2.2.1
  != init)) (Req ((s1.2.2.1 != init) = (s1.2.2.1 != init)) (Req ((s1.2.2.1 != init) = (s1.2.2.1 != init)) (Cb (cond (s1.2.2.1 != init) (n1 == key) false) (Cb s1.2.1 (Drw w
  fun w => Req (0 ≤ s1.2.2.1 ∧ s1.2.2.1 < 16) (StV d (0 + Int.toNat s1.2.2.1 * 1) (.int .u64 0) w fun w => K1 (true, (true, (IntKind.wrap .i64 (s1.2.2.1 + 1), ()))) w)) (LdV
  d 17 (At w) fun v2 => OpI .i64 v2 fun n2 => Cb (n2 != 0) (LdV d 16 (At w) fun v3 => OpI .i64 v3 fun n3 => Drw w fun w => Req (0 ≤ s1.2.2.1 ∧ s1.2.2.1 < 16) (StV d (0 +
  Int.toNat s1.2.2.1 * 1) (.int .u64 0) w fun w => K1 (true, (n3 == s1.2.2.1, (IntKind.wrap .i64 (s1.2.2.1 + 1), ()))) w)) (Drw w fun w => Req (0 ≤ s1.2.2.1 ∧ s1.2.2.1 < 16)
  (StV d (0 + Int.toNat s1.2.2.1 * 1) (.int .u64 0) w fun w => K1 (true, (false, (IntKind.wrap .i64 (s1.2.2.1 + 1), ()))) w)))) (K1 (s1.1, (s1.2.1, (IntKind.wrap .i64
  (s1.2.2.1 + 1), ()))) w)))))) (Cb (!s1.1) (Ret [] (R (.int .i64 10) w)) (Cb s1.2.1 (StV d 16 (.int .i64 init) w fun w => Ret [] (R (.int .i64 0) w)) (Ret [] (R (.int .i64
  0) w))))) (false, (false, (0, ()))) w))))
theorem C_reserve_Desk_Preempt {d : Nat} {init : Int} {key : Int} {w : World} {R : Value → World → Prop} (h : F_reserve_Desk_Preempt d init key w R) : CallV Tryz.prog 153 #[.pointer (some ⟨d, 0, none⟩), .int .i64 init, .int .u64 key] w R := by
  exact calls_of_F (args := [.pointer (some ⟨d, 0, none⟩), .int .i64 init, .int .u64 key]) (mkAnn [(8, [(8, .bool), (9, .bool), (30, (.int .i64))])] [] [] [] []) Tryz_mixed Tryz.func153 rfl rfl (by kernel_rfl) h
def F_reserve_Desk_May (d : Nat) (init : Int) (write : Bool) (w : World) (R : Value → World → Prop) : Prop :=
  CallV Tryz.prog 223 #[.pointer (some ⟨d, 0, none⟩), .int .i64 init] w fun v w => OpB v fun g => Cb (!g) (Ret [] (R (.bool false) w)) (LdV d 17 (At w) fun v1 => OpI .i64 v1
  fun n => Cb (n == 0) (Ret [] (R (.bool true) w)) (LdV d 16 (At w) fun v2 => OpI .i64 v2 fun n1 => Cb (n1 == init) (Ret [] (R (.bool true) w)) (LdV d 17 (At w) fun v3 =>
  OpI .i64 v3 fun n2 => Cb (n2 == 1) (Ret [] (R (.bool (!write)) w)) (Cb (n2 == 3) (Cb (!write) (Ret [] (R (.bool true) w)) (Req (0 ≤ init ∧ init < 16) (LdV d (0 + Int.toNat
  init * 1) (At w) fun v4 => OpI .u64 v4 fun n3 => Ret [] (R (.bool (n3 != 0)) w)))) (Cb (n2 == 4) (Req (0 ≤ init ∧ init < 16) (LdV d (0 + Int.toNat init * 1) (At w) fun v5
  => OpI .u64 v5 fun n4 => Ret [] (R (.bool (n4 != 0)) w))) (Ret [] (R (.bool false) w)))))))
theorem C_reserve_Desk_May {d : Nat} {init : Int} {write : Bool} {w : World} {R : Value → World → Prop} (h : F_reserve_Desk_May d init write w R) : CallV Tryz.prog 148 #[.pointer (some ⟨d, 0, none⟩), .int .i64 init, .bool write] w R := by
  exact calls_of_F (args := [.pointer (some ⟨d, 0, none⟩), .int .i64 init, .bool write]) (mkAnn [] [] [] [] []) Tryz_mixed Tryz.func148 rfl rfl (by kernel_rfl) h
def F_reserve_Desk_Lose (d : Nat) (w : World) (R : Value → World → Prop) : Prop :=
  LdV d 18 (At w) fun v => OpB v fun g => Cb (!g) (CallV Tryz.prog 162 #[.pointer (some ⟨d, 0, none⟩)] w fun v1 w => Ret [] (R (.tuple #[]) w)) (Ret [] (R (.tuple #[]) w))
theorem C_reserve_Desk_Lose {d : Nat} {w : World} {R : Value → World → Prop} (h : F_reserve_Desk_Lose d w R) : CallV Tryz.prog 88 #[.pointer (some ⟨d, 0, none⟩)] w R := by
  exact calls_of_F (args := [.pointer (some ⟨d, 0, none⟩)]) (mkAnn [] [] [] [] []) Tryz_mixed Tryz.func88 rfl rfl (by kernel_rfl) h
end Go.Proofs

/-
  THE DESK: registrations and a reservation; what each call answers, and what the desk is behind it.
-/
namespace Go.Proofs
open Go Go.Ev
set_option linter.unusedSimpArgs false
set_option linter.unusedVariables false
set_option maxRecDepth 100000

structure Dk where
  key : Nat → Int
  holder : Int
  kind : Int
  keep : Bool
def dkF (d : Dk) (i : Nat) : Value := if i < 16 then .int .u64 (d.key i) else if i = 16 then .int .i64 d.holder else if i = 17 then .int .i64 d.kind else .bool d.keep
def dkC (d : Dk) : Array Value := ofF 19 (dkF d)
def DkAt (w : World) (b : Nat) (d : Dk) : Prop := Has w b (.cells (dkC d) 229 (0, 0))
def dk0 : Dk := ⟨fun _ => 0, 0, 0, false⟩
def inD (i : Int) : Prop := 0 ≤ i ∧ i < 16
instance (i : Int) : Decidable (inD i) := by unfold inD; infer_instance
def faultD (d : Dk) (i : Int) : Int := if ¬ inD i then 2 else if d.key i.toNat = 0 then 10 else 0
def setK (d : Dk) (i : Nat) (k : Int) : Dk := { d with key := fun j => if j = i then k else d.key j }
def regD (d : Dk) (i key : Int) (keep : Bool) : Int × Dk := if ¬ inD i then (2, d) else (0, { setK d i.toNat key with keep := keep, kind := if key = 0 ∧ d.holder = i then 0 else d.kind })
def resD (d : Dk) (i kind : Int) : Int × Dk :=
  if faultD d i = 2 ∨ kind < 1 ∨ 4 < kind then (2, d) else if faultD d i ≠ 0 then (faultD d i, d)
  else if d.kind ≠ 0 ∧ (d.holder ≠ i ∨ d.kind ≠ kind) then (12, d) else (0, { d with holder := i, kind := kind })
def relD (d : Dk) (i : Int) : Int × Dk := if faultD d i ≠ 0 then (faultD d i, d) else if d.kind ≠ 0 ∧ d.holder ≠ i then (12, d) else (0, { d with kind := 0 })
def wipeD (d : Dk) : Dk := ⟨fun _ => 0, 0, 0, d.keep⟩
def clrD (d : Dk) (i : Int) : Int × Dk := if faultD d i ≠ 0 then (faultD d i, d) else (0, wipeD d)
def hasK (d : Dk) (i key : Int) (n : Nat) : Bool := decide ((n : Int) ≠ i) && decide (d.key n = key)
def outK (d : Dk) (i key : Int) (m : Nat) : Dk := { d with key := fun n => if n < m ∧ hasK d i key n = true then 0 else d.key n }
def fndK (d : Dk) (i key : Int) (m : Nat) : Bool := (List.range m).any (hasK d i key)
def hldK (d : Dk) (i key : Int) (m : Nat) : Bool := (List.range m).any fun n => hasK d i key n && decide (d.kind ≠ 0) && decide (d.holder = (n : Int))
def preD (d : Dk) (i key : Int) : Int × Dk :=
  if faultD d i = 2 ∨ key = 0 then (2, d) else if faultD d i ≠ 0 then (faultD d i, d)
  else if fndK d i key 16 = false then (10, outK d i key 16) else (0, if hldK d i key 16 = true then { outK d i key 16 with holder := i } else outK d i key 16)
def mayD (d : Dk) (i : Int) (wr : Bool) : Bool :=
  if ¬ inD i then false else if d.kind = 0 then true else if d.holder = i then true
  else if d.kind = 1 then !wr else if d.kind = 3 then !wr || decide (d.key i.toNat ≠ 0) else if d.kind = 4 then decide (d.key i.toNat ≠ 0) else false
def loseD (d : Dk) : Dk := if d.keep = true then d else wipeD d
theorem dk_size (d : Dk) : (dkC d).size = 19 := by simp [dkC]
theorem dk_key {d : Dk} {i : Int} (h : inD i) : (dkC d)[0 + Int.toNat i * 1]? = some (.int .u64 (d.key i.toNat)) := by
  have : 0 + Int.toNat i * 1 = i.toNat := by omega
  unfold inD at h
  rw [this, dkC, get_ofF _ (by omega)]
  unfold dkF
  rw [if_pos (by omega)]
theorem dk_holder (d : Dk) : (dkC d)[16]? = some (.int .i64 d.holder) := by rw [dkC, get_ofF _ (by decide)]; rfl
theorem dk_kind (d : Dk) : (dkC d)[17]? = some (.int .i64 d.kind) := by rw [dkC, get_ofF _ (by decide)]; rfl
theorem dk_keep (d : Dk) : (dkC d)[18]? = some (.bool d.keep) := by rw [dkC, get_ofF _ (by decide)]; rfl
theorem dk_set {d e : Dk} {k : Nat} {v : Value} (hk : k < 19) (h : ∀ i, i < 19 → dkF e i = if i = k then v else dkF d i) : (dkC d).setIfInBounds k v = dkC e := by
  rw [dkC, set_ofF, dkC]
  exact ofF_congr fun i hi => (h i hi).symm
theorem dk_setK {d : Dk} {i : Int} (h : inD i) (k : Int) : (dkC d).setIfInBounds (0 + Int.toNat i * 1) (.int .u64 k) = dkC (setK d i.toNat k) := by
  unfold inD at h
  refine dk_set (by omega) fun j hj => ?_
  have e : 0 + Int.toNat i * 1 = i.toNat := by omega
  rw [e]
  unfold dkF setK
  by_cases h1 : j < 16
  · rw [if_pos h1]
    by_cases h2 : j = i.toNat
    · rw [if_pos h2]; simp only [h2, if_true]
    · rw [if_neg h2]; simp only [h2, if_false]; rw [if_pos h1]
  · rw [if_neg h1, if_neg (by omega : ¬ j = i.toNat), if_neg h1]
theorem dk_setH (d : Dk) (x : Int) : (dkC d).setIfInBounds 16 (.int .i64 x) = dkC { d with holder := x } := dk_set (by decide) fun j hj => by
  by_cases h2 : j = 16
  · subst h2; rfl
  · rw [if_neg h2]
    unfold dkF
    by_cases h1 : j < 16
    · rw [if_pos h1, if_pos h1]
    · rw [if_neg h1, if_neg h1, if_neg h2, if_neg h2]
theorem dk_setN (d : Dk) (x : Int) : (dkC d).setIfInBounds 17 (.int .i64 x) = dkC { d with kind := x } := dk_set (by decide) fun j hj => by
  by_cases h2 : j = 17
  · subst h2; rfl
  · rw [if_neg h2]
    unfold dkF
    by_cases h1 : j < 16
    · rw [if_pos h1, if_pos h1]
    · rw [if_neg h1, if_neg h1]
      by_cases h3 : j = 16
      · rw [if_pos h3, if_pos h3]
      · rw [if_neg h3, if_neg h3, if_neg h2, if_neg h2]
theorem dk_setP (d : Dk) (x : Bool) : (dkC d).setIfInBounds 18 (.bool x) = dkC { d with keep := x } := dk_set (by decide) fun j hj => by
  by_cases h2 : j = 18
  · subst h2; rfl
  · rw [if_neg h2]
    unfold dkF
    by_cases h1 : j < 16
    · rw [if_pos h1, if_pos h1]
    · rw [if_neg h1, if_neg h1]
      by_cases h3 : j = 16
      · rw [if_pos h3, if_pos h3]
      · rw [if_neg h3, if_neg h3, if_pos (by omega), if_pos (by omega)]
section calls
variable {w : World} {b : Nat} {d : Dk} {R : Value → World → Prop}
theorem DkAt.put (h : DkAt w b d) {k : Nat} {v : Value} {e : Dk} (hs : (dkC d).setIfInBounds k v = dkC e) (hk : k < 19) (h1 : oneV v = true) {K : World → Prop} (hK : DkAt (w.upd b (.cells (dkC e) 229 (0, 0))) b e → Keep (fun i => i = b) w (w.upd b (.cells (dkC e) 229 (0, 0))) → K (w.upd b (.cells (dkC e) 229 (0, 0)))) : StV b k v w K := by
  refine StV_of h (by rw [dk_size]; exact hk) h1 ?_
  rw [hs]
  exact hK (Has.upd_same h _) (Keep.one _ _ _)
theorem rs_New (hK : ∀ w', DkAt w' w.heap.size dk0 → Keep (fun _ => False) w w' → w'.heap.size = w.heap.size + 1 → R (.pointer (some ⟨w.heap.size, 0, none⟩)) w') : CallV Tryz.prog 72 #[] w R := by
  apply C_reserve_New
  unfold F_reserve_New
  refine DoQ_of (v := .agg (dkC dk0)) (fun _ => run_build _ _ _ _ (by kernel_rfl)) (OpA_agg.2 ⟨dk_size _, ?_⟩)
  rw [Alc_iff]
  exact Ret_nil.2 (hK _ (Has.new _ _) (Keep.new _ _ _) (by simp))
theorem rs_in (i : Int) (hK : R (.bool (decide (inD i))) w) : CallV Tryz.prog 223 #[.pointer (some ⟨b, 0, none⟩), .int .i64 i] w R := by
  apply C_reserve_Desk_in
  unfold F_reserve_Desk_in
  refine ⟨by trivial, by trivial, by trivial, by trivial, Ret_nil.2 ?_⟩
  have e : (cond (decide (i ≥ 0)) (decide (i < 16)) false) = decide (inD i) := by
    unfold inD
    by_cases h : 0 ≤ i
    · simp [h]
    · simp [h]
  rw [e]; exact hK
theorem rs_fault (h : DkAt w b d) (i : Int) (hK : R (.int .i64 (faultD d i)) w) : CallV Tryz.prog 224 #[.pointer (some ⟨b, 0, none⟩), .int .i64 i] w R := by
  apply C_reserve_Desk_fault
  unfold F_reserve_Desk_fault
  refine rs_in i (OpB_bool.2 ?_)
  unfold faultD at hK
  refine Cb_of (fun hc => ?_) (fun hc => ?_)
  · have hc : ¬ inD i := by simpa using hc
    rw [if_pos hc] at hK
    exact Ret_nil.2 hK
  · have hc : inD i := by simpa using hc
    rw [if_neg (fun hn => hn hc)] at hK
    refine ⟨hc, LdV_has h (dk_key hc) (OpI_int.2 ?_)⟩
    refine Cb_of (fun e => ?_) (fun e => ?_)
    · rw [if_pos (by simpa using e)] at hK; exact Ret_nil.2 hK
    · rw [if_neg (by simpa using e)] at hK; exact Ret_nil.2 hK
theorem rs_Register (h : DkAt w b d) (i key : Int) (keep : Bool) (hK : ∀ w', DkAt w' b (regD d i key keep).2 → Keep (fun k => k = b) w w' → R (.int .i64 (regD d i key keep).1) w') :
    CallV Tryz.prog 149 #[.pointer (some ⟨b, 0, none⟩), .int .i64 i, .int .u64 key, .bool keep] w R := by
  apply C_reserve_Desk_Register
  unfold F_reserve_Desk_Register
  refine rs_in i (OpB_bool.2 ?_)
  unfold regD at hK
  refine Cb_of (fun hc => ?_) (fun hc => ?_)
  · have hc : ¬ inD i := by simpa using hc
    rw [if_pos hc] at hK
    exact Ret_nil.2 (hK w h (Keep.refl _ _))
  have hc : inD i := by simpa using hc
  rw [if_neg (fun hn => hn hc)] at hK
  have hc2 : 0 ≤ i ∧ i < 16 := hc
  refine ⟨hc, h.put (dk_setK hc key) (by omega) rfl fun h1 k1 => ?_⟩
  refine h1.put (dk_setP _ keep) (by decide) rfl fun h2 k2 => ?_
  have k02 := k1.trans k2
  refine Cb_of (fun e => ?_) (fun e => ?_)
  · have e : key = 0 := by simpa using e
    refine LdV_has h2 (dk_holder _) (OpI_int.2 ?_)
    refine Cb_of (fun e2 => ?_) (fun e2 => ?_)
    · have e2 : d.holder = i := by simpa [setK] using e2
      rw [if_pos ⟨e, e2⟩] at hK
      exact h2.put (dk_setN _ 0) (by decide) rfl fun h3 k3 => Ret_nil.2 (hK _ h3 (k02.trans k3))
    · have e2 : ¬ d.holder = i := by simpa [setK] using e2
      rw [if_neg (fun hh => e2 hh.2)] at hK
      exact Ret_nil.2 (hK _ h2 k02)
  · have e : ¬ key = 0 := by simpa using e
    rw [if_neg (fun hh => e hh.1)] at hK
    exact Ret_nil.2 (hK _ h2 k02)
theorem rs_Reserve (h : DkAt w b d) (i kind : Int) (hK : ∀ w', DkAt w' b (resD d i kind).2 → Keep (fun k => k = b) w w' → R (.int .i64 (resD d i kind).1) w') :
    CallV Tryz.prog 150 #[.pointer (some ⟨b, 0, none⟩), .int .i64 i, .int .i64 kind] w R := by
  apply C_reserve_Desk_Reserve
  unfold F_reserve_Desk_Reserve
  refine rs_fault h i (OpI_int.2 ⟨by trivial, by trivial, by trivial, by trivial, ?_⟩)
  unfold resD at hK
  have ec : (cond (cond (faultD d i == 2) true (decide (kind < 1))) true (decide (kind > 4))) = decide (faultD d i = 2 ∨ kind < 1 ∨ 4 < kind) := by
    by_cases h1 : faultD d i = 2
    · simp [h1]
    · by_cases h2 : kind < 1
      · simp [h1, h2]
      · simp [h1, h2]
  rw [ec]
  refine Cb_of (fun hc => ?_) (fun hc => ?_)
  · rw [if_pos (by simpa using hc)] at hK
    exact Ret_nil.2 (hK w h (Keep.refl _ _))
  rw [if_neg (by simpa using hc)] at hK
  refine Cb_of (fun h1 => ?_) (fun h1 => ?_)
  · rw [if_pos (by simpa using h1)] at hK
    exact Ret_nil.2 (hK w h (Keep.refl _ _))
  rw [if_neg (by simpa using h1)] at hK
  have good : ∀ {K : Prop}, ¬ (d.kind ≠ 0 ∧ (d.holder ≠ i ∨ d.kind ≠ kind)) → StV b 16 (.int .i64 i) w fun w => StV b 17 (.int .i64 kind) w fun w => Ret [] (R (.int .i64 0) w) := fun hn => by
    rw [if_neg hn] at hK
    exact h.put (dk_setH _ i) (by decide) rfl fun h2 k2 => h2.put (dk_setN _ kind) (by decide) rfl fun h3 k3 => Ret_nil.2 (hK _ h3 (k2.trans k3))
  refine LdV_has h (dk_kind d) (OpI_int.2 ?_)
  refine Cb_of (fun h2 => ?_) (fun h2 => ?_)
  · have h2 : d.kind ≠ 0 := by simpa using h2
    refine LdV_has h (dk_holder d) (OpI_int.2 ?_)
    refine Cb_of (fun h3 => ?_) (fun h3 => ?_)
    · rw [if_pos ⟨h2, Or.inl (by simpa using h3)⟩] at hK
      exact Ret_nil.2 (hK w h (Keep.refl _ _))
    · have h3 : d.holder = i := by simpa using h3
      refine LdV_has h (dk_kind d) (OpI_int.2 ?_)
      refine Cb_of (fun h4 => ?_) (fun h4 => ?_)
      · rw [if_pos ⟨h2, Or.inr (by simpa using h4)⟩] at hK
        exact Ret_nil.2 (hK w h (Keep.refl _ _))
      · have h4 : d.kind = kind := by simpa using h4
        exact good (K := True) fun hh => hh.2.elim (fun x => x h3) (fun x => x h4)
  · have h2 : d.kind = 0 := by simpa using h2
    exact good (K := True) fun hh => hh.1 h2
theorem rs_Release (h : DkAt w b d) (i : Int) (hK : ∀ w', DkAt w' b (relD d i).2 → Keep (fun k => k = b) w w' → R (.int .i64 (relD d i).1) w') :
    CallV Tryz.prog 151 #[.pointer (some ⟨b, 0, none⟩), .int .i64 i] w R := by
  apply C_reserve_Desk_Release
  unfold F_reserve_Desk_Release
  refine rs_fault h i (OpI_int.2 ?_)
  unfold relD at hK
  refine Cb_of (fun h1 => ?_) (fun h1 => ?_)
  · rw [if_pos (by simpa using h1)] at hK
    exact Ret_nil.2 (hK w h (Keep.refl _ _))
  rw [if_neg (by simpa using h1)] at hK
  refine LdV_has h (dk_kind d) (OpI_int.2 ?_)
  refine Cb_of (fun h2 => ?_) (fun h2 => ?_)
  · have h2 : d.kind ≠ 0 := by simpa using h2
    refine LdV_has h (dk_holder d) (OpI_int.2 ?_)
    refine Cb_of (fun h3 => ?_) (fun h3 => ?_)
    · rw [if_pos ⟨h2, by simpa using h3⟩] at hK
      exact Ret_nil.2 (hK w h (Keep.refl _ _))
    · have h3 : d.holder = i := by simpa using h3
      rw [if_neg fun hh => hh.2 h3] at hK
      exact h.put (dk_setN _ 0) (by decide) rfl fun h3 k3 => Ret_nil.2 (hK _ h3 k3)
  · have h2 : d.kind = 0 := by simpa using h2
    rw [if_neg fun hh => hh.1 h2] at hK
    exact h.put (dk_setN _ 0) (by decide) rfl fun h3 k3 => Ret_nil.2 (hK _ h3 k3)
theorem rs_wipe (h : DkAt w b d) (hK : ∀ w', DkAt w' b (wipeD d) → Keep (fun k => k = b) w w' → R (.tuple #[]) w') : CallV Tryz.prog 162 #[.pointer (some ⟨b, 0, none⟩)] w R := by
  apply C_reserve_Desk_wipe
  unfold F_reserve_Desk_wipe
  refine DoQ_of (v := .agg (ofF 16 fun _ => .int .u64 0)) (fun _ => run_build _ _ _ _ (by kernel_rfl)) (OpA_agg.2 ⟨by simp, ?_⟩)
  refine StA_of h (by simp) (by rw [dk_size]; decide) (by
    intro v hv
    have : v ∈ (List.range 16).map fun _ => Value.int .u64 0 := by simpa [ofF] using hv
    obtain ⟨_, _, rfl⟩ := List.mem_map.1 this
    rfl) ?_
  have e : spl (dkC d) 0 (ofF 16 fun _ => .int .u64 0) = dkC { d with key := fun _ => 0 } := by
    unfold spl dkC ofF
    simp only [List.size_toArray, List.length_map, List.length_range]
    rfl
  rw [e]
  have h1 : DkAt (w.upd b (.cells (dkC { d with key := fun _ => 0 }) 229 (0, 0))) b { d with key := fun _ => 0 } := Has.upd_same h _
  have k1 := Keep.one w b (.cells (dkC { d with key := fun _ => 0 }) 229 (0, 0))
  exact h1.put (dk_setN _ 0) (by decide) rfl fun h2 k2 => h2.put (dk_setH _ 0) (by decide) rfl fun h3 k3 => Ret_nil.2 (hK _ h3 ((k1.trans k2).trans k3))
theorem rs_Clear (h : DkAt w b d) (i : Int) (hK : ∀ w', DkAt w' b (clrD d i).2 → Keep (fun k => k = b) w w' → R (.int .i64 (clrD d i).1) w') :
    CallV Tryz.prog 152 #[.pointer (some ⟨b, 0, none⟩), .int .i64 i] w R := by
  apply C_reserve_Desk_Clear
  unfold F_reserve_Desk_Clear
  refine rs_fault h i (OpI_int.2 ?_)
  unfold clrD at hK
  refine Cb_of (fun h1 => ?_) (fun h1 => ?_)
  · rw [if_pos (by simpa using h1)] at hK
    exact Ret_nil.2 (hK w h (Keep.refl _ _))
  rw [if_neg (by simpa using h1)] at hK
  exact rs_wipe h fun w' h' k' => Ret_nil.2 (hK w' h' k')
theorem rs_Lose (h : DkAt w b d) (hK : ∀ w', DkAt w' b (loseD d) → Keep (fun k => k = b) w w' → R (.tuple #[]) w') : CallV Tryz.prog 88 #[.pointer (some ⟨b, 0, none⟩)] w R := by
  apply C_reserve_Desk_Lose
  unfold F_reserve_Desk_Lose
  unfold loseD at hK
  refine LdV_has h (dk_keep d) (OpB_bool.2 ?_)
  refine Cb_of (fun h1 => ?_) (fun h1 => ?_)
  · rw [if_neg (by simpa using h1)] at hK
    exact rs_wipe h fun w' h' k' => Ret_nil.2 (hK w' h' k')
  · rw [if_pos (by simpa using h1)] at hK
    exact Ret_nil.2 (hK w h (Keep.refl _ _))
theorem rs_May (h : DkAt w b d) (i : Int) (wr : Bool) (hK : R (.bool (mayD d i wr)) w) : CallV Tryz.prog 148 #[.pointer (some ⟨b, 0, none⟩), .int .i64 i, .bool wr] w R := by
  apply C_reserve_Desk_May
  unfold F_reserve_Desk_May
  refine rs_in i (OpB_bool.2 ?_)
  unfold mayD at hK
  refine Cb_of (fun hc => ?_) (fun hc => ?_)
  · rw [if_pos (by simpa using hc)] at hK
    exact Ret_nil.2 hK
  have hc : inD i := by simpa using hc
  rw [if_neg (fun hn => hn hc)] at hK
  refine LdV_has h (dk_kind d) (OpI_int.2 ?_)
  refine Cb_of (fun h1 => ?_) (fun h1 => ?_)
  · rw [if_pos (by simpa using h1)] at hK
    exact Ret_nil.2 hK
  rw [if_neg (by simpa using h1)] at hK
  refine LdV_has h (dk_holder d) (OpI_int.2 ?_)
  refine Cb_of (fun h2 => ?_) (fun h2 => ?_)
  · rw [if_pos (by simpa using h2)] at hK
    exact Ret_nil.2 hK
  rw [if_neg (by simpa using h2)] at hK
  refine LdV_has h (dk_kind d) (OpI_int.2 ?_)
  refine Cb_of (fun h3 => ?_) (fun h3 => ?_)
  · rw [if_pos (by simpa using h3)] at hK
    exact Ret_nil.2 hK
  rw [if_neg (by simpa using h3)] at hK
  have en : ∀ x : Int, (x != 0) = decide (x ≠ 0) := fun x => by by_cases h : x = 0 <;> simp [h]
  refine Cb_of (fun h4 => ?_) (fun h4 => ?_)
  · rw [if_pos (by simpa using h4)] at hK
    refine Cb_of (fun h5 => ?_) (fun h5 => ?_)
    · rw [h5, Bool.true_or] at hK
      exact Ret_nil.2 hK
    · rw [h5, Bool.false_or] at hK
      refine ⟨hc, LdV_has h (dk_key hc) (OpI_int.2 (Ret_nil.2 ?_))⟩
      rw [en]; exact hK
  rw [if_neg (by simpa using h4)] at hK
  refine Cb_of (fun h5 => ?_) (fun h5 => ?_)
  · rw [if_pos (by simpa using h5)] at hK
    refine ⟨hc, LdV_has h (dk_key hc) (OpI_int.2 (Ret_nil.2 ?_))⟩
    rw [en]; exact hK
  · rw [if_neg (by simpa using h5)] at hK
    exact Ret_nil.2 hK
theorem range_any_succ (p : Nat → Bool) (m : Nat) : (List.range (m + 1)).any p = ((List.range m).any p || p m) := by
  rw [List.range_succ, List.any_append]
  simp
theorem outK_succ {d : Dk} {i key : Int} {m : Nat} (hm : m < 16) : dkC (outK d i key (m + 1)) = if hasK d i key m = true then (dkC (outK d i key m)).setIfInBounds (0 + Int.toNat (m : Int) * 1) (.int .u64 0) else dkC (outK d i key m) := by
  split
  · rename_i h
    rw [dk_setK (d := outK d i key m) (i := (m : Int)) ⟨by omega, by omega⟩]
    refine ofF_congr fun j hj => ?_
    unfold dkF setK outK
    by_cases h1 : j < 16
    · rw [if_pos h1, if_pos h1]
      simp only [Int.toNat_natCast]
      by_cases h2 : j = m
      · subst h2; rw [if_pos ⟨by omega, h⟩, if_pos rfl]
      · rw [if_neg h2]
        by_cases h3 : j < m
        · by_cases h4 : hasK d i key j = true
          · rw [if_pos ⟨by omega, h4⟩, if_pos ⟨h3, h4⟩]
          · rw [if_neg (fun x => h4 x.2), if_neg (fun x => h4 x.2)]
        · rw [if_neg (fun x => by omega), if_neg (fun x => h3 x.1)]
    · rw [if_neg h1, if_neg h1]
  · rename_i h
    refine ofF_congr fun j hj => ?_
    unfold dkF outK
    by_cases h1 : j < 16
    · rw [if_pos h1, if_pos h1]
      simp only
      by_cases h4 : hasK d i key j = true
      · by_cases h3 : j < m
        · rw [if_pos ⟨by omega, h4⟩, if_pos ⟨h3, h4⟩]
        · have : j ≠ m := fun e => h (e ▸ h4)
          rw [if_neg (fun x => by omega), if_neg (fun x => h3 x.1)]
      · rw [if_neg (fun x => h4 x.2), if_neg (fun x => h4 x.2)]
    · rw [if_neg h1, if_neg h1]
theorem outK_zero (d : Dk) (i key : Int) : dkC (outK d i key 0) = dkC d := ofF_congr fun j hj => by
  unfold dkF outK
  by_cases h1 : j < 16
  · rw [if_pos h1, if_pos h1]
    simp only
    rw [if_neg (by omega)]
  · rw [if_neg h1, if_neg h1]
theorem rs_Preempt (h : DkAt w b d) (i key : Int) (hK : ∀ w', DkAt w' b (preD d i key).2 → Keep (fun k => k = b) w w' → R (.int .i64 (preD d i key).1) w') :
    CallV Tryz.prog 153 #[.pointer (some ⟨b, 0, none⟩), .int .i64 i, .int .u64 key] w R := by
  apply C_reserve_Desk_Preempt
  unfold F_reserve_Desk_Preempt
  refine rs_fault h i (OpI_int.2 ⟨by trivial, by trivial, ?_⟩)
  unfold preD at hK
  have ec : (cond (faultD d i == 2) true (key == 0)) = decide (faultD d i = 2 ∨ key = 0) := by
    by_cases h1 : faultD d i = 2
    · simp [h1]
    · by_cases h2 : key = 0 <;> simp [h1, h2]
  rw [ec]
  refine Cb_of (fun hc => ?_) (fun hc => ?_)
  · rw [if_pos (by simpa using hc)] at hK
    exact Ret_nil.2 (hK w h (Keep.refl _ _))
  rw [if_neg (by simpa using hc)] at hK
  refine Cb_of (fun h1 => ?_) (fun h1 => ?_)
  · rw [if_pos (by simpa using h1)] at hK
    exact Ret_nil.2 (hK w h (Keep.refl _ _))
  rw [if_neg (by simpa using h1)] at hK
  refine LdA_has (cs := ofF 16 fun n => .int .u64 (d.key n)) h (by rw [dk_size]; decide) (by
    apply Array.ext'
    unfold dkC ofF
    simp only [List.extract_toArray]
    rfl) ?_
  refine LoopC_of (σ := Bool × Bool × Int × Unit) (fun st w' => ∃ m : Nat, st.2.2.1 = (m : Int) ∧ m ≤ 16 ∧ st.1 = fndK d i key m ∧ st.2.1 = hldK d i key m ∧ DkAt w' b (outK d i key m) ∧ Keep (fun k => k = b) w w') (fun st _ => (16 - st.2.2.1).toNat)
    ⟨0, rfl, by omega, rfl, rfl, by unfold DkAt; rw [outK_zero]; exact h, Keep.refl _ _⟩ ?_
  rintro _ ⟨f, g, j, u⟩ w1 ⟨m, hj, hm, hf, hg, h2, k2⟩
  simp only at hj hf hg ⊢
  subst hj hf hg
  refine Cb_of (fun hc => ?_) (fun hc => ?_)
  · have hc : m < 16 := by
      have : (m : Int) < 16 := by simpa using hc
      omega
    have ek : IntKind.wrap .i64 ((m : Int) + 1) = ((m + 1 : Nat) : Int) := by rw [wrapI (by omega) (by omega)]; omega
    have hless : ((16 : Int) - IntKind.wrap .i64 ((m : Int) + 1)).toNat < ((16 : Int) - (m : Int)).toNat := by rw [ek]; omega
    refine ⟨⟨by omega, by omega⟩, .int .u64 (d.key m), by
      have : Int.toNat (m : Int) * 1 = m := by omega
      rw [this, get_ofF _ hc], OpI_int.2 ⟨by trivial, by trivial, by trivial, ?_⟩⟩
    have eh : (cond ((m : Int) != i) (d.key m == key) false) = hasK d i key m := by
      unfold hasK
      by_cases e : (m : Int) = i
      · simp [e]
      · have e1 : ((m : Int) != i) = true := bne_iff_ne.2 e
        rw [e1]
        by_cases e2 : d.key m = key <;> simp [e, e2]
    rw [eh]
    have hk2 : (outK d i key m).kind = d.kind := rfl
    have hh2 : (outK d i key m).holder = d.holder := rfl
    have hhd : hldK d i key (m + 1) = (hldK d i key m || (hasK d i key m && decide (d.kind ≠ 0) && decide (d.holder = (m : Int)))) := range_any_succ _ m
    have hfd : fndK d i key (m + 1) = (fndK d i key m || hasK d i key m) := range_any_succ _ m
    have hs := outK_succ (d := d) (i := i) (key := key) hc
    refine Cb_of (fun hh => ?_) (fun hh => ?_)
    · rw [if_pos hh] at hs
      have fin : ∀ (g' : Bool), g' = hldK d i key (m + 1) → ∀ dd : Nat, StV b (0 + Int.toNat (m : Int) * 1) (.int .u64 0) (w1.dr dd) fun w' => ∃ m_1, m_1 < (16 - (m : Int)).toNat ∧ (∃ m_2 : Nat, IntKind.wrap .i64 ((m : Int) + 1) = (m_2 : Int) ∧ m_2 ≤ 16 ∧ true = fndK d i key m_2 ∧ g' = hldK d i key m_2 ∧ DkAt w' b (outK d i key m_2) ∧ Keep (fun k => k = b) w w') ∧ (16 - IntKind.wrap .i64 ((m : Int) + 1)).toNat = m_1 := by
        intro g' hg' dd
        have hd : DkAt (w1.dr dd) b (outK d i key m) := h2
        exact hd.put hs.symm (by omega) rfl fun h3 k3 => ⟨_, hless, ⟨m + 1, ek, by omega, by rw [hfd, hh, Bool.or_true], hg', h3, (k2.dr dd).trans k3⟩, rfl⟩
      refine Cb_of (fun hg => ?_) (fun hg => ?_)
      · exact fun dd => ⟨⟨by omega, by omega⟩, fin true (by rw [hhd, hg]; rfl) dd⟩
      · refine LdV_has h2 (dk_kind _) (OpI_int.2 ?_)
        refine Cb_of (fun h3 => ?_) (fun h3 => ?_)
        · have h3 : d.kind ≠ 0 := by rw [hk2] at h3; simpa using h3
          refine LdV_has h2 (dk_holder _) (OpI_int.2 ?_)
          exact fun dd => ⟨⟨by omega, by omega⟩, fin _ (by
            rw [hhd, hg, hh, Bool.false_or, Bool.true_and, decide_eq_true h3, Bool.true_and, hh2]
            by_cases e : d.holder = (m : Int) <;> simp [e]) dd⟩
        · have h3 : d.kind = 0 := by rw [hk2] at h3; simpa using h3
          exact fun dd => ⟨⟨by omega, by omega⟩, fin false (by rw [hhd, hg, h3]; simp) dd⟩
    · rw [if_neg (by rw [hh]; decide)] at hs
      refine ⟨_, hless, ⟨m + 1, ek, by omega, by rw [hfd, hh, Bool.or_false], by rw [hhd, hh]; simp, by unfold DkAt; rw [hs]; exact h2, k2⟩, rfl⟩
  · have hc : m = 16 := by
      have : ¬ (m : Int) < 16 := by simpa using hc
      omega
    subst hc
    refine Cb_of (fun hf => ?_) (fun hf => ?_)
    · rw [if_pos (by simpa using hf)] at hK
      exact Ret_nil.2 (hK w1 h2 k2)
    · rw [if_neg (by simpa using hf)] at hK
      refine Cb_of (fun hg => ?_) (fun hg => ?_)
      · rw [if_pos hg] at hK
        exact h2.put (dk_setH _ i) (by decide) rfl fun h3 k3 => Ret_nil.2 (hK _ h3 (k2.trans k3))
      · rw [if_neg (by rw [hg]; decide)] at hK
        exact Ret_nil.2 (hK w1 h2 k2)
end calls
end Go.Proofs

/-
  WHERE THIS PROGRAM HOLDS THE FUNCTIONS AND TYPES OF sync.Mutex.
-/
namespace Go.Proofs
abbrev Tryz.muLink : Go.Conc.Locks.MuLink := { lock := 75, unlock := 76, ilock := 141, iunlock := 142, lockSlow := 217, unlockSlow := 220, disable := 213, enable := 215, acquire := 216, relMerge := 218, cas32 := 214, add32 := 219, tMutex := 135, tIMutex := 133, tPMutex := 231, tPIMutex := 318, tPI32 := 320, tUP := 322, tNoCopy := 131, tU32 := 62 }
theorem Tryz.muLib : Go.Conc.Locks.MuLib Tryz.prog Tryz.muLink :=
  ⟨Tryz.func75, Tryz.func76, Tryz.func141, Tryz.func142, Tryz.func213, Tryz.func215, Tryz.func216, Tryz.func218, Tryz.func214, Tryz.func219, Tryz.underlying133, Tryz.runUnderlying133, Tryz.sizeOf133, Tryz.isAgg133, Tryz.zeroValue133, Tryz.underlying135, Tryz.runUnderlying135, Tryz.sizeOf135, Tryz.isAgg135, Tryz.zeroValue135, Tryz.underlying231, Tryz.runUnderlying231, Tryz.sizeOf231, Tryz.isAgg231, Tryz.zeroValue231, Tryz.underlying318, Tryz.runUnderlying318, Tryz.sizeOf318, Tryz.isAgg318, Tryz.zeroValue318, Tryz.underlying320, Tryz.runUnderlying320, Tryz.sizeOf320, Tryz.isAgg320, Tryz.zeroValue320, Tryz.underlying322, Tryz.runUnderlying322, Tryz.sizeOf322, Tryz.isAgg322, Tryz.zeroValue322, Tryz.underlying131, Tryz.runUnderlying131, Tryz.sizeOf131, Tryz.isAgg131, Tryz.zeroValue131, Tryz.underlying21, Tryz.runUnderlying21, Tryz.sizeOf21, Tryz.isAgg21, Tryz.zeroValue21, by kernel_rfl⟩
end Go.Proofs

/-
  THE CACHE: Len.
-/
namespace Go.Proofs
open Go Go.Ev
set_option linter.unusedSimpArgs false
set_option linter.unusedVariables false
set_option maxRecDepth 100000

theorem cache_Len {c m : Nat} {room : Int} {es : List (Int × Ent)} {w : World} {R : Value → World → Prop} (h : CacheAt w c m room es) (hK : R (.int .i64 es.length) w) :
    CallV Tryz.prog 83 #[.pointer (some ⟨c, 0, none⟩)] w R := by
  apply C_cache_Cache_Len
  unfold F_cache_Cache_Len
  refine LdV_has (v := .map (some m)) h.1 rfl ?_
  simp only [OpM_map]
  refine DoQ_of (fun d => run_lenm under_map (h.2.dr d)) ?_
  simpa using hK

end Go.Proofs

/- PRINTED BY pr.py (own program): what the evaluator of <Name>Ev makes of the code of some functions. -/
namespace Go.Proofs
open Go.Ev
set_option linter.unusedVariables false
set_option maxRecDepth 100000
def F_array_New (g : Array Value) (room : Int) (w : World) (R : Value → World → Prop) : Prop :=
  Alc 24 g w fun b w => LdA 3 b 0 (At w) fun cs => CallV Tryz.prog 71 #[.agg cs] w fun v w => OpI .i64 v fun n => Cb (n != 0) (Ret [] (R (.tuple #[.pointer none, .int .i64
  n]) w)) (Req ((decide (room < 1)) = (decide (room < 1))) (Req ((decide (room < 1)) = (decide (room < 1))) (Cb (cond (decide (room < 1)) true (decide (room > 64))) (Ret []
  (R (.tuple #[.pointer none, .int .i64 2]) w)) (JoinC (σ := (Nat × Nat) × Unit) (fun J1 => HeldR w fun S w => LdV b 0 S fun v1 => OpI .i64 v1 fun n1 => (CallV Tryz.prog 52
  #[] w fun v2 w => OpN v2 fun b1 o => Hld (S w) ((CallV Tryz.prog 72 #[] w fun v3 w => OpN v3 fun b2 o1 => Hld (S w) (DoV Tryz.prog (Instr.makeSlice 69 (.int .i64 n1) (.int
  .i64 n1)) w fun v4 w => OpS v4 fun p l c => Hld (S w) (DoQ Tryz.prog (Instr.build 143 #[(1, .pointer (some ⟨b1, o, none⟩)), (6, .pointer (some ⟨b2, o1, none⟩)), (10, .int
  .i64 room), (9, .slice p l c)]) (At w) fun v5 => OpA 21 v5 fun cs1 => Alc 143 cs1 w fun b3 w => Hld (S w) (J1 ((b3, 0), ()) w)))) ∧ (DoV Tryz.prog (Instr.makeSlice 69
  (.int .i64 n1) (.int .i64 n1)) w fun v6 w => OpS v6 fun p1 l1 c1 => Hld (S w) (CallV Tryz.prog 72 #[] w fun v7 w => OpN v7 fun b4 o2 => Hld (S w) (DoQ Tryz.prog
  (Instr.build 143 #[(1, .pointer (some ⟨b1, o, none⟩)), (6, .pointer (some ⟨b4, o2, none⟩)), (10, .int .i64 room), (9, .slice p1 l1 c1)]) (At w) fun v8 => OpA 21 v8 fun cs2
  => Alc 143 cs2 w fun b5 w => Hld (S w) (J1 ((b5, 0), ()) w)))))) ∧ (DoV Tryz.prog (Instr.makeSlice 69 (.int .i64 n1) (.int .i64 n1)) w fun v9 w => OpS v9 fun p2 l2 c2 =>
  Hld (S w) (CallV Tryz.prog 52 #[] w fun v10 w => OpN v10 fun b6 o3 => Hld (S w) (CallV Tryz.prog 72 #[] w fun v11 w => OpN v11 fun b7 o4 => Hld (S w) (DoQ Tryz.prog
  (Instr.build 143 #[(1, .pointer (some ⟨b6, o3, none⟩)), (6, .pointer (some ⟨b7, o4, none⟩)), (10, .int .i64 room), (9, .slice p2 l2 c2)]) (At w) fun v12 => OpA 21 v12 fun
  cs3 => Alc 143 cs3 w fun b8 w => Hld (S w) (J1 ((b8, 0), ()) w)))))) (fun _ s1 w => JoinC (σ := Unit) (fun J2 => HeldR w fun S w => LdA 3 b 0 (At w) fun cs4 => LdV s1.1.1
  (s1.1.2 + 2) (At w) fun v13 => OpN v13 fun b9 o5 => CallV Tryz.prog 53 #[.agg cs4, .pointer (some ⟨b9, o5, none⟩)] w fun v14 w => T2 v14 fun v15 v16 => OpA 4 v15 fun cs5
  => OpI .i64 v16 fun n2 => Hld (S w) (StA 4 s1.1.1 (s1.1.2 + 3) cs5 w fun w => Hld (S w) (J2 () w))) (fun _ s2 w => LoopC (σ := Int × Unit) (fun _ s3 w K3 => Cb (decide
  (s3.1 < 2)) (JoinC (σ := Unit) (fun J4 => HeldR w fun S w => LdV s1.1.1 (s1.1.2 + 2) (At w) fun v17 => OpN v17 fun b10 o6 => CallV Tryz.prog 54 #[.int .i64 65536, .pointer
  (some ⟨b10, o6, none⟩)] w fun v18 w => T2 v18 fun v19 v20 => OpN v19 fun b11 o7 => OpI .i64 v20 fun n3 => Hld (S w) (Req (0 ≤ s3.1 ∧ s3.1 < 2) (StV s1.1.1 (s1.1.2 + 7 +
  Int.toNat s3.1 * 1) (.pointer (some ⟨b11, o7, none⟩)) w fun w => Hld (S w) (J4 () w)))) (fun _ s4 w => JoinC (σ := Unit) (fun J5 => HeldR w fun S w => Req (0 ≤ s3.1 ∧ s3.1
  < 2) (StV s1.1.1 (s1.1.2 + 13 + Int.toNat s3.1 * 2) (.bool true) w fun w => Hld (S w) (Req (0 ≤ s3.1 ∧ s3.1 < 2) (StV s1.1.1 (s1.1.2 + 10 + Int.toNat s3.1 * 1) (.bool
  true) w fun w => Hld (S w) (J5 () w))))) (fun _ s5 w => K3 (IntKind.wrap .i64 (s3.1 + 1), ()) w))) (JoinC (σ := Unit) (fun J6 => HeldR w fun S w => Req (0 ≤ (0 : Int) ∧ (0
  : Int) < 2) (LdV s1.1.1 (s1.1.2 + 7 + Int.toNat 0 * 1) (At w) fun v21 => OpN v21 fun b12 o8 => Req (0 ≤ (1 : Int) ∧ (1 : Int) < 2) (LdV s1.1.1 (s1.1.2 + 7 + Int.toNat 1 *
  1) (At w) fun v22 => OpN v22 fun b13 o9 => CallV Tryz.prog 73 #[.pointer (some ⟨b12, o8, none⟩), .pointer (some ⟨b13, o9, none⟩), .int .i64 room] w fun v23 w => T2 v23 fun
  v24 v25 => OpN v24 fun b14 o10 => OpI .i64 v25 fun n4 => Hld (S w) (StV s1.1.1 (s1.1.2 + 9) (.pointer (some ⟨b14, o10, none⟩)) w fun w => Hld (S w) (J6 () w))))) (fun _ s6
  w => Ret [] (R (.tuple #[.pointer (some ⟨s1.1.1, s1.1.2, none⟩), .int .i64 0]) w)))) (0, ()) w))))))
theorem C_array_New {g : Array Value} {room : Int} {w : World} {R : Value → World → Prop} (h : F_array_New g room w R) : CallV Tryz.prog 13 #[.agg g, .int .i64 room] w R := by
  exact calls_of_F (args := [.agg g, .int .i64 room]) (mkAnnR [(9, [(40, (.int .i64))])] [] [] [] [20, 21, 35, 50, 81, 100020, 100021, 100050, 100081] [] [(6, [(7, .ptr)]), (7, []), (11, []), (12, []), (14, [])]) Tryz_mixed Tryz.func13 rfl rfl (by kernel_rfl) h
def F_array_Array_ready (a : Nat) (side : Int) (w : World) (R : Value → World → Prop) : Prop :=
  JoinC (σ := Bool × Unit) (fun J1 => HeldR w fun S w => Req ((decide (side ≥ 0)) = (decide (side ≥ 0))) (Req ((decide (side ≥ 0)) = (decide (side ≥ 0))) (Cb (cond (decide
  (side ≥ 0)) (decide (side ≤ 1)) false) (LdV a 2 S fun v => OpN v fun b o => CallV Tryz.prog 44 #[.pointer (some ⟨b, o, none⟩)] w fun v1 w => OpB v1 fun g => Hld (S w) (Cb
  g (LdV a 9 S fun v2 => OpP v2 (Hld (S w) (J1 (false, ()) w)) fun b1 o1 => Req (0 ≤ side ∧ side < 2) (LdV a (13 + Int.toNat side * 2) S fun v3 => OpB v3 fun g1 => Cb g1
  (Req (0 ≤ side ∧ side < 2) (LdV a (13 + Int.toNat side * 2 + 1) S fun v4 => OpI .u32 v4 fun n => LdA 4 a 3 (At w) fun cs => CallV Tryz.prog 42 #[.agg cs] w fun v5 w => OpI
  .u32 v5 fun n1 => Hld (S w) (J1 (decide (n ≥ n1), ()) w))) (Hld (S w) (J1 (false, ()) w)))) (Hld (S w) (J1 (false, ()) w)))) (Hld (S w) (Hld (S w) (J1 (false, ()) w))))))
  (fun _ s1 w => Ret [] (R (.bool s1.1) w))
theorem C_array_Array_ready {a : Nat} {side : Int} {w : World} {R : Value → World → Prop} (h : F_array_Array_ready a side w R) : CallV Tryz.prog 78 #[.pointer (some ⟨a, 0, none⟩), .int .i64 side] w R := by
  exact calls_of_F (args := [.pointer (some ⟨a, 0, none⟩), .int .i64 side]) (mkAnnR [] [] [] [] [16, 22, 46] [] [(1, [(4, .bool)])]) Tryz_mixed Tryz.func78 rfl rfl (by kernel_rfl) h
def F_array_Array_first (a : Nat) (w : World) (R : Value → World → Prop) : Prop :=
  LoopC (σ := Int × Unit) (fun _ s1 w K1 => Cb (decide (s1.1 < 2)) (CallV Tryz.prog 78 #[.pointer (some ⟨a, 0, none⟩), .int .i64 s1.1] w fun v w => OpB v fun g => Cb g (Ret
  [] (R (.tuple #[.int .i64 s1.1, .bool true]) w)) (K1 (IntKind.wrap .i64 (s1.1 + 1), ()) w)) (Ret [] (R (.tuple #[.int .i64 0, .bool false]) w))) (0, ()) w
theorem C_array_Array_first {a : Nat} {w : World} {R : Value → World → Prop} (h : F_array_Array_first a w R) : CallV Tryz.prog 161 #[.pointer (some ⟨a, 0, none⟩)] w R := by
  exact calls_of_F (args := [.pointer (some ⟨a, 0, none⟩)]) (mkAnn [(2, [(5, (.int .i64))])] [] [] [] []) Tryz_mixed Tryz.func161 rfl rfl (by kernel_rfl) h
def F_array_Array_alone (a : Nat) (side : Int) (w : World) (R : Value → World → Prop) : Prop :=
  JoinC (σ := Bool × Unit) (fun J1 => Req (0 ≤ IntKind.wrap .i64 (1 - side) ∧ IntKind.wrap .i64 (1 - side) < 2) (LdV a (10 + Int.toNat (IntKind.wrap .i64 (1 - side)) * 1)
  (At w) fun v => OpB v fun g => Cb (!g) (J1 (true, ()) w) (Req (0 ≤ IntKind.wrap .i64 (1 - side) ∧ IntKind.wrap .i64 (1 - side) < 2) (LdV a (13 + Int.toNat (IntKind.wrap
  .i64 (1 - side)) * 2) (At w) fun v1 => OpB v1 fun g1 => Cb g1 (LdV a 17 (At w) fun v2 => OpB v2 fun g2 => J1 (!g2, ()) w) (J1 (false, ()) w))))) (fun _ s1 w => Cb s1.1
  (Ret [] (R (.int .i64 0) w)) (LdV a 9 (At w) fun v3 => OpN v3 fun b o => CallV Tryz.prog 143 #[.pointer (some ⟨b, o, none⟩), .int .i64 (IntKind.wrap .i64 (1 - side))] w
  fun v4 w => OpI .i64 v4 fun n => Req (0 ≤ IntKind.wrap .i64 (1 - side) ∧ IntKind.wrap .i64 (1 - side) < 2) (StV a (10 + Int.toNat (IntKind.wrap .i64 (1 - side)) * 1)
  (.bool false) w fun w => CallV Tryz.prog 144 #[.pointer (some ⟨a, 0, none⟩)] w fun v5 w => OpI .i64 v5 fun n1 => Cb (n1 != 0) (Ret [] (R (.int .i64 n1) w)) (HeldR w fun S
  w => Req (0 ≤ side ∧ side < 2) (LdV a (13 + Int.toNat side * 2 + 1) S fun v6 => OpI .u32 v6 fun n2 => LdA 4 a 3 S fun cs => CallV Tryz.prog 42 #[.agg cs] w fun v7 w => OpI
  .u32 v7 fun n3 => Hld (S w) (DoQ Tryz.prog (Builtin.max_ #[62, 62] 62 #[.int .u32 n2, .int .u32 n3]) (At w) fun v8 => OpI .u32 v8 fun n4 => CallV Tryz.prog 145 #[.int .u32
  n4, .int .i64 side] w fun v9 w => T2 v9 fun v10 v11 => OpI .u32 v10 fun n5 => OpI .i64 v11 fun n6 => Hld (S w) (Cb (n6 != 0) (Ret [] (R (.int .i64 n6) w)) (LdV a 9 (At w)
  fun v12 => OpN v12 fun b1 o1 => CallV Tryz.prog 146 #[.pointer (some ⟨b1, o1, none⟩), .int .u32 n5] w fun v13 w => OpI .i64 v13 fun n7 => Cb (n7 != 0) (Ret [] (R (.int
  .i64 n7) w)) (LdA 4 a 3 (At w) fun cs1 => CallV Tryz.prog 40 #[.agg cs1, .int .u32 n5] w fun v14 w => OpI .i64 v14 fun n8 => Req (0 ≤ side ∧ side < 2) (StV a (13 +
  Int.toNat side * 2 + 1) (.int .u32 n5) w fun w => Ret [] (R (.int .i64 0) w)))))))))))
theorem C_array_Array_alone {a : Nat} {side : Int} {w : World} {R : Value → World → Prop} (h : F_array_Array_alone a side w R) : CallV Tryz.prog 79 #[.pointer (some ⟨a, 0, none⟩), .int .i64 side] w R := by
  exact calls_of_F (args := [.pointer (some ⟨a, 0, none⟩), .int .i64 side]) (mkAnnR [] [] [] [] [63] [] [(2, [(34, .bool)])]) Tryz_mixed Tryz.func79 rfl rfl (by kernel_rfl) h
def F_array_Array_shorten (a : Nat) (w : World) (R : Value → World → Prop) : Prop :=
  LdA 2 a 7 (At w) fun cs => LoopC (σ := Int × Unit) (fun _ s1 w K1 => Cb (decide (s1.1 < 2)) (Req (0 ≤ s1.1 ∧ s1.1 < 2) (Fld cs (Int.toNat s1.1 * 1) fun v => OpN v fun b o
  => Req (0 ≤ s1.1 ∧ s1.1 < 2) (LdV a (10 + Int.toNat s1.1 * 1) (At w) fun v1 => OpB v1 fun g => Cb g (CallV Tryz.prog 221 #[.pointer (some ⟨b, o, none⟩)] w fun v2 w => OpI
  .i64 v2 fun n => Cb (decide (n < 64)) (LdV a 9 (At w) fun v3 => OpN v3 fun b1 o1 => CallV Tryz.prog 168 #[.pointer (some ⟨b1, o1, none⟩)] w fun v4 w => OpI .i64 v4 fun n1
  => Ret [] (R (.int .i64 n1) w)) (K1 (IntKind.wrap .i64 (s1.1 + 1), ()) w)) (K1 (IntKind.wrap .i64 (s1.1 + 1), ()) w)))) (Ret [] (R (.int .i64 0) w))) (0, ()) w
theorem C_array_Array_shorten {a : Nat} {w : World} {R : Value → World → Prop} (h : F_array_Array_shorten a w R) : CallV Tryz.prog 144 #[.pointer (some ⟨a, 0, none⟩)] w R := by
  exact calls_of_F (args := [.pointer (some ⟨a, 0, none⟩)]) (mkAnn [(2, [(9, (.int .i64))])] [] [] [] []) Tryz_mixed Tryz.func144 rfl rfl (by kernel_rfl) h
def F_array_Array_out (a : Nat) (side : Int) (w : World) (R : Value → World → Prop) : Prop :=
  LdV a 9 (At w) fun v => OpN v fun b o => CallV Tryz.prog 157 #[.pointer (some ⟨b, o, none⟩)] w fun v1 w => T2 v1 fun v2 v3 => OpA 19 v2 fun cs => OpI .i64 v3 fun n => Alc
  246 (zc Tryz.prog 246) w fun b1 w => StA 19 b1 0 cs w fun w => Cb (n != 0) (Ret [] (R (.int .i64 n) w)) (CallV Tryz.prog 144 #[.pointer (some ⟨a, 0, none⟩)] w fun v4 w =>
  OpI .i64 v4 fun n1 => Cb (n1 != 0) (Ret [] (R (.int .i64 n1) w)) (LdV a 9 (At w) fun v5 => OpN v5 fun b2 o1 => CallV Tryz.prog 158 #[.pointer (some ⟨b2, o1, none⟩)] w fun
  v6 w => OpI .u64 v6 fun n2 => HeldR w fun S w => LdA 4 a 3 S fun cs1 => LdV a 9 S fun v7 => OpN v7 fun b3 o2 => LdV b1 2 S fun v8 => OpI .i64 v8 fun n3 => LdA 16 b1 3 S
  fun cs2 => Req (0 ≤ side ∧ side < 2) (LdV a (13 + Int.toNat side * 2 + 1) S fun v9 => OpI .u32 v9 fun n4 => CallV Tryz.prog 159 #[.pointer (some ⟨b3, o2, none⟩), .int .i64
  side] w fun v10 w => OpS v10 fun p l c => Hld (S w) (CallV Tryz.prog 57 #[.agg cs1, .slice p l c, .int .u64 n2, .int .i64 n3, .agg cs2, .int .u32 n4] w fun v11 w => OpI
  .i64 v11 fun n5 => Hld (S w) (Cb (n5 != 0) (Ret [] (R (.int .i64 n5) w)) (HeldR w fun S w => LdV a 9 (At w) fun v12 => OpN v12 fun b4 o3 => LdV b1 2 (At w) fun v13 => OpI
  .i64 v13 fun n6 => LdV b1 1 (At w) fun v14 => OpI .u64 v14 fun n7 => CallV Tryz.prog 160 #[.pointer (some ⟨b4, o3, none⟩), .int .i64 n6, .int .u64 n7] w fun v15 w => OpI
  .i64 v15 fun n8 => Hld (S w) (Ret [] (R (.int .i64 n8) w))))))))
theorem C_array_Array_out {a : Nat} {side : Int} {w : World} {R : Value → World → Prop} (h : F_array_Array_out a side w R) : CallV Tryz.prog 84 #[.pointer (some ⟨a, 0, none⟩), .int .i64 side] w R := by
  exact calls_of_F (args := [.pointer (some ⟨a, 0, none⟩), .int .i64 side]) (mkAnn [] [] [] [] [40, 53, 65]) Tryz_mixed Tryz.func84 rfl rfl (by kernel_rfl) h
def F_array_Array_read (a : Nat) (lba : Int) (w : World) (R : Value → World → Prop) : Prop :=
  Alc 37 (zc Tryz.prog 37) w fun b w => LdV a 9 (At w) fun v => OpN v fun b1 o => CallV Tryz.prog 154 #[.pointer (some ⟨b1, o, none⟩), .int .i64 lba] w fun v1 w => T3 v1 fun
  v2 v3 v4 => OpA 16 v2 fun cs => OpI .u64 v3 fun n => OpI .i64 v4 fun n1 => Alc 37 (zc Tryz.prog 37) w fun b2 w => StA 16 b2 0 cs w fun w => Cb (n1 == 0) (LdA 16 b2 0 (At
  w) fun cs1 => StA 16 b 0 cs1 w fun w => LdA 16 b 0 (At w) fun cs2 => Ret [] (R (.tuple #[.agg cs2, .int .i64 n1]) w)) (LdA 4 a 3 (At w) fun cs3 => CallV Tryz.prog 29
  #[.agg cs3, .int .i64 lba] w fun v5 w => T2 v5 fun v6 v7 => OpA 16 v6 fun cs4 => OpI .i64 v7 fun n2 => StA 16 b 0 cs4 w fun w => LdA 16 b 0 (At w) fun cs5 => Ret [] (R
  (.tuple #[.agg cs5, .int .i64 n2]) w))
theorem C_array_Array_read {a : Nat} {lba : Int} {w : World} {R : Value → World → Prop} (h : F_array_Array_read a lba w R) : CallV Tryz.prog 81 #[.pointer (some ⟨a, 0, none⟩), .int .i64 lba] w R := by
  exact calls_of_F (args := [.pointer (some ⟨a, 0, none⟩), .int .i64 lba]) (mkAnn [] [] [] [] []) Tryz_mixed Tryz.func81 rfl rfl (by kernel_rfl) h
def F_array_Array_put (a : Nat) (side : Int) (lba : Int) (data : Array Value) (w : World) (R : Value → World → Prop) : Prop :=
  Alc 37 data w fun b w => LoopC (σ := Unit) (fun _ s1 w K1 => LdV a 9 (At w) fun v => OpN v fun b1 o => CallV Tryz.prog 154 #[.pointer (some ⟨b1, o, none⟩), .int .i64 lba]
  w fun v1 w => T3 v1 fun v2 v3 v4 => OpA 16 v2 fun cs => OpI .u64 v3 fun n => OpI .i64 v4 fun n1 => Alc 37 (zc Tryz.prog 37) w fun b2 w => StA 16 b2 0 cs w fun w => JoinC
  (σ := Bool × Unit) (fun J2 => Cb (n1 == 0) (J2 (true, ()) w) (LdV a 9 (At w) fun v5 => OpN v5 fun b3 o1 => CallV Tryz.prog 155 #[.pointer (some ⟨b3, o1, none⟩)] w fun v6 w
  => OpB v6 fun g => J2 (!g, ()) w)) (fun _ s2 w => Cb s2.1 (CallV Tryz.prog 144 #[.pointer (some ⟨a, 0, none⟩)] w fun v7 w => OpI .i64 v7 fun n2 => Cb (n2 != 0) (Ret [] (R
  (.int .i64 n2) w)) (HeldR w fun S w => LdV a 9 (At w) fun v8 => OpN v8 fun b4 o2 => LdA 16 b 0 (At w) fun cs1 => CallV Tryz.prog 156 #[.pointer (some ⟨b4, o2, none⟩), .int
  .i64 side, .int .i64 lba, .agg cs1] w fun v9 w => T2 v9 fun v10 v11 => OpI .u64 v10 fun n3 => OpI .i64 v11 fun n4 => Hld (S w) (Ret [] (R (.int .i64 n4) w)))) (CallV
  Tryz.prog 84 #[.pointer (some ⟨a, 0, none⟩), .int .i64 side] w fun v12 w => OpI .i64 v12 fun n5 => Cb (n5 != 0) (Ret [] (R (.int .i64 n5) w)) (K1 () w)))) () w
theorem C_array_Array_put {a : Nat} {side : Int} {lba : Int} {data : Array Value} {w : World} {R : Value → World → Prop} (h : F_array_Array_put a side lba data w R) : CallV Tryz.prog 82 #[.pointer (some ⟨a, 0, none⟩), .int .i64 side, .int .i64 lba, .agg data] w R := by
  exact calls_of_F (args := [.pointer (some ⟨a, 0, none⟩), .int .i64 side, .int .i64 lba, .agg data]) (mkAnnR [(1, [])] [] [] [] [55] [] [(2, [(35, .bool)])]) Tryz_mixed Tryz.func82 rfl rfl (by kernel_rfl) h
def F_array_Array_check (a : Nat) (sense : Int) (w : World) (R : Value → World → Prop) : Prop :=
  Alc 34 (zc Tryz.prog 34) w fun b w => LdV a 2 (At w) fun v => OpN v fun b1 o => CallV Tryz.prog 44 #[.pointer (some ⟨b1, o, none⟩)] w fun v1 w => OpB v1 fun g => Cb (!g)
  (DoQ Tryz.prog (Instr.build 34 #[]) (At w) fun v2 => OpA 3 v2 fun cs => StA 3 b 0 cs w fun w => LdA 3 b 0 (At w) fun cs1 => Ret [] (R (.agg cs1) w)) (DoQ Tryz.prog
  (Instr.build 34 #[(0, .int .i64 2), (1, .int .i64 sense)]) (At w) fun v3 => OpA 3 v3 fun cs2 => StA 3 b 0 cs2 w fun w => LdA 3 b 0 (At w) fun cs3 => Ret [] (R (.agg cs3)
  w))
theorem C_array_Array_check {a : Nat} {sense : Int} {w : World} {R : Value → World → Prop} (h : F_array_Array_check a sense w R) : CallV Tryz.prog 77 #[.pointer (some ⟨a, 0, none⟩), .int .i64 sense] w R := by
  exact calls_of_F (args := [.pointer (some ⟨a, 0, none⟩), .int .i64 sense]) (mkAnn [] [] [] [] []) Tryz_mixed Tryz.func77 rfl rfl (by kernel_rfl) h
def F_array_Array_capacity (a : Nat) (w : World) (R : Value → World → Prop) : Prop :=
  LdA 3 a 3 (At w) fun cs => CallV Tryz.prog 140 #[.agg cs] w fun v w => T2 v fun v1 v2 => OpI .i64 v1 fun n => OpI .i64 v2 fun n1 => Ret [] (R (.int .i64 n) w)
theorem C_array_Array_capacity {a : Nat} {w : World} {R : Value → World → Prop} (h : F_array_Array_capacity a w R) : CallV Tryz.prog 74 #[.pointer (some ⟨a, 0, none⟩)] w R := by
  exact calls_of_F (args := [.pointer (some ⟨a, 0, none⟩)]) (mkAnn [] [] [] [] []) Tryz_mixed Tryz.func74 rfl rfl (by kernel_rfl) h
def F_array_Array_begin (a : Nat) (w : World) (R : Value → World → Prop) : Prop :=
  LdV a 2 (At w) fun v => OpN v fun b o => CallV Tryz.prog 44 #[.pointer (some ⟨b, o, none⟩)] w fun v1 w => OpB v1 fun g => Cb (!g) (Ret [] (R (.tuple #[.int .i64 0, .int
  .i64 4]) w)) (CallV Tryz.prog 161 #[.pointer (some ⟨a, 0, none⟩)] w fun v2 w => T2 v2 fun v3 v4 => OpI .i64 v3 fun n => OpB v4 fun g1 => Cb (!g1) (Ret [] (R (.tuple #[.int
  .i64 0, .int .i64 13]) w)) (Ret [] (R (.tuple #[.int .i64 n, .int .i64 0]) w)))
theorem C_array_Array_begin {a : Nat} {w : World} {R : Value → World → Prop} (h : F_array_Array_begin a w R) : CallV Tryz.prog 85 #[.pointer (some ⟨a, 0, none⟩)] w R := by
  exact calls_of_F (args := [.pointer (some ⟨a, 0, none⟩)]) (mkAnn [] [] [] [] []) Tryz_mixed Tryz.func85 rfl rfl (by kernel_rfl) h
def F_array_Array_disk (a : Nat) (n : Int) (w : World) (R : Value → World → Prop) : Prop :=
  LdV a 2 (At w) fun v => OpN v fun b o => CallV Tryz.prog 44 #[.pointer (some ⟨b, o, none⟩)] w fun v1 w => OpB v1 fun g => Cb (!g) (Ret [] (R (.tuple #[.pointer none, .int
  .i64 4]) w)) (Cb (decide (n < 0)) (Ret [] (R (.tuple #[.pointer none, .int .i64 2]) w)) (LdV a 6 (At w) fun v2 => OpS v2 fun p l c => Cb (decide (n ≥ ((l : Nat) : Int)))
  (Ret [] (R (.tuple #[.pointer none, .int .i64 2]) w)) (LdV a 6 (At w) fun v3 => OpS v3 fun p1 l1 c1 => IdxS p1 l1 n 1 fun b1 o1 => LdV b1 o1 (At w) fun v4 => OpN v4 fun b2
  o2 => Ret [] (R (.tuple #[.pointer (some ⟨b2, o2, none⟩), .int .i64 0]) w))))
theorem C_array_Array_disk {a : Nat} {n : Int} {w : World} {R : Value → World → Prop} (h : F_array_Array_disk a n w R) : CallV Tryz.prog 86 #[.pointer (some ⟨a, 0, none⟩), .int .i64 n] w R := by
  exact calls_of_F (args := [.pointer (some ⟨a, 0, none⟩), .int .i64 n]) (mkAnn [] [] [] [] []) Tryz_mixed Tryz.func86 rfl rfl (by kernel_rfl) h
end Go.Proofs

/- PRINTED BY pr.py (own program): what the evaluator of <Name>Ev makes of the code of some functions. -/
namespace Go.Proofs
open Go.Ev
set_option linter.unusedVariables false
set_option maxRecDepth 100000
def F_array_Array_Do (a : Nat) (side : Int) (init : Int) (c : Array Value) (w : World) (R : Value → World → Prop) : Prop :=
  Alc 41 c w fun b w => Alc 34 (zc Tryz.prog 34) w fun b1 w => CallV Tryz.prog 75 #[.pointer (some ⟨a, 0, none⟩)] w fun v w => LdV a 2 (At w) fun v1 => OpN v1 fun b2 o =>
  CallV Tryz.prog 44 #[.pointer (some ⟨b2, o, none⟩)] w fun v2 w => OpB v2 fun g => Cb (!g) (DoQ Tryz.prog (Instr.build 34 #[]) (At w) fun v3 => OpA 3 v3 fun cs => StA 3 b1
  0 cs w fun w => CallDV Tryz.prog 76 #[.pointer (some ⟨a, 0, none⟩)] w fun w => LdA 3 b1 0 (At w) fun cs1 => R (.agg cs1) w) (Req ((decide (side < 0)) = (decide (side <
  0))) (Req ((decide (side < 0)) = (decide (side < 0))) (Cb (cond (decide (side < 0)) true (decide (side > 1))) (CallV Tryz.prog 77 #[.pointer (some ⟨a, 0, none⟩), .int .i64
  5] w fun v4 w => OpA 3 v4 fun cs2 => StA 3 b1 0 cs2 w fun w => CallDV Tryz.prog 76 #[.pointer (some ⟨a, 0, none⟩)] w fun w => LdA 3 b1 0 (At w) fun cs3 => R (.agg cs3) w)
  (CallV Tryz.prog 78 #[.pointer (some ⟨a, 0, none⟩), .int .i64 side] w fun v5 w => OpB v5 fun g1 => Cb (!g1) (CallV Tryz.prog 77 #[.pointer (some ⟨a, 0, none⟩), .int .i64
  2] w fun v6 w => OpA 3 v6 fun cs4 => StA 3 b1 0 cs4 w fun w => CallDV Tryz.prog 76 #[.pointer (some ⟨a, 0, none⟩)] w fun w => LdA 3 b1 0 (At w) fun cs5 => R (.agg cs5) w)
  (CallV Tryz.prog 79 #[.pointer (some ⟨a, 0, none⟩), .int .i64 side] w fun v7 w => OpI .i64 v7 fun n => Cb (n != 0) (CallV Tryz.prog 77 #[.pointer (some ⟨a, 0, none⟩), .int
  .i64 2] w fun v8 w => OpA 3 v8 fun cs6 => StA 3 b1 0 cs6 w fun w => CallDV Tryz.prog 76 #[.pointer (some ⟨a, 0, none⟩)] w fun w => LdA 3 b1 0 (At w) fun cs7 => R (.agg
  cs7) w) (JoinC (σ := (Nat × Nat) × Bool × Unit) (fun J1 => HeldR w fun S w => LdV a 12 S fun v9 => OpN v9 fun b3 o1 => LdA 7 b 0 S fun cs8 => (CallV Tryz.prog 74
  #[.pointer (some ⟨a, 0, none⟩)] w fun v10 w => OpI .i64 v10 fun n1 => Hld (S w) ((CallV Tryz.prog 80 #[.pointer (some ⟨b3, o1, none⟩), .int .i64 n1, .int .i64 init, .agg
  cs8] w fun v11 w => T2 v11 fun v12 v13 => OpA 3 v12 fun cs9 => OpB v13 fun g2 => Hld (S w) (Alc 34 (zc Tryz.prog 34) w fun b4 w => Hld (S w) (StA 3 b4 0 cs9 w fun w => Hld
  (S w) (J1 ((b4, 0), (g2, ())) w)))) ∧ (Alc 34 (zc Tryz.prog 34) w fun b5 w => Hld (S w) (CallV Tryz.prog 80 #[.pointer (some ⟨b3, o1, none⟩), .int .i64 n1, .int .i64 init,
  .agg cs8] w fun v14 w => T2 v14 fun v15 v16 => OpA 3 v15 fun cs10 => OpB v16 fun g3 => Hld (S w) (StA 3 b5 0 cs10 w fun w => Hld (S w) (J1 ((b5, 0), (g3, ())) w)))))) ∧
  (Alc 34 (zc Tryz.prog 34) w fun b6 w => Hld (S w) (CallV Tryz.prog 74 #[.pointer (some ⟨a, 0, none⟩)] w fun v17 w => OpI .i64 v17 fun n2 => Hld (S w) (CallV Tryz.prog 80
  #[.pointer (some ⟨b3, o1, none⟩), .int .i64 n2, .int .i64 init, .agg cs8] w fun v18 w => T2 v18 fun v19 v20 => OpA 3 v19 fun cs11 => OpB v20 fun g4 => Hld (S w) (StA 3 b6
  0 cs11 w fun w => Hld (S w) (J1 ((b6, 0), (g4, ())) w)))))) (fun _ s1 w => Cb s1.2.1 (LdA 3 s1.1.1 s1.1.2 (At w) fun cs12 => StA 3 b1 0 cs12 w fun w => CallDV Tryz.prog 76
  #[.pointer (some ⟨a, 0, none⟩)] w fun w => LdA 3 b1 0 (At w) fun cs13 => R (.agg cs13) w) (DoQ Tryz.prog (Instr.build 34 #[(0, .int .i64 1)]) (At w) fun v21 => OpA 3 v21
  fun cs14 => Alc 34 (zc Tryz.prog 34) w fun b7 w => StA 3 b7 0 cs14 w fun w => LdV b 0 (At w) fun v22 => OpI .i64 v22 fun n3 => JoinC (σ := Unit) (fun J2 => Cb (n3 == 2)
  (LdV b 2 (At w) fun v23 => OpI .i64 v23 fun n4 => LoopC (σ := Int × Unit) (fun _ s3 w K3 => Cb (decide (s3.1 < n4)) (LdV b 1 (At w) fun v24 => OpI .i64 v24 fun n5 => CallV
  Tryz.prog 81 #[.pointer (some ⟨a, 0, none⟩), .int .i64 (IntKind.wrap .i64 (n5 + s3.1))] w fun v25 w => T2 v25 fun v26 v27 => OpA 16 v26 fun cs15 => OpI .i64 v27 fun n6 =>
  Alc 37 (zc Tryz.prog 37) w fun b8 w => StA 16 b8 0 cs15 w fun w => Cb (n6 != 0) (CallV Tryz.prog 77 #[.pointer (some ⟨a, 0, none⟩), .int .i64 3] w fun v28 w => OpA 3 v28
  fun cs16 => StA 3 b1 0 cs16 w fun w => CallDV Tryz.prog 76 #[.pointer (some ⟨a, 0, none⟩)] w fun w => LdA 3 b1 0 (At w) fun cs17 => R (.agg cs17) w) (LdV b7 2 (At w) fun
  v29 => OpS v29 fun p l c1 => LdA 16 b8 0 (At w) fun cs18 => DoV Tryz.prog (Instr.buildSlice 32 1 #[(0, .agg cs18)]) w fun v30 w => OpS v30 fun p1 l1 c2 => DoV Tryz.prog
  (Builtin.append_ #[32, 32] 32 #[.slice p l c1, .slice p1 l1 c2]) w fun v31 w => OpS v31 fun p2 l2 c3 => StV b7 2 (.slice p2 l2 c3) w fun w => K3 (IntKind.wrap .i64 (s3.1 +
  1), ()) w)) (J2 () w)) (0, ()) w) (JoinC (σ := Bool × Unit) (fun J4 => Cb (n3 == 3) (J4 (n3 == 3, ()) w) (J4 (n3 == 6, ()) w)) (fun _ s4 w => Cb s4.1 (LdV b 3 (At w) fun
  v32 => OpS v32 fun p3 l3 c4 => LdV b 0 (At w) fun v33 => OpI .i64 v33 fun n7 => JoinC (σ := (Option Addr × Nat × Nat) × Unit) (fun J5 => Cb (n7 == 6) (LdV b 2 (At w) fun
  v34 => OpI .i64 v34 fun n8 => DoV Tryz.prog (Instr.makeSlice 32 (.int .i64 n8) (.int .i64 n8)) w fun v35 w => OpS v35 fun p4 l4 c5 => J5 ((p4, l4, c5), ()) w) (J5 ((p3,
  l3, c4), ()) w)) (fun _ s5 w => LoopC (σ := Int × Unit) (fun _ s6 w K6 => Cb (decide (s6.1 < ((s5.1.2.1 : Nat) : Int))) (IdxS s5.1.1 s5.1.2.1 s6.1 16 fun b9 o2 => LdA 16
  b9 o2 (At w) fun cs19 => Alc 37 (zc Tryz.prog 37) w fun b10 w => StA 16 b10 0 cs19 w fun w => LdV b 1 (At w) fun v36 => OpI .i64 v36 fun n9 => LdA 16 b10 0 (At w) fun cs20
  => CallV Tryz.prog 82 #[.pointer (some ⟨a, 0, none⟩), .int .i64 side, .int .i64 (IntKind.wrap .i64 (n9 + s6.1)), .agg cs20] w fun v37 w => OpI .i64 v37 fun n10 => Cb (n10
  != 0) (CallV Tryz.prog 77 #[.pointer (some ⟨a, 0, none⟩), .int .i64 13] w fun v38 w => OpA 3 v38 fun cs21 => StA 3 b1 0 cs21 w fun w => CallDV Tryz.prog 76 #[.pointer
  (some ⟨a, 0, none⟩)] w fun w => LdA 3 b1 0 (At w) fun cs22 => R (.agg cs22) w) (K6 (IntKind.wrap .i64 (s6.1 + 1), ()) w)) (J2 () w)) (0, ()) w)) (Cb (n3 == 5) (LdV b 1 (At
  w) fun v39 => OpI .i64 v39 fun n11 => CallV Tryz.prog 81 #[.pointer (some ⟨a, 0, none⟩), .int .i64 n11] w fun v40 w => T2 v40 fun v41 v42 => OpA 16 v41 fun cs23 => OpI
  .i64 v42 fun n12 => Alc 37 (zc Tryz.prog 37) w fun b11 w => StA 16 b11 0 cs23 w fun w => JoinC (σ := Unit) (fun J7 => Cb (n12 != 0) (CallV Tryz.prog 77 #[.pointer (some
  ⟨a, 0, none⟩), .int .i64 3] w fun v43 w => OpA 3 v43 fun cs24 => StA 3 b1 0 cs24 w fun w => CallDV Tryz.prog 76 #[.pointer (some ⟨a, 0, none⟩)] w fun w => LdA 3 b1 0 (At
  w) fun cs25 => R (.agg cs25) w) (LdA 16 b11 0 (At w) fun cs26 => LdV b 3 (At w) fun v44 => OpS v44 fun p5 l5 c6 => IdxS p5 l5 0 16 fun b12 o3 => LdA 16 b12 o3 (At w) fun
  cs27 => EqB Tryz.prog .neq 37 (.tmp 155) (.tmp 159) (.agg cs26 : Value) (.agg cs27 : Value) (At w) fun g5 => Drw w fun w => Cb g5 (CallV Tryz.prog 77 #[.pointer (some ⟨a,
  0, none⟩), .int .i64 14] w fun v45 w => OpA 3 v45 fun cs28 => StA 3 b1 0 cs28 w fun w => CallDV Tryz.prog 76 #[.pointer (some ⟨a, 0, none⟩)] w fun w => LdA 3 b1 0 (At w)
  fun cs29 => R (.agg cs29) w) (J7 () w))) (fun _ s7 w => HeldR w fun S w => LdV b 1 (At w) fun v46 => OpI .i64 v46 fun n13 => LdV b 3 S fun v47 => OpS v47 fun p6 l6 c7 =>
  IdxS p6 l6 1 16 fun b13 o4 => LdA 16 b13 o4 (At w) fun cs30 => CallV Tryz.prog 82 #[.pointer (some ⟨a, 0, none⟩), .int .i64 side, .int .i64 n13, .agg cs30] w fun v48 w =>
  OpI .i64 v48 fun n14 => Hld (S w) (Cb (n14 != 0) (CallV Tryz.prog 77 #[.pointer (some ⟨a, 0, none⟩), .int .i64 13] w fun v49 w => OpA 3 v49 fun cs31 => StA 3 b1 0 cs31 w
  fun w => CallDV Tryz.prog 76 #[.pointer (some ⟨a, 0, none⟩)] w fun w => LdA 3 b1 0 (At w) fun cs32 => R (.agg cs32) w) (J2 () w)))) (Cb (n3 == 4) (LoopC (σ := Unit) (fun _
  s8 w K8 => LdV a 9 (At w) fun v50 => OpN v50 fun b14 o5 => LdV b14 o5 (At w) fun v51 => OpN v51 fun b15 o6 => CallV Tryz.prog 83 #[.pointer (some ⟨b15, o6, none⟩)] w fun
  v52 w => OpI .i64 v52 fun n15 => Cb (decide (n15 > 0)) (CallV Tryz.prog 84 #[.pointer (some ⟨a, 0, none⟩), .int .i64 side] w fun v53 w => OpI .i64 v53 fun n16 => Cb (n16
  != 0) (CallV Tryz.prog 77 #[.pointer (some ⟨a, 0, none⟩), .int .i64 3] w fun v54 w => OpA 3 v54 fun cs33 => StA 3 b1 0 cs33 w fun w => CallDV Tryz.prog 76 #[.pointer (some
  ⟨a, 0, none⟩)] w fun w => LdA 3 b1 0 (At w) fun cs34 => R (.agg cs34) w) (K8 () w)) (J2 () w)) () w) (J2 () w)))))) (fun _ s2 w => LdA 3 b7 0 (At w) fun cs35 => StA 3 b1 0
  cs35 w fun w => CallDV Tryz.prog 76 #[.pointer (some ⟨a, 0, none⟩)] w fun w => LdA 3 b1 0 (At w) fun cs36 => R (.agg cs36) w)))))))))
theorem C_array_Array_Do {a : Nat} {side : Int} {init : Int} {c : Array Value} {w : World} {R : Value → World → Prop} (h : F_array_Array_Do a side init c w R) : CallV Tryz.prog 16 #[.pointer (some ⟨a, 0, none⟩), .int .i64 side, .int .i64 init, .agg c] w R := by
  exact calls_of_FD (args := [.pointer (some ⟨a, 0, none⟩), .int .i64 side, .int .i64 init, .agg c]) (mkAnnR [(21, [(86, (.int .i64))]), (34, [(122, (.int .i64))]), (50, [])] [(1, []), (6, [])] [(32, [(16, .slice)]), (50029, [(109, .bool)])] [] [71, 74, 171] [] [(14, [(10, .ptr), (11, .bool)])]) Tryz_mixed Tryz.func16 rfl rfl (by kernel_rfl) h
def F_array_Array_Flush (a : Nat) (w : World) (R : Value → World → Prop) : Prop :=
  CallV Tryz.prog 75 #[.pointer (some ⟨a, 0, none⟩)] w fun v w => CallV Tryz.prog 85 #[.pointer (some ⟨a, 0, none⟩)] w fun v1 w => T2 v1 fun v2 v3 => OpI .i64 v2 fun n =>
  OpI .i64 v3 fun n1 => Cb (n1 != 0) (CallDV Tryz.prog 76 #[.pointer (some ⟨a, 0, none⟩)] w fun w => R (.int .i64 n1) w) (LdV a 9 (At w) fun v4 => OpN v4 fun b o => LdV b o
  (At w) fun v5 => OpN v5 fun b1 o1 => CallV Tryz.prog 83 #[.pointer (some ⟨b1, o1, none⟩)] w fun v6 w => OpI .i64 v6 fun n2 => Cb (n2 == 0) (CallDV Tryz.prog 76 #[.pointer
  (some ⟨a, 0, none⟩)] w fun w => R (.int .i64 10) w) (CallV Tryz.prog 79 #[.pointer (some ⟨a, 0, none⟩), .int .i64 n] w fun v7 w => OpI .i64 v7 fun n3 => Cb (n3 != 0)
  (CallDV Tryz.prog 76 #[.pointer (some ⟨a, 0, none⟩)] w fun w => R (.int .i64 n3) w) (CallV Tryz.prog 84 #[.pointer (some ⟨a, 0, none⟩), .int .i64 n] w fun v8 w => OpI .i64
  v8 fun n4 => CallDV Tryz.prog 76 #[.pointer (some ⟨a, 0, none⟩)] w fun w => R (.int .i64 n4) w)))
theorem C_array_Array_Flush {a : Nat} {w : World} {R : Value → World → Prop} (h : F_array_Array_Flush a w R) : CallV Tryz.prog 19 #[.pointer (some ⟨a, 0, none⟩)] w R := by
  exact calls_of_FD (args := [.pointer (some ⟨a, 0, none⟩)]) (mkAnn [] [] [] [] []) Tryz_mixed Tryz.func19 rfl rfl (by kernel_rfl) h
def F_array_Array_Crash (a : Nat) (side : Int) (w : World) (R : Value → World → Prop) : Prop :=
  CallV Tryz.prog 75 #[.pointer (some ⟨a, 0, none⟩)] w fun v w => LdV a 2 (At w) fun v1 => OpN v1 fun b o => CallV Tryz.prog 44 #[.pointer (some ⟨b, o, none⟩)] w fun v2 w =>
  OpB v2 fun g => Cb (!g) (CallDV Tryz.prog 76 #[.pointer (some ⟨a, 0, none⟩)] w fun w => R (.int .i64 4) w) (Req ((decide (side < 0)) = (decide (side < 0))) (Req ((decide
  (side < 0)) = (decide (side < 0))) (Cb (cond (decide (side < 0)) true (decide (side > 1))) (CallDV Tryz.prog 76 #[.pointer (some ⟨a, 0, none⟩)] w fun w => R (.int .i64 2)
  w) (Req (0 ≤ side ∧ side < 2) (LdV a (13 + Int.toNat side * 2) (At w) fun v3 => OpB v3 fun g1 => Cb (!g1) (CallDV Tryz.prog 76 #[.pointer (some ⟨a, 0, none⟩)] w fun w => R
  (.int .i64 13) w) (Req (0 ≤ side ∧ side < 2) (StV a (13 + Int.toNat side * 2) (.bool false) w fun w => CallDV Tryz.prog 76 #[.pointer (some ⟨a, 0, none⟩)] w fun w => R
  (.int .i64 0) w)))))))
theorem C_array_Array_Crash {a : Nat} {side : Int} {w : World} {R : Value → World → Prop} (h : F_array_Array_Crash a side w R) : CallV Tryz.prog 22 #[.pointer (some ⟨a, 0, none⟩), .int .i64 side] w R := by
  exact calls_of_FD (args := [.pointer (some ⟨a, 0, none⟩), .int .i64 side]) (mkAnn [] [] [] [] []) Tryz_mixed Tryz.func22 rfl rfl (by kernel_rfl) h
def F_array_Array_Split (a : Nat) (w : World) (R : Value → World → Prop) : Prop :=
  CallV Tryz.prog 75 #[.pointer (some ⟨a, 0, none⟩)] w fun v w => LdV a 2 (At w) fun v1 => OpN v1 fun b o => CallV Tryz.prog 44 #[.pointer (some ⟨b, o, none⟩)] w fun v2 w =>
  OpB v2 fun g => Cb (!g) (CallDV Tryz.prog 76 #[.pointer (some ⟨a, 0, none⟩)] w fun w => R (.int .i64 4) w) (StV a 17 (.bool true) w fun w => CallDV Tryz.prog 76 #[.pointer
  (some ⟨a, 0, none⟩)] w fun w => R (.int .i64 0) w)
theorem C_array_Array_Split {a : Nat} {w : World} {R : Value → World → Prop} (h : F_array_Array_Split a w R) : CallV Tryz.prog 51 #[.pointer (some ⟨a, 0, none⟩)] w R := by
  exact calls_of_FD (args := [.pointer (some ⟨a, 0, none⟩)]) (mkAnn [] [] [] [] []) Tryz_mixed Tryz.func51 rfl rfl (by kernel_rfl) h
def F_array_Array_Rejoin (a : Nat) (side : Int) (w : World) (R : Value → World → Prop) : Prop :=
  CallV Tryz.prog 75 #[.pointer (some ⟨a, 0, none⟩)] w fun v w => LdV a 2 (At w) fun v1 => OpN v1 fun b o => CallV Tryz.prog 44 #[.pointer (some ⟨b, o, none⟩)] w fun v2 w =>
  OpB v2 fun g => Cb (!g) (CallDV Tryz.prog 76 #[.pointer (some ⟨a, 0, none⟩)] w fun w => R (.int .i64 4) w) (Req ((decide (side < 0)) = (decide (side < 0))) (Req ((decide
  (side < 0)) = (decide (side < 0))) (Cb (cond (decide (side < 0)) true (decide (side > 1))) (CallDV Tryz.prog 76 #[.pointer (some ⟨a, 0, none⟩)] w fun w => R (.int .i64 2)
  w) (CallV Tryz.prog 78 #[.pointer (some ⟨a, 0, none⟩), .int .i64 (IntKind.wrap .i64 (1 - side))] w fun v3 w => OpB v3 fun g1 => Cb (!g1) (CallDV Tryz.prog 76 #[.pointer
  (some ⟨a, 0, none⟩)] w fun w => R (.int .i64 13) w) (JoinC (σ := Bool × Unit) (fun J1 => Req (0 ≤ side ∧ side < 2) (LdV a (13 + Int.toNat side * 2) (At w) fun v4 => OpB v4
  fun g2 => Cb g2 (Req (0 ≤ side ∧ side < 2) (LdV a (10 + Int.toNat side * 1) (At w) fun v5 => OpB v5 fun g3 => Cb g3 (LdV a 17 (At w) fun v6 => OpB v6 fun g4 => J1 (!g4,
  ()) w) (J1 (false, ()) w))) (J1 (false, ()) w))) (fun _ s1 w => Cb s1.1 (CallDV Tryz.prog 76 #[.pointer (some ⟨a, 0, none⟩)] w fun w => R (.int .i64 11) w) (Req (0 ≤ side
  ∧ side < 2) (LdV a (10 + Int.toNat side * 1) (At w) fun v7 => OpB v7 fun g5 => JoinC (σ := Unit) (fun J2 => Cb (!g5) (LdV a 9 (At w) fun v8 => OpN v8 fun b1 o1 => CallV
  Tryz.prog 92 #[.pointer (some ⟨b1, o1, none⟩), .int .i64 side] w fun v9 w => OpI .i64 v9 fun n => Cb (n != 0) (CallDV Tryz.prog 76 #[.pointer (some ⟨a, 0, none⟩)] w fun w
  => R (.int .i64 n) w) (Req (0 ≤ side ∧ side < 2) (StV a (10 + Int.toNat side * 1) (.bool true) w fun w => JoinC (σ := Unit) (fun J3 => Dr1 w fun w => Req (0 ≤ IntKind.wrap
  .i64 (1 - side) ∧ IntKind.wrap .i64 (1 - side) < 2) (LdV a (13 + Int.toNat (IntKind.wrap .i64 (1 - side)) * 2 + 1) (At w) fun v10 => OpI .u32 v10 fun n1 => Req (0 ≤ side ∧
  side < 2) (StV a (13 + Int.toNat side * 2 + 1) (.int .u32 n1) w fun w => J3 () w))) (fun _ s3 w => J2 () w)))) (J2 () w)) (fun _ s2 w => Req (0 ≤ side ∧ side < 2) (StV a
  (13 + Int.toNat side * 2) (.bool true) w fun w => StV a 17 (.bool false) w fun w => CallDV Tryz.prog 76 #[.pointer (some ⟨a, 0, none⟩)] w fun w => R (.int .i64 0)
  w))))))))))
theorem C_array_Array_Rejoin {a : Nat} {side : Int} {w : World} {R : Value → World → Prop} (h : F_array_Array_Rejoin a side w R) : CallV Tryz.prog 24 #[.pointer (some ⟨a, 0, none⟩), .int .i64 side] w R := by
  exact calls_of_FD (args := [.pointer (some ⟨a, 0, none⟩), .int .i64 side]) (mkAnnR [] [] [(14, [])] [] [] [] [(11, [(35, .bool)]), (18, [])]) Tryz_mixed Tryz.func24 rfl rfl (by kernel_rfl) h
def F_array_Array_Cut (a : Nat) (n : Int) (w : World) (R : Value → World → Prop) : Prop :=
  Req (false = false) (Req (false = false) (Cb (decide (n < 0)) (R (.int .i64 2) w) (CallV Tryz.prog 75 #[.pointer (some ⟨a, 0, none⟩)] w fun v w => LdV a 2 (At w) fun v1 =>
  OpN v1 fun b o => CallV Tryz.prog 44 #[.pointer (some ⟨b, o, none⟩)] w fun v2 w => OpB v2 fun g => Cb g (LdV a 2 (At w) fun v3 => OpN v3 fun b1 o1 => CallV Tryz.prog 59
  #[.pointer (some ⟨b1, o1, none⟩), .int .i64 n] w fun v4 w => OpI .i64 v4 fun n1 => CallDV Tryz.prog 76 #[.pointer (some ⟨a, 0, none⟩)] w fun w => R (.int .i64 n1) w) (DoQ
  Tryz.prog (Builtin.min_ #[3, 3] 3 #[.int .i64 n, .int .i64 4611686018427387904]) (At w) fun v5 => OpI .i64 v5 fun n2 => StV a 20 (.int .i64 (IntKind.wrap .i64 (n2 + 1))) w
  fun w => CallDV Tryz.prog 76 #[.pointer (some ⟨a, 0, none⟩)] w fun w => R (.int .i64 0) w))))
theorem C_array_Array_Cut {a : Nat} {n : Int} {w : World} {R : Value → World → Prop} (h : F_array_Array_Cut a n w R) : CallV Tryz.prog 46 #[.pointer (some ⟨a, 0, none⟩), .int .i64 n] w R := by
  exact calls_of_FD (args := [.pointer (some ⟨a, 0, none⟩), .int .i64 n]) (mkAnn [] [] [] [] []) Tryz_mixed Tryz.func46 rfl rfl (by kernel_rfl) h
def F_array_Array_Start (a : Nat) (first : Bool) (second : Bool) (w : World) (R : Value → World → Prop) : Prop :=
  JoinC (σ := Bool × Unit) (fun J1 => Cb (!first) (J1 (!second, ()) w) (J1 (false, ()) w)) (fun _ s1 w => Cb s1.1 (R (.int .i64 2) w) (CallV Tryz.prog 75 #[.pointer (some
  ⟨a, 0, none⟩)] w fun v w => JoinC (σ := Unit) (fun J2 => HeldR w fun S w => Req (0 ≤ (0 : Int) ∧ (0 : Int) < 2) (StV a (13 + Int.toNat 0 * 2) (.bool false) w fun w => Hld
  (S w) (Req (0 ≤ (1 : Int) ∧ (1 : Int) < 2) (StV a (13 + Int.toNat 1 * 2) (.bool false) w fun w => Hld (S w) (StV a 9 (.pointer none) w fun w => Hld (S w) (StV a 17 (.bool
  false) w fun w => Hld (S w) (J2 () w))))))) (fun _ s2 w => LdV a 12 (At w) fun v1 => OpN v1 fun b o => CallV Tryz.prog 88 #[.pointer (some ⟨b, o, none⟩)] w fun v2 w => LdV
  a 2 (At w) fun v3 => OpN v3 fun b1 o1 => CallV Tryz.prog 60 #[.pointer (some ⟨b1, o1, none⟩)] w fun v4 w => LdV a 20 (At w) fun v5 => OpI .i64 v5 fun n => JoinC (σ :=
  Unit) (fun J3 => Cb (decide (n > 0)) (HeldR w fun S w => LdV a 2 (At w) fun v6 => OpN v6 fun b2 o2 => LdV a 20 S fun v7 => OpI .i64 v7 fun n1 => CallV Tryz.prog 59
  #[.pointer (some ⟨b2, o2, none⟩), .int .i64 (IntKind.wrap .i64 (n1 - 1))] w fun v8 w => OpI .i64 v8 fun n2 => Hld (S w) (StV a 20 (.int .i64 0) w fun w => J3 () w)) (J3 ()
  w)) (fun _ s3 w => LdA 4 a 3 (At w) fun cs => CallV Tryz.prog 42 #[.agg cs] w fun v9 w => OpI .u32 v9 fun n3 => DoQ Tryz.prog (Instr.build 138 #[(0, .bool first), (1,
  .bool second)]) (At w) fun v10 => OpA 2 v10 fun cs1 => Alc 138 (zc Tryz.prog 138) w fun b3 w => StA 2 b3 0 cs1 w fun w => LdA 2 a 7 (At w) fun cs2 => LoopC (σ := (Option
  Addr × Nat × Nat) × (Option Addr × Nat × Nat) × Int × Unit) (fun _ s4 w K4 => Cb (decide (s4.2.2.1 < 2)) (Req (0 ≤ s4.2.2.1 ∧ s4.2.2.1 < 2) (Fld cs2 (Int.toNat s4.2.2.1 *
  1) fun v11 => OpN v11 fun b4 o3 => Req (0 ≤ s4.2.2.1 ∧ s4.2.2.1 < 2) (LdV b3 (0 + Int.toNat s4.2.2.1 * 1) (At w) fun v12 => OpB v12 fun g => Cb (!g) (K4 ((s4.1.1,
  s4.1.2.1, s4.1.2.2), ((s4.2.1.1, s4.2.1.2.1, s4.2.1.2.2), (IntKind.wrap .i64 (s4.2.2.1 + 1), ()))) w) (CallV Tryz.prog 89 #[.pointer (some ⟨b4, o3, none⟩)] w fun v13 w =>
  CallV Tryz.prog 62 #[.pointer (some ⟨b4, o3, none⟩)] w fun v14 w => OpS v14 fun p l c => CallV Tryz.prog 90 #[.slice p l c, .int .u32 n3] w fun v15 w => OpB v15 fun g1 =>
  Cb g1 (DoV Tryz.prog (Instr.buildSlice 69 1 #[(0, .int .i64 s4.2.2.1)]) w fun v16 w => OpS v16 fun p1 l1 c1 => DoV Tryz.prog (Builtin.append_ #[69, 69] 69 #[.slice s4.1.1
  s4.1.2.1 s4.1.2.2, .slice p1 l1 c1]) w fun v17 w => OpS v17 fun p2 l2 c2 => DoV Tryz.prog (Instr.buildSlice 158 1 #[(0, .slice p l c)]) w fun v18 w => OpS v18 fun p3 l3 c3
  => DoV Tryz.prog (Builtin.append_ #[158, 158] 158 #[.slice s4.2.1.1 s4.2.1.2.1 s4.2.1.2.2, .slice p3 l3 c3]) w fun v19 w => OpS v19 fun p4 l4 c4 => K4 ((p2, l2, c2), ((p4,
  l4, c4), (IntKind.wrap .i64 (s4.2.2.1 + 1), ()))) w) (K4 ((s4.1.1, s4.1.2.1, s4.1.2.2), ((s4.2.1.1, s4.2.1.2.1, s4.2.1.2.2), (IntKind.wrap .i64 (s4.2.2.1 + 1), ())))
  w))))) (Cb (((s4.1.2.1 : Nat) : Int) == 0) (CallDV Tryz.prog 76 #[.pointer (some ⟨a, 0, none⟩)] w fun w => R (.int .i64 13) w) (LdA 2 b3 0 (At w) fun cs3 => CallV
  Tryz.prog 91 #[.pointer (some ⟨a, 0, none⟩), .int .u32 n3, .agg cs3, .slice s4.1.1 s4.1.2.1 s4.1.2.2, .slice s4.2.1.1 s4.2.1.2.1 s4.2.1.2.2] w fun v20 w => OpI .i64 v20
  fun n4 => CallDV Tryz.prog 76 #[.pointer (some ⟨a, 0, none⟩)] w fun w => R (.int .i64 n4) w))) ((none, 0, 0), ((none, 0, 0), (0, ()))) w))))
theorem C_array_Array_Start {a : Nat} {first : Bool} {second : Bool} {w : World} {R : Value → World → Prop} (h : F_array_Array_Start a first second w R) : CallV Tryz.prog 21 #[.pointer (some ⟨a, 0, none⟩), .bool first, .bool second] w R := by
  exact calls_of_FD (args := [.pointer (some ⟨a, 0, none⟩), .bool first, .bool second]) (mkAnnR [(16, [(9, .slice), (10, .slice), (87, (.int .i64))])] [] [(9, [])] [] [71] [] [(1, [(23, .bool)]), (5, [])]) Tryz_mixed Tryz.func21 rfl rfl (by kernel_rfl) h
def F_array_Array_recover (a : Nat) (key : Int) (started : Array Value) (sourcesp : Option Addr) (sourcesl : Nat) (sourcesc : Nat) (listsp : Option Addr) (listsl : Nat) (listsc : Nat) (w : World) (R : Value → World → Prop) : Prop :=
  Alc 138 started w fun b w => LdA 4 a 3 (At w) fun cs => CallV Tryz.prog 61 #[.agg cs, .int .u32 key, .slice listsp listsl listsc] w fun v w => OpI .i64 v fun n => Cb (n !=
  0) (Ret [] (R (.int .i64 n) w)) (IdxS sourcesp sourcesl 0 1 fun b1 o => LdV b1 o (At w) fun v1 => OpI .i64 v1 fun n1 => CallV Tryz.prog 145 #[.int .u32 key, .int .i64 n1]
  w fun v2 w => T2 v2 fun v3 v4 => OpI .u32 v3 fun n2 => OpI .i64 v4 fun n3 => Cb (n3 != 0) (Ret [] (R (.int .i64 n3) w)) (LoopC (σ := Int × Unit) (fun _ s1 w K1 => Cb
  (decide (s1.1 < ((sourcesl : Nat) : Int))) (IdxS sourcesp sourcesl s1.1 1 fun b2 o1 => LdV b2 o1 (At w) fun v5 => OpI .i64 v5 fun n4 => Req (0 ≤ n4 ∧ n4 < 2) (LdV a (7 +
  Int.toNat n4 * 1) (At w) fun v6 => OpN v6 fun b3 o2 => DoQ Tryz.prog (Instr.build 246 #[(0, .int .i64 6), (1, .int .u64 (IntKind.wrap .u64 n2))]) (At w) fun v7 => OpA 19
  v7 fun cs1 => CallV Tryz.prog 165 #[.pointer (some ⟨b3, o2, none⟩), .agg cs1] w fun v8 w => OpI .i64 v8 fun n5 => Cb (n5 != 0) (Ret [] (R (.int .i64 n5) w)) (K1
  (IntKind.wrap .i64 (s1.1 + 1), ()) w))) (LdA 4 a 3 (At w) fun cs2 => CallV Tryz.prog 40 #[.agg cs2, .int .u32 n2] w fun v9 w => OpI .i64 v9 fun n6 => HeldR w fun S w =>
  Req (0 ≤ (0 : Int) ∧ (0 : Int) < 2) (LdV a (7 + Int.toNat 0 * 1) S fun v10 => OpN v10 fun b4 o3 => Req (0 ≤ (1 : Int) ∧ (1 : Int) < 2) (LdV a (7 + Int.toNat 1 * 1) S fun
  v11 => OpN v11 fun b5 o4 => LdV a 19 S fun v12 => OpI .i64 v12 fun n7 => CallV Tryz.prog 166 #[.slice listsp listsl listsc] w fun v13 w => OpI .u64 v13 fun n8 => Hld (S w)
  (CallV Tryz.prog 167 #[.slice listsp listsl listsc] w fun v14 w => OpS v14 fun p l c => Hld (S w) (CallV Tryz.prog 139 #[.pointer (some ⟨b4, o3, none⟩), .pointer (some
  ⟨b5, o4, none⟩), .int .i64 n7, .int .u32 n2, .int .u64 n8, .slice p l c] w fun v15 w => T2 v15 fun v16 v17 => OpP v16 (OpI .i64 v17 fun n9 => Hld (S w) (Cb (n9 != 0) (Ret
  [] (R (.int .i64 n9) w)) (LoopC (σ := Int × Unit) (fun _ s2 w K2 => Cb (decide (s2.1 < 2)) (Req (0 ≤ s2.1 ∧ s2.1 < 2) (LdV b (0 + Int.toNat s2.1 * 1) (At w) fun v18 => OpB
  v18 fun g => Cb (!g) (CallV Tryz.prog 143 #[.pointer none, .int .i64 s2.1] w fun v19 w => OpI .i64 v19 fun n10 => K2 (IntKind.wrap .i64 (s2.1 + 1), ()) w) (K2
  (IntKind.wrap .i64 (s2.1 + 1), ()) w))) (CallV Tryz.prog 168 #[.pointer none] w fun v20 w => OpI .i64 v20 fun n11 => Cb (n11 != 0) (Ret [] (R (.int .i64 n11) w)) (HeldR w
  fun S w => LdA 2 b 0 S fun cs3 => StV a 9 (.pointer none) w fun w => Hld (S w) (StA 2 a 10 cs3 w fun w => Hld (S w) (LoopC (σ := Int × Unit) (fun _ s3 w K3 => Cb (decide
  (s3.1 < 2)) (Dr1 w fun w => Req (0 ≤ s3.1 ∧ s3.1 < 2) (LdV b (0 + Int.toNat s3.1 * 1) (At w) fun v21 => OpB v21 fun g1 => DoQ Tryz.prog (Instr.build 140 #[(0, .bool g1),
  (1, .int .u32 n2)]) (At w) fun v22 => OpA 2 v22 fun cs4 => Req (0 ≤ s3.1 ∧ s3.1 < 2) (StA 2 a (13 + Int.toNat s3.1 * 2) cs4 w fun w => K3 (IntKind.wrap .i64 (s3.1 + 1),
  ()) w))) (Ret [] (R (.int .i64 0) w))) (0, ()) w))))) (0, ()) w))) fun b6 o5 => OpI .i64 v17 fun n12 => Hld (S w) (Cb (n12 != 0) (Ret [] (R (.int .i64 n12) w)) (LoopC (σ
  := Int × Unit) (fun _ s4 w K4 => Cb (decide (s4.1 < 2)) (Req (0 ≤ s4.1 ∧ s4.1 < 2) (LdV b (0 + Int.toNat s4.1 * 1) (At w) fun v23 => OpB v23 fun g2 => Cb (!g2) (CallV
  Tryz.prog 143 #[.pointer (some ⟨b6, o5, none⟩), .int .i64 s4.1] w fun v24 w => OpI .i64 v24 fun n13 => K4 (IntKind.wrap .i64 (s4.1 + 1), ()) w) (K4 (IntKind.wrap .i64
  (s4.1 + 1), ()) w))) (CallV Tryz.prog 168 #[.pointer (some ⟨b6, o5, none⟩)] w fun v25 w => OpI .i64 v25 fun n14 => Cb (n14 != 0) (Ret [] (R (.int .i64 n14) w)) (HeldR w
  fun S w => LdA 2 b 0 S fun cs5 => StV a 9 (.pointer (some ⟨b6, o5, none⟩)) w fun w => Hld (S w) (StA 2 a 10 cs5 w fun w => Hld (S w) (LoopC (σ := Int × Unit) (fun _ s5 w
  K5 => Cb (decide (s5.1 < 2)) (Dr1 w fun w => Req (0 ≤ s5.1 ∧ s5.1 < 2) (LdV b (0 + Int.toNat s5.1 * 1) (At w) fun v26 => OpB v26 fun g3 => DoQ Tryz.prog (Instr.build 140
  #[(0, .bool g3), (1, .int .u32 n2)]) (At w) fun v27 => OpA 2 v27 fun cs6 => Req (0 ≤ s5.1 ∧ s5.1 < 2) (StA 2 a (13 + Int.toNat s5.1 * 2) cs6 w fun w => K5 (IntKind.wrap
  .i64 (s5.1 + 1), ()) w))) (Ret [] (R (.int .i64 0) w))) (0, ()) w))))) (0, ()) w)))))))) (0, ()) w))
theorem C_array_Array_recover {a : Nat} {key : Int} {started : Array Value} {sourcesp : Option Addr} {sourcesl : Nat} {sourcesc : Nat} {listsp : Option Addr} {listsl : Nat} {listsc : Nat} {w : World} {R : Value → World → Prop} (h : F_array_Array_recover a key started sourcesp sourcesl sourcesc listsp listsl listsc w R) : CallV Tryz.prog 91 #[.pointer (some ⟨a, 0, none⟩), .int .u32 key, .agg started, .slice sourcesp sourcesl sourcesc, .slice listsp listsl listsc] w R := by
  exact calls_of_F (args := [.pointer (some ⟨a, 0, none⟩), .int .u32 key, .agg started, .slice sourcesp sourcesl sourcesc, .slice listsp listsl listsc]) (mkAnn [(8, [(44, (.int .i64))]), (19, [(94, (.int .i64))]), (29, [(118, (.int .i64))])] [] [] [] [85, 87, 88]) Tryz_mixed Tryz.func91 rfl rfl (by kernel_rfl) h
def F_array_Array_Fail (a : Nat) (n : Int) (w : World) (R : Value → World → Prop) : Prop :=
  CallV Tryz.prog 86 #[.pointer (some ⟨a, 0, none⟩), .int .i64 n] w fun v w => T2 v fun v1 v2 => OpP v1 (OpI .i64 v2 fun n1 => Cb (n1 != 0) (Ret [] (R (.int .i64 n1) w))
  (CallV Tryz.prog 87 #[.pointer none] w fun v3 w => OpB v3 fun g => Cb (!g) (Ret [] (R (.int .i64 5) w)) (LdV a 6 (At w) fun v4 => OpS v4 fun p l c => LoopC (σ := Int ×
  Unit) (fun _ s1 w K1 => Cb (decide (s1.1 < ((l : Nat) : Int))) (IdxS p l s1.1 1 fun b o => LdV b o (At w) fun v5 => OpN v5 fun b1 o1 => Cb (s1.1 != n) (CallV Tryz.prog 87
  #[.pointer (some ⟨b1, o1, none⟩)] w fun v6 w => OpB v6 fun g1 => Cb g1 (CallV Tryz.prog 58 #[.pointer none] w fun v7 w => Ret [] (R (.int .i64 0) w)) (K1 (IntKind.wrap
  .i64 (s1.1 + 1), ()) w)) (K1 (IntKind.wrap .i64 (s1.1 + 1), ()) w)) (Ret [] (R (.int .i64 12) w))) (0, ()) w))) fun b2 o2 => OpI .i64 v2 fun n2 => Cb (n2 != 0) (Ret [] (R
  (.int .i64 n2) w)) (CallV Tryz.prog 87 #[.pointer (some ⟨b2, o2, none⟩)] w fun v8 w => OpB v8 fun g2 => Cb (!g2) (Ret [] (R (.int .i64 5) w)) (LdV a 6 (At w) fun v9 => OpS
  v9 fun p1 l1 c1 => LoopC (σ := Int × Unit) (fun _ s2 w K2 => Cb (decide (s2.1 < ((l1 : Nat) : Int))) (IdxS p1 l1 s2.1 1 fun b3 o3 => LdV b3 o3 (At w) fun v10 => OpN v10
  fun b4 o4 => Cb (s2.1 != n) (CallV Tryz.prog 87 #[.pointer (some ⟨b4, o4, none⟩)] w fun v11 w => OpB v11 fun g3 => Cb g3 (CallV Tryz.prog 58 #[.pointer (some ⟨b2, o2,
  none⟩)] w fun v12 w => Ret [] (R (.int .i64 0) w)) (K2 (IntKind.wrap .i64 (s2.1 + 1), ()) w)) (K2 (IntKind.wrap .i64 (s2.1 + 1), ()) w)) (Ret [] (R (.int .i64 12) w))) (0,
  ()) w))
theorem C_array_Array_Fail {a : Nat} {n : Int} {w : World} {R : Value → World → Prop} (h : F_array_Array_Fail a n w R) : CallV Tryz.prog 20 #[.pointer (some ⟨a, 0, none⟩), .int .i64 n] w R := by
  exact calls_of_F (args := [.pointer (some ⟨a, 0, none⟩), .int .i64 n]) (mkAnn [(7, [(29, (.int .i64))])] [] [] [] []) Tryz_mixed Tryz.func20 rfl rfl (by kernel_rfl) h
def F_array_Array_Replace (a : Nat) (n : Int) (w : World) (R : Value → World → Prop) : Prop :=
  CallV Tryz.prog 86 #[.pointer (some ⟨a, 0, none⟩), .int .i64 n] w fun v w => T2 v fun v1 v2 => OpP v1 (OpI .i64 v2 fun n1 => Cb (n1 != 0) (Ret [] (R (.int .i64 n1) w))
  (LdA 4 a 3 (At w) fun cs => CallV Tryz.prog 42 #[.agg cs] w fun v3 w => OpI .u32 v3 fun n2 => CallV Tryz.prog 98 #[.pointer none] w fun v4 w => LdV a 18 (At w) fun v5 =>
  OpS v5 fun p l c => IdxS p l n 1 fun b o => StV b o (.int .i64 0) w fun w => CallV Tryz.prog 123 #[.pointer none, .int .u32 n2] w fun v6 w => OpI .i64 v6 fun n3 => Ret []
  (R (.int .i64 n3) w))) fun b1 o1 => OpI .i64 v2 fun n4 => Cb (n4 != 0) (Ret [] (R (.int .i64 n4) w)) (LdA 4 a 3 (At w) fun cs1 => CallV Tryz.prog 42 #[.agg cs1] w fun v7 w
  => OpI .u32 v7 fun n5 => CallV Tryz.prog 98 #[.pointer (some ⟨b1, o1, none⟩)] w fun v8 w => LdV a 18 (At w) fun v9 => OpS v9 fun p1 l1 c1 => IdxS p1 l1 n 1 fun b2 o2 =>
  StV b2 o2 (.int .i64 0) w fun w => CallV Tryz.prog 123 #[.pointer (some ⟨b1, o1, none⟩), .int .u32 n5] w fun v10 w => OpI .i64 v10 fun n6 => Ret [] (R (.int .i64 n6) w))
theorem C_array_Array_Replace {a : Nat} {n : Int} {w : World} {R : Value → World → Prop} (h : F_array_Array_Replace a n w R) : CallV Tryz.prog 67 #[.pointer (some ⟨a, 0, none⟩), .int .i64 n] w R := by
  exact calls_of_F (args := [.pointer (some ⟨a, 0, none⟩), .int .i64 n]) (mkAnn [] [] [] [] []) Tryz_mixed Tryz.func67 rfl rfl (by kernel_rfl) h
def F_array_Array_Hurt (a : Nat) (n : Int) (at_ : Int) (w : World) (R : Value → World → Prop) : Prop :=
  CallV Tryz.prog 86 #[.pointer (some ⟨a, 0, none⟩), .int .i64 n] w fun v w => T2 v fun v1 v2 => OpP v1 (OpI .i64 v2 fun n1 => Cb (n1 != 0) (Ret [] (R (.int .i64 n1) w))
  (CallV Tryz.prog 100 #[.pointer none, .int .i64 at_] w fun v3 w => OpI .i64 v3 fun n2 => Ret [] (R (.int .i64 n2) w))) fun b o => OpI .i64 v2 fun n3 => Cb (n3 != 0) (Ret
  [] (R (.int .i64 n3) w)) (CallV Tryz.prog 100 #[.pointer (some ⟨b, o, none⟩), .int .i64 at_] w fun v4 w => OpI .i64 v4 fun n4 => Ret [] (R (.int .i64 n4) w))
theorem C_array_Array_Hurt {a : Nat} {n : Int} {at_ : Int} {w : World} {R : Value → World → Prop} (h : F_array_Array_Hurt a n at_ w R) : CallV Tryz.prog 70 #[.pointer (some ⟨a, 0, none⟩), .int .i64 n, .int .i64 at_] w R := by
  exact calls_of_F (args := [.pointer (some ⟨a, 0, none⟩), .int .i64 n, .int .i64 at_]) (mkAnn [] [] [] [] []) Tryz_mixed Tryz.func70 rfl rfl (by kernel_rfl) h
def F_array_Array_Rebuild (a : Nat) (n : Int) (count : Int) (w : World) (R : Value → World → Prop) : Prop :=
  CallV Tryz.prog 86 #[.pointer (some ⟨a, 0, none⟩), .int .i64 n] w fun v w => T2 v fun v1 v2 => OpP v1 (OpI .i64 v2 fun n1 => Cb (n1 != 0) (R (.tuple #[.int .i64 0, .int
  .i64 n1]) w) (Cb (decide (count < 0)) (R (.tuple #[.int .i64 0, .int .i64 2]) w) (CallV Tryz.prog 75 #[.pointer (some ⟨a, 0, none⟩)] w fun v3 w => CallV Tryz.prog 85
  #[.pointer (some ⟨a, 0, none⟩)] w fun v4 w => T2 v4 fun v5 v6 => OpI .i64 v5 fun n2 => OpI .i64 v6 fun n3 => Cb (n3 != 0) (CallDV Tryz.prog 76 #[.pointer (some ⟨a, 0,
  none⟩)] w fun w => R (.tuple #[.int .i64 0, .int .i64 n3]) w) (CallV Tryz.prog 79 #[.pointer (some ⟨a, 0, none⟩), .int .i64 n2] w fun v7 w => OpI .i64 v7 fun n4 => Cb (n4
  != 0) (CallDV Tryz.prog 76 #[.pointer (some ⟨a, 0, none⟩)] w fun w => R (.tuple #[.int .i64 0, .int .i64 n4]) w) (LdV a 6 (At w) fun v8 => OpS v8 fun p l c => IdxS p l n 1
  fun b o => LdV b o (At w) fun v9 => OpN v9 fun b1 o1 => CallV Tryz.prog 87 #[.pointer (some ⟨b1, o1, none⟩)] w fun v10 w => OpB v10 fun g => Cb (!g) (CallDV Tryz.prog 76
  #[.pointer (some ⟨a, 0, none⟩)] w fun w => R (.tuple #[.int .i64 0, .int .i64 5]) w) (HeldR w fun S w => LdA 4 a 3 (At w) fun cs => LdV a 18 S fun v11 => OpS v11 fun p1 l1
  c1 => IdxS p1 l1 n 1 fun b2 o2 => LdV b2 o2 (At w) fun v12 => OpI .i64 v12 fun n5 => Req (0 ≤ n2 ∧ n2 < 2) (LdV a (13 + Int.toNat n2 * 2 + 1) (At w) fun v13 => OpI .u32
  v13 fun n6 => CallV Tryz.prog 137 #[.agg cs, .int .i64 n, .int .i64 n5, .int .i64 count, .int .u32 n6] w fun v14 w => T2 v14 fun v15 v16 => OpI .i64 v15 fun n7 => OpI .i64
  v16 fun n8 => Hld (S w) (LdV a 18 (At w) fun v17 => OpS v17 fun p2 l2 c2 => IdxS p2 l2 n 1 fun b3 o3 => StV b3 o3 (.int .i64 n7) w fun w => Cb (n8 != 0) (CallDV Tryz.prog
  76 #[.pointer (some ⟨a, 0, none⟩)] w fun w => R (.tuple #[.int .i64 0, .int .i64 n8]) w) (LdA 3 a 3 (At w) fun cs1 => CallV Tryz.prog 128 #[.agg cs1] w fun v18 w => T2 v18
  fun v19 v20 => OpI .i64 v19 fun n9 => OpI .i64 v20 fun n10 => CallDV Tryz.prog 76 #[.pointer (some ⟨a, 0, none⟩)] w fun w => R (.tuple #[.int .i64 (IntKind.wrap .i64 (n9 -
  n7)), .int .i64 0]) w))))))))) fun b4 o4 => OpI .i64 v2 fun n11 => Cb (n11 != 0) (R (.tuple #[.int .i64 0, .int .i64 n11]) w) (Cb (decide (count < 0)) (R (.tuple #[.int
  .i64 0, .int .i64 2]) w) (CallV Tryz.prog 75 #[.pointer (some ⟨a, 0, none⟩)] w fun v21 w => CallV Tryz.prog 85 #[.pointer (some ⟨a, 0, none⟩)] w fun v22 w => T2 v22 fun
  v23 v24 => OpI .i64 v23 fun n12 => OpI .i64 v24 fun n13 => Cb (n13 != 0) (CallDV Tryz.prog 76 #[.pointer (some ⟨a, 0, none⟩)] w fun w => R (.tuple #[.int .i64 0, .int .i64
  n13]) w) (CallV Tryz.prog 79 #[.pointer (some ⟨a, 0, none⟩), .int .i64 n12] w fun v25 w => OpI .i64 v25 fun n14 => Cb (n14 != 0) (CallDV Tryz.prog 76 #[.pointer (some ⟨a,
  0, none⟩)] w fun w => R (.tuple #[.int .i64 0, .int .i64 n14]) w) (LdV a 6 (At w) fun v26 => OpS v26 fun p3 l3 c3 => IdxS p3 l3 n 1 fun b5 o5 => LdV b5 o5 (At w) fun v27
  => OpN v27 fun b6 o6 => CallV Tryz.prog 87 #[.pointer (some ⟨b6, o6, none⟩)] w fun v28 w => OpB v28 fun g1 => Cb (!g1) (CallDV Tryz.prog 76 #[.pointer (some ⟨a, 0, none⟩)]
  w fun w => R (.tuple #[.int .i64 0, .int .i64 5]) w) (HeldR w fun S w => LdA 4 a 3 (At w) fun cs2 => LdV a 18 S fun v29 => OpS v29 fun p4 l4 c4 => IdxS p4 l4 n 1 fun b7 o7
  => LdV b7 o7 (At w) fun v30 => OpI .i64 v30 fun n15 => Req (0 ≤ n12 ∧ n12 < 2) (LdV a (13 + Int.toNat n12 * 2 + 1) (At w) fun v31 => OpI .u32 v31 fun n16 => CallV
  Tryz.prog 137 #[.agg cs2, .int .i64 n, .int .i64 n15, .int .i64 count, .int .u32 n16] w fun v32 w => T2 v32 fun v33 v34 => OpI .i64 v33 fun n17 => OpI .i64 v34 fun n18 =>
  Hld (S w) (LdV a 18 (At w) fun v35 => OpS v35 fun p5 l5 c5 => IdxS p5 l5 n 1 fun b8 o8 => StV b8 o8 (.int .i64 n17) w fun w => Cb (n18 != 0) (CallDV Tryz.prog 76
  #[.pointer (some ⟨a, 0, none⟩)] w fun w => R (.tuple #[.int .i64 0, .int .i64 n18]) w) (LdA 3 a 3 (At w) fun cs3 => CallV Tryz.prog 128 #[.agg cs3] w fun v36 w => T2 v36
  fun v37 v38 => OpI .i64 v37 fun n19 => OpI .i64 v38 fun n20 => CallDV Tryz.prog 76 #[.pointer (some ⟨a, 0, none⟩)] w fun w => R (.tuple #[.int .i64 (IntKind.wrap .i64 (n19
  - n17)), .int .i64 0]) w))))))))
theorem C_array_Array_Rebuild {a : Nat} {n : Int} {count : Int} {w : World} {R : Value → World → Prop} (h : F_array_Array_Rebuild a n count w R) : CallV Tryz.prog 68 #[.pointer (some ⟨a, 0, none⟩), .int .i64 n, .int .i64 count] w R := by
  exact calls_of_FD (args := [.pointer (some ⟨a, 0, none⟩), .int .i64 n, .int .i64 count]) (mkAnn [] [] [] [] [79]) Tryz_mixed Tryz.func68 rfl rfl (by kernel_rfl) h
def F_array_Array_Scrub (a : Nat) (number : Int) (w : World) (R : Value → World → Prop) : Prop :=
  Alc 123 (zc Tryz.prog 123) w fun b w => LdV a 2 (At w) fun v => OpN v fun b1 o => CallV Tryz.prog 44 #[.pointer (some ⟨b1, o, none⟩)] w fun v1 w => OpB v1 fun g => Cb (!g)
  (DoQ Tryz.prog (Instr.build 123 #[]) (At w) fun v2 => OpA 4 v2 fun cs => StA 4 b 0 cs w fun w => LdA 4 b 0 (At w) fun cs1 => R (.tuple #[.agg cs1, .int .i64 4]) w) (Cb
  (decide (number < 0)) (DoQ Tryz.prog (Instr.build 123 #[]) (At w) fun v3 => OpA 4 v3 fun cs2 => StA 4 b 0 cs2 w fun w => LdA 4 b 0 (At w) fun cs3 => R (.tuple #[.agg cs3,
  .int .i64 2]) w) (LdV a 5 (At w) fun v4 => OpI .i64 v4 fun n => Cb (decide (number ≥ n)) (DoQ Tryz.prog (Instr.build 123 #[]) (At w) fun v5 => OpA 4 v5 fun cs4 => StA 4 b
  0 cs4 w fun w => LdA 4 b 0 (At w) fun cs5 => R (.tuple #[.agg cs5, .int .i64 2]) w) (CallV Tryz.prog 75 #[.pointer (some ⟨a, 0, none⟩)] w fun v6 w => CallV Tryz.prog 85
  #[.pointer (some ⟨a, 0, none⟩)] w fun v7 w => T2 v7 fun v8 v9 => OpI .i64 v8 fun n1 => OpI .i64 v9 fun n2 => Cb (n2 != 0) (DoQ Tryz.prog (Instr.build 123 #[]) (At w) fun
  v10 => OpA 4 v10 fun cs6 => StA 4 b 0 cs6 w fun w => CallDV Tryz.prog 76 #[.pointer (some ⟨a, 0, none⟩)] w fun w => LdA 4 b 0 (At w) fun cs7 => R (.tuple #[.agg cs7, .int
  .i64 n2]) w) (CallV Tryz.prog 79 #[.pointer (some ⟨a, 0, none⟩), .int .i64 n1] w fun v11 w => OpI .i64 v11 fun n3 => Cb (n3 != 0) (DoQ Tryz.prog (Instr.build 123 #[]) (At
  w) fun v12 => OpA 4 v12 fun cs8 => StA 4 b 0 cs8 w fun w => CallDV Tryz.prog 76 #[.pointer (some ⟨a, 0, none⟩)] w fun w => LdA 4 b 0 (At w) fun cs9 => R (.tuple #[.agg
  cs9, .int .i64 n3]) w) (HeldR w fun S w => LdA 4 a 3 (At w) fun cs10 => Req (0 ≤ n1 ∧ n1 < 2) (LdV a (13 + Int.toNat n1 * 2 + 1) (At w) fun v13 => OpI .u32 v13 fun n4 =>
  CallV Tryz.prog 138 #[.agg cs10, .int .i64 number, .int .u32 n4] w fun v14 w => T2 v14 fun v15 v16 => OpA 4 v15 fun cs11 => OpI .i64 v16 fun n5 => Hld (S w) (StA 4 b 0
  cs11 w fun w => Hld (S w) (CallDV Tryz.prog 76 #[.pointer (some ⟨a, 0, none⟩)] w fun w => LdA 4 b 0 (At w) fun cs12 => R (.tuple #[.agg cs12, .int .i64 n5]) w))))))))
theorem C_array_Array_Scrub {a : Nat} {number : Int} {w : World} {R : Value → World → Prop} (h : F_array_Array_Scrub a number w R) : CallV Tryz.prog 69 #[.pointer (some ⟨a, 0, none⟩), .int .i64 number] w R := by
  exact calls_of_FD (args := [.pointer (some ⟨a, 0, none⟩), .int .i64 number]) (mkAnn [] [] [] [] [70]) Tryz_mixed Tryz.func69 rfl rfl (by kernel_rfl) h
def F_array_Array_Ready (a : Nat) (side : Int) (w : World) (R : Value → World → Prop) : Prop :=
  CallV Tryz.prog 78 #[.pointer (some ⟨a, 0, none⟩), .int .i64 side] w fun v w => OpB v fun g => Ret [] (R (.bool g) w)
theorem C_array_Array_Ready {a : Nat} {side : Int} {w : World} {R : Value → World → Prop} (h : F_array_Array_Ready a side w R) : CallV Tryz.prog 23 #[.pointer (some ⟨a, 0, none⟩), .int .i64 side] w R := by
  exact calls_of_F (args := [.pointer (some ⟨a, 0, none⟩), .int .i64 side]) (mkAnn [] [] [] [] []) Tryz_mixed Tryz.func23 rfl rfl (by kernel_rfl) h
def F_array_Array_On (a : Nat) (w : World) (R : Value → World → Prop) : Prop :=
  LdV a 2 (At w) fun v => OpN v fun b o => CallV Tryz.prog 44 #[.pointer (some ⟨b, o, none⟩)] w fun v1 w => OpB v1 fun g => Ret [] (R (.bool g) w)
theorem C_array_Array_On {a : Nat} {w : World} {R : Value → World → Prop} (h : F_array_Array_On a w R) : CallV Tryz.prog 47 #[.pointer (some ⟨a, 0, none⟩)] w R := by
  exact calls_of_F (args := [.pointer (some ⟨a, 0, none⟩)]) (mkAnn [] [] [] [] []) Tryz_mixed Tryz.func47 rfl rfl (by kernel_rfl) h
def F_array_Array_Dirty (a : Nat) (w : World) (R : Value → World → Prop) : Prop :=
  LdV a 9 (At w) fun v => OpP v (Ret [] (R (.int .i64 0) w)) fun b o => LdV a 9 (At w) fun v1 => OpN v1 fun b1 o1 => LdV b1 o1 (At w) fun v2 => OpN v2 fun b2 o2 => CallV
  Tryz.prog 83 #[.pointer (some ⟨b2, o2, none⟩)] w fun v3 w => OpI .i64 v3 fun n => Ret [] (R (.int .i64 n) w)
theorem C_array_Array_Dirty {a : Nat} {w : World} {R : Value → World → Prop} (h : F_array_Array_Dirty a w R) : CallV Tryz.prog 18 #[.pointer (some ⟨a, 0, none⟩)] w R := by
  exact calls_of_F (args := [.pointer (some ⟨a, 0, none⟩)]) (mkAnn [] [] [] [] [9]) Tryz_mixed Tryz.func18 rfl rfl (by kernel_rfl) h
def F_array_Array_Steps (a : Nat) (w : World) (R : Value → World → Prop) : Prop :=
  LdV a 2 (At w) fun v => OpN v fun b o => CallV Tryz.prog 45 #[.pointer (some ⟨b, o, none⟩)] w fun v1 w => OpI .i64 v1 fun n => Ret [] (R (.int .i64 n) w)
theorem C_array_Array_Steps {a : Nat} {w : World} {R : Value → World → Prop} (h : F_array_Array_Steps a w R) : CallV Tryz.prog 50 #[.pointer (some ⟨a, 0, none⟩)] w R := by
  exact calls_of_F (args := [.pointer (some ⟨a, 0, none⟩)]) (mkAnn [] [] [] [] []) Tryz_mixed Tryz.func50 rfl rfl (by kernel_rfl) h
def F_array_Array_Capacity (a : Nat) (w : World) (R : Value → World → Prop) : Prop :=
  CallV Tryz.prog 74 #[.pointer (some ⟨a, 0, none⟩)] w fun v w => OpI .i64 v fun n => Ret [] (R (.int .i64 n) w)
theorem C_array_Array_Capacity {a : Nat} {w : World} {R : Value → World → Prop} (h : F_array_Array_Capacity a w R) : CallV Tryz.prog 15 #[.pointer (some ⟨a, 0, none⟩)] w R := by
  exact calls_of_F (args := [.pointer (some ⟨a, 0, none⟩)]) (mkAnn [] [] [] [] []) Tryz_mixed Tryz.func15 rfl rfl (by kernel_rfl) h
end Go.Proofs

/-
  THE ARRAY: what it is, New.
-/
namespace Go.Proofs
open Go Go.Ev
set_option linter.unusedSimpArgs false
set_option linter.unusedVariables false
set_option maxRecDepth 100000

/-- where an array's parts lie -/
structure AB where
  a : Nat
  g : Geo
  bks : List (Nat × Nat)
  sp : Option Addr
  sc : Nat
  pb : PB
  dk : Nat
  ms : Option Addr
  mc : Nat
/-- what an array is -/
structure AS where
  ds : List Dsk
  ps : PS
  ua : Bool
  ub : Bool
  la : Bool
  ea : Int
  lb : Bool
  eb : Int
  split : Bool
  marks : List Int
  later : Int
  d : Dk
def AS.ss (s : AS) : SS := ⟨s.ds, s.ps.pw⟩
def AB.sb (q : AB) : SB := ⟨q.pb.m, q.g, q.bks⟩
def arW (lk : Int) (m : Nat) (g : Geo) (sp : Option Addr) (sl sc : Nat) (ra rb pp : Option Addr) (u0 u1 : Bool) (dk : Nat) (l0 : Bool) (e0 : Int) (l1 : Bool) (e1 : Int) (sx : Bool) (mk : Option Addr) (ml mc : Nat) (room later : Int) : Array Value :=
  #[.int .i32 lk, .int .u32 0, .pointer (some ⟨m, 0, none⟩), .int .i64 g.d, .int .i64 g.c, .int .i64 g.s, .slice sp sl sc, .pointer ra, .pointer rb, .pointer pp, .bool u0, .bool u1, .pointer (some ⟨dk, 0, none⟩), .bool l0, .int .u32 e0, .bool l1, .int .u32 e1, .bool sx, .slice mk ml mc, .int .i64 room, .int .i64 later]
def arC (q : AB) (lk : Int) (s : AS) : Array Value :=
  arW lk q.pb.m q.g q.sp q.g.d.toNat q.sc (some ⟨q.pb.a, 0, none⟩) (some ⟨q.pb.b, 0, none⟩) (some ⟨q.pb.p, 0, none⟩) s.ua s.ub q.dk s.la s.ea s.lb s.eb s.split q.ms q.g.d.toNat q.mc q.pb.room s.later
structure ArAt (w : World) (q : AB) (lk : Int) (s : AS) : Prop where
  cells : Has w q.a (.cells (arC q lk s) 143 (0, 0))
  set : SetAt w q.sb s.ss
  disks : OwnL dLay w q.pb.base 111 q.sp q.g.d.toNat q.sc (q.bks.map Prod.fst)
  pair : PairAt w q.pb s.ps
  desk : DkAt w q.dk s.d
  marks : OwnL iLay w q.pb.base 3 q.ms q.g.d.toNat q.mc s.marks
theorem one_arW (lk : Int) (m : Nat) (g : Geo) (sp : Option Addr) (sl sc : Nat) (ra rb pp : Option Addr) (u0 u1 : Bool) (dk : Nat) (l0 : Bool) (e0 : Int) (l1 : Bool) (e1 : Int) (sx : Bool) (mk : Option Addr) (ml mc : Nat) (room later : Int) :
    ∀ v ∈ (arW lk m g sp sl sc ra rb pp u0 u1 dk l0 e0 l1 e1 sx mk ml mc room later).toList, oneV v = true := by
  intro v hv
  simp only [arW, List.mem_cons, List.not_mem_nil, or_false] at hv
  rcases hv with rfl | rfl | rfl | rfl | rfl | rfl | rfl | rfl | rfl | rfl | rfl | rfl | rfl | rfl | rfl | rfl | rfl | rfl | rfl | rfl | rfl <;> rfl
section plain
variable {w w' : World} {q : AB} {lk : Int} {s : AS}
theorem SetAt.blk {sb : SB} {s : SS} (h : SetAt w sb s) {i : Nat} (hi : SFoot sb i) : ∃ cs t, Has w i (.cells cs t (0, 0)) := by
  rcases hi with rfl | hi | hi
  · exact ⟨_, _, h.main⟩
  · obtain ⟨br, hb, rfl⟩ := List.mem_map.1 hi
    obtain ⟨j, hj, rfl⟩ := List.mem_iff_getElem.1 hb
    have hl : j < s.ds.length := by rw [← h.len]; exact hj
    exact ⟨_, _, (h.disks j _ _ (List.getElem?_eq_getElem hj) (List.getElem?_eq_getElem hl)).1.cells⟩
  · obtain ⟨br, hb, rfl⟩ := List.mem_map.1 hi
    obtain ⟨j, hj, rfl⟩ := List.mem_iff_getElem.1 hb
    have hl : j < s.ds.length := by rw [← h.len]; exact hj
    obtain ⟨cs, hc⟩ := (h.disks j _ _ (List.getElem?_eq_getElem hj) (List.getElem?_eq_getElem hl)).1.rcells
    exact ⟨_, _, hc⟩
theorem PairAt.keepS {p : PB} {s : PS} {S : Nat → Prop} (h : PairAt w p s) (k : Keep S w w') (hS : ∀ i, PFoot p w i → ¬ S i) (hc : ¬ S p.c) : PairAt w' p s := by
  obtain ⟨pa, la, ca, pb, lb, cb, ha, hb, hne⟩ := h.rams
  have rw_ : ∀ {x : Option Addr} {l c : Nat} {bs : List Int}, OwnL byLay w p.base 5 x l c bs → ∀ k, x = some ⟨k, 0, none⟩ → ¬ S k := by
    intro x l c bs ho k hk
    rcases Own.cases ho with ⟨h0, _⟩ | ⟨b', cur, h0, hb', hg, _⟩
    · rw [h0] at hk; cases hk
    · rw [h0] at hk; cases hk; exact hS _ (Or.inr (Or.inr (Or.inr (Or.inr (Or.inr ⟨hb', cur, hg⟩)))))
  exact ⟨k.has h.cells (hS _ (Or.inl rfl)), h.cache.keep k hc (hS _ (Or.inr (Or.inl rfl))), k.has (show Has w _ _ from h.main) (hS _ (Or.inr (Or.inr (Or.inl rfl)))),
    ⟨pa, la, ca, pb, lb, cb, ha.keep k (hS _ (Or.inr (Or.inr (Or.inr (Or.inl rfl))))) (rw_ ha.row), hb.keep k (hS _ (Or.inr (Or.inr (Or.inr (Or.inr (Or.inl rfl)))))) (rw_ hb.row), hne⟩, h.ne, h.fit, h.form, h.low⟩
theorem ArAt.keep0 (h : ArAt w q lk s) (k : Keep (fun _ => False) w w') : ArAt w' q lk s :=
  ⟨k.has h.cells (by simp), h.set.keep0 k, h.disks.keep k (by simp), h.pair.keep k, k.has (show Has w _ _ from h.desk) (by simp), h.marks.keep k (by simp)⟩
/-- a set and a pair share the power alone -/
theorem ArAt.share (h : ArAt w q lk s) {i : Nat} (hp : PFoot q.pb w i) (hs : SFoot q.sb i) : i = q.pb.m := by
  obtain ⟨_, _, _, _, _, _, ha, hb, _⟩ := h.pair.rams
  rcases hp with e | e | e | e | e | ⟨_, cs, hc⟩
  · subst e; exact absurd hs (h.set.typ h.pair.cells (by decide) (by decide) (by decide))
  · subst e
    obtain ⟨cs, t, hc⟩ := h.set.blk hs
    obtain ⟨_, arr, clk, hm, _⟩ := h.pair.cache
    have := hc.inj hm
    cases this
  · exact e
  · subst e; exact absurd hs (h.set.typ ha.cells (by decide) (by decide) (by decide))
  · subst e; exact absurd hs (h.set.typ hb.cells (by decide) (by decide) (by decide))
  · exact absurd hs (h.set.typ hc (by decide) (by decide) (by decide))
/-- a call that changes the pair -/
theorem ArAt.ofPair (h : ArAt w q lk s) {p : PS} (hp : PairAt w' q.pb p) (k : Keep (PFoot q.pb w) w w') : ArAt w' q lk { s with ps := p } :=
  ⟨PFoot.has k h.cells (by decide) h.pair (by decide) (by decide) (by decide), h.set.pow k (fun i hs hf => h.share hf hs) hp.main,
   PFoot.own k h.disks (by decide) h.pair (by decide) (by decide) (by decide), hp, PFoot.has k (show Has w _ _ from h.desk) (by decide) h.pair (by decide) (by decide) (by decide),
   PFoot.own k h.marks (by decide) h.pair (by decide) (by decide) (by decide)⟩
/-- a store into the array's own block -/
theorem ArAt.put (h : ArAt w q lk s) {lk' : Int} {s' : AS} (h1 : s'.ss = s.ss) (h2 : s'.ps = s.ps) (h3 : s'.d = s.d) (h4 : s'.marks = s.marks) :
    ArAt (w.upd q.a (.cells (arC q lk' s') 143 (0, 0))) q lk' s' := by
  have k : Keep (fun k => k = q.a) w (w.upd q.a (.cells (arC q lk' s') 143 (0, 0))) := Keep.one _ _ _
  have ne : ∀ {i : Nat} {cs : Array Value} {t : TypeId}, Has w i (.cells cs t (0, 0)) → t ≠ 143 → ¬ i = q.a := by
    intro i cs t hi ht e
    subst e
    have := hi.inj h.cells
    simp only [Obj.cells.injEq] at this
    exact ht this.2.1
  refine ⟨h.cells.upd_same _, by rw [h1]; exact h.set.keep k fun i hi e => h.set.typ h.cells (by decide) (by decide) (by decide) (e ▸ hi), h.disks.keep k (fun b hb => ?_), by rw [h2]; exact h.pair.keepS k (fun i hi e => PFoot.not h.cells (by decide) h.pair (by decide) (by decide) (by decide) (e ▸ hi)) (ne h.pair.cache.1 (by decide)), by rw [h3]; exact k.has (show Has w _ _ from h.desk) (ne h.desk (by decide)), ?_⟩
  · obtain ⟨_, cur, hh⟩ := own_has h.disks b 0 hb
    exact ne hh (by decide)
  · rw [h4]
    refine h.marks.keep k (fun b hb => ?_)
    obtain ⟨_, cur, hh⟩ := own_has h.marks b 0 hb
    exact ne hh (by decide)
end plain

/-! ### New -/
structure NewS (w0 w : World) (g : Geo) (b m dk : Nat) (mk : Option Addr) (mc : Nat) : Prop where
  geo : Has w b (.cells (geoV g) 24 (0, 0))
  ma : MaAt w m pw0
  desk : DkAt w dk dk0
  marks : OwnL iLay w w0.heap.size 3 mk g.d.toNat mc (List.replicate g.d.toNat 0)
  keep : Keep (fun _ => False) w0 w
  hm : w0.heap.size ≤ m
  hd : w0.heap.size ≤ dk
  hb : w0.heap.size ≤ b
section plain
variable {w0 w w' : World} {g : Geo} {b m dk : Nat} {mk : Option Addr} {mc : Nat}
theorem NewS.keep0 (h : NewS w0 w g b m dk mk mc) (k : Keep (fun _ => False) w w') : NewS w0 w' g b m dk mk mc :=
  ⟨k.has h.geo (by simp), k.has (show Has w _ _ from h.ma) (by simp), k.has (show Has w _ _ from h.desk) (by simp), h.marks.keep k (by simp), h.keep.trans k, h.hm, h.hd, h.hb⟩
theorem NewS.st (h : NewS w0 w g b m dk mk mc) {a : Nat} {c c' : Array Value} (ha : Has w a (.cells c 143 (0, 0))) (h0 : w0.heap.size ≤ a) : NewS w0 (w.upd a (.cells c' 143 (0, 0))) g b m dk mk mc := by
  have k : Keep (fun k => k = a) w (w.upd a (.cells c' 143 (0, 0))) := Keep.one _ _ _
  have ne : ∀ {i : Nat} {cs : Array Value} {t : TypeId}, Has w i (.cells cs t (0, 0)) → t ≠ 143 → ¬ i = a := by
    intro i cs t hi ht e
    subst e
    have := hi.inj ha
    simp only [Obj.cells.injEq] at this
    exact ht this.2.1
  refine ⟨k.has h.geo (ne h.geo (by decide)), k.has (show Has w _ _ from h.ma) (ne h.ma (by decide)), k.has (show Has w _ _ from h.desk) (ne h.desk (by decide)), h.marks.keep k (fun b hb => ?_), h.keep.trans' k (fun i hi e => by omega), h.hm, h.hd, h.hb⟩
  obtain ⟨_, cur, hh⟩ := own_has h.marks b 0 hb
  exact ne hh (by decide)
end plain
def arS0 (g : Geo) : AS := ⟨(newS g pw0).ds, ⟨[], 0, 0, true, true, pw0, [], []⟩, true, true, true, 0, true, 0, false, List.replicate g.d.toNat 0, 0, dk0⟩
structure ArFrom (q : AB) (n : Nat) : Prop where
  a : n ≤ q.a
  dk : n ≤ q.dk
  p : n ≤ q.pb.p
  mp : n ≤ q.pb.mp
  m : n ≤ q.pb.m
  ra : n ≤ q.pb.a
  rb : n ≤ q.pb.b
  base : n ≤ q.pb.base
  disks : (SB.mk q.pb.m q.g q.bks).from_ n
theorem run_mkI (n : Nat) (hn : n ≤ 32) (w : World) : ∃ w', (Instr.makeSlice 69 (.int .i64 (n : Int)) (.int .i64 (n : Int))).run Tryz.prog w = .ok (.slice (some ⟨w.heap.size, 0, none⟩) n n) w' ∧ OwnL iLay w' w.heap.size 3 (some ⟨w.heap.size, 0, none⟩) n n (List.replicate n 0) ∧ Keep (fun _ => False) w w' ∧ w'.heap.size = w.heap.size + 1 :=
  run_makeL (P := Tryz.prog) (L := iLay) (x0 := (0 : Int)) (t := 69) (e := 3) (i := (Tryz.prog.info? 3).get (by kernel_rfl)) (z := ((Tryz.prog.info? 3).get (by kernel_rfl)).zero.get (by kernel_rfl)) w (by kernel_rfl) (by kernel_rfl) (by kernel_rfl) (by kernel_rfl) (by kernel_rfl) n
    (by show n * 1 ≤ _; omega) (by have : ((Tryz.prog.info? 3).get (by kernel_rfl)).bytes = 8 := by kernel_rfl
                                   rw [this]; omega) (by simp only [maxLen]; omega)
section calls
variable {w : World} {R : Value → World → Prop}
theorem ar_New {g : Geo} (hg : GeoOk g) {room : Int} (h1 : 1 ≤ room) (h2 : room ≤ 64) (hK : ∀ q w', q.g = g → q.pb.room = room → q.pb.sz = 65536 → ArAt w' q 0 (arS0 g) → ArFrom q w.heap.size → Keep (fun _ => False) w w' → R (.tuple #[.pointer (some ⟨q.a, 0, none⟩), .int .i64 0]) w') :
    CallV Tryz.prog 13 #[.agg (geoV g), .int .i64 room] w R := by
  apply C_array_New
  unfold F_array_New
  have hgd := hg.d
  have hdn : ((g.d.toNat : Nat) : Int) = g.d := by omega
  refine alc_fresh fun w1 hb1 k1 z1 => ?_
  refine LdA_all hb1 rfl ?_
  refine l_Check hg fun w2 k2 => OpI_int.2 ((Cb_false (p := _)).2 ⟨rfl, rfl, ?_⟩)
  rw [decide_eq_false (show ¬ room < 1 by omega), decide_eq_false (show ¬ room > 64 by omega)]
  refine (Cb_false (p := _)).2 ?_
  have hb2 := k2.has hb1 (by simp)
  have k02 := k1.trans k2
  refine ⟨fun st w' => ∃ m dk mk mc, st.1.2 = 0 ∧ w.heap.size ≤ st.1.1 ∧ Has w' st.1.1 (.cells (arW 0 m ⟨0, 0, 0⟩ none 0 0 none none none false false dk false 0 false 0 false mk g.d.toNat mc room 0) 143 (0, 0)) ∧ NewS w w' g w.heap.size m dk mk mc, ?_, ?_⟩
  · intro d
    have k2d := k02.dr d
    have hb2d : Has (w2.dr d) _ _ := hb2
    generalize w2.dr d = w3 at *
    refine ⟨fun w' => Has w' w.heap.size (.cells (geoV g) 24 (0, 0)), hb2d, ?_⟩
    refine LdV_of (v := .int .i64 g.d) (fun w' hw => ⟨_, _, _, hw, rfl⟩) (OpI_int.2 ?_)
    have bld : ∀ (m dk : Nat) (mk : Option Addr) (mc : Nat) (d : World), (Instr.build 143 #[(1, .pointer (some ⟨m, 0, none⟩)), (6, .pointer (some ⟨dk, 0, none⟩)), (10, .int .i64 room), (9, .slice mk g.d.toNat mc)]).run Tryz.prog d = .ok (.agg (arW 0 m ⟨0, 0, 0⟩ none 0 0 none none none false false dk false 0 false 0 false mk g.d.toNat mc room 0)) d := fun m dk mk mc d => run_build _ _ _ _ (by kernel_rfl)
    refine ⟨?_, ?_⟩
    · refine ma_New fun m w4 hm hma k4 z4 => OpN_some.2 ⟨k4.has hb2d (by simp), ?_, ?_⟩
      · refine rs_New fun w5 hdk k5 z5 => OpN_some.2 ⟨(k4.trans k5).has hb2d (by simp), ?_⟩
        obtain ⟨w6, hr, o6, k6, z6⟩ := run_mkI g.d.toNat (by omega) w5
        rw [hdn] at hr
        refine ⟨_, _, hr, OpS_slice.2 ⟨((k4.trans k5).trans k6).has hb2d (by simp), ?_⟩⟩
        refine DoQ_of (fun d => bld _ _ _ _ _) (OpA_agg.2 ⟨rfl, ?_⟩)
        refine alc_fresh fun w7 hb7 k7 z7 => ?_
        have k47 := ((k4.trans k5).trans k6).trans k7
        refine ⟨k47.has hb2d (by simp), _, _, _, _, rfl, ?_, hb7, k47.has hb2d (by simp), ((k5.trans k6).trans k7).has (show Has w4 _ _ from hma) (by simp), (k6.trans k7).has (show Has w5 _ _ from hdk) (by simp), (o6.rebase ?_).keep k7 (by simp), k2d.trans k47, ?_, ?_, Nat.le_refl _⟩
        all_goals first | exact ((k2d.trans k4).trans (k5.trans k6)).size | exact ((k2d.trans k4).trans k5).size | exact (k2d.trans k4).size | (rw [hm]; exact k2d.size)
      · obtain ⟨w6, hr, o6, k6, z6⟩ := run_mkI g.d.toNat (by omega) w4
        rw [hdn] at hr
        refine ⟨_, _, hr, OpS_slice.2 ⟨(k4.trans k6).has hb2d (by simp), ?_⟩⟩
        refine rs_New fun w5 hdk k5 z5 => OpN_some.2 ⟨((k4.trans k6).trans k5).has hb2d (by simp), ?_⟩
        refine DoQ_of (fun d => bld _ _ _ _ _) (OpA_agg.2 ⟨rfl, ?_⟩)
        refine alc_fresh fun w7 hb7 k7 z7 => ?_
        have k47 := ((k4.trans k6).trans k5).trans k7
        refine ⟨k47.has hb2d (by simp), _, _, _, _, rfl, ?_, hb7, k47.has hb2d (by simp), ((k6.trans k5).trans k7).has (show Has w4 _ _ from hma) (by simp), k7.has (show Has w5 _ _ from hdk) (by simp), ((o6.rebase ?_).keep k5 (by simp)).keep k7 (by simp), k2d.trans k47, ?_, ?_, Nat.le_refl _⟩
        all_goals first | exact ((k2d.trans k4).trans (k6.trans k5)).size | exact ((k2d.trans k4).trans k6).size | exact (k2d.trans k4).size | (rw [hm]; exact k2d.size)
    · obtain ⟨w6, hr, o6, k6, z6⟩ := run_mkI g.d.toNat (by omega) w3
      rw [hdn] at hr
      refine ⟨_, _, hr, OpS_slice.2 ⟨k6.has hb2d (by simp), ?_⟩⟩
      refine ma_New fun m w4 hm hma k4 z4 => OpN_some.2 ⟨(k6.trans k4).has hb2d (by simp), ?_⟩
      refine rs_New fun w5 hdk k5 z5 => OpN_some.2 ⟨((k6.trans k4).trans k5).has hb2d (by simp), ?_⟩
      refine DoQ_of (fun d => bld _ _ _ _ _) (OpA_agg.2 ⟨rfl, ?_⟩)
      refine alc_fresh fun w7 hb7 k7 z7 => ?_
      have k47 := ((k6.trans k4).trans k5).trans k7
      refine ⟨k47.has hb2d (by simp), _, _, _, _, rfl, ?_, hb7, k47.has hb2d (by simp), (k5.trans k7).has (show Has w4 _ _ from hma) (by simp), k7.has (show Has w5 _ _ from hdk) (by simp), (((o6.rebase ?_).keep k4 (by simp)).keep k5 (by simp)).keep k7 (by simp), k2d.trans k47, ?_, ?_, Nat.le_refl _⟩
      all_goals first | exact ((k2d.trans k6).trans (k4.trans k5)).size | exact k2d.size | (rw [hm]; exact (k2d.trans k6).size) | exact ((k2d.trans k6).trans k4).size
  rintro _ ⟨⟨a, o⟩, u⟩ w3 ⟨m, dk, mk, mc, ho, ha, hA, hN⟩
  simp only at ho ha hA ⊢
  subst ho
  clear k1 k2 k02 hb1 hb2 z1
  refine ⟨fun _ w' => ∃ sp sc bks, Has w' a (.cells (arW 0 m g sp g.d.toNat sc none none none false false dk false 0 false 0 false mk g.d.toNat mc room 0) 143 (0, 0)) ∧ NewS w w' g w.heap.size m dk mk mc ∧ SetAt w' ⟨m, g, bks⟩ (newS g pw0) ∧ OwnL dLay w' w.heap.size 111 sp g.d.toNat sc (bks.map Prod.fst) ∧ (SB.mk m g bks).from_ w.heap.size, ?_, ?_⟩
  · intro d
    have hN := hN.keep0 (Keep.drew _ w3 d)
    have hA : Has (w3.dr d) _ _ := hA
    generalize w3.dr d = w4 at *
    refine ⟨fun w' => True, trivial, ?_⟩
    refine LdA_all hN.geo rfl ?_
    refine LdV_has (v := .pointer (some ⟨m, 0, none⟩)) hA rfl (OpN_some.2 ?_)
    refine st_New hg hN.ma fun p c bks w5 hS o5 hfr k5 => T2_mk.2 (OpA_agg.2 ⟨rfl, OpI_int.2 ⟨trivial, ?_⟩⟩)
    have hA5 := k5.has hA (by simp)
    have hN5 := hN.keep0 k5
    have hz := hN.keep.size
    refine StA_of hA5 rfl (by show 0 + 3 + 4 ≤ 21; decide) (one_setV _ _ _ _) ⟨trivial, p, c, bks, hA5.upd_same _, hN5.st hA5 ha, ?_, ?_, fun br hbr => ?_⟩
    · exact hS.keep (Keep.one _ _ _) fun i hi e => hS.typ hA5 (by decide) (by decide) (by decide) (e ▸ hi)
    · refine (o5.rebase hz).keep (Keep.one _ _ _) fun b hb e => ?_
      obtain ⟨_, cur, hh⟩ := own_has o5 b 0 hb
      subst e
      have := hh.inj hA5
      simp only [Obj.cells.injEq] at this
      exact absurd this.2.1 (by decide)
    · have := hfr br hbr
      omega
  rintro _ _ w4 ⟨sp, sc, bks, hA4, hN4, hS4, o4, hfr⟩
  clear hA hN
  clear w3
  have tne : ∀ {w : World} {i j : Nat} {cs cs' : Array Value} {t t' : TypeId}, Has w i (.cells cs t (0, 0)) → Has w j (.cells cs' t' (0, 0)) → t ≠ t' → ¬ i = j := by
    intro w i j cs cs' t t' hi hj ht e
    subst e
    have := hi.inj hj
    simp only [Obj.cells.injEq] at this
    exact ht this.2.1
  refine LoopC_of (σ := Int × Unit) (fun st w' => ∃ k : Nat, st.1 = (k : Int) ∧ k ≤ 2 ∧ ∃ ra rb, w.heap.size ≤ ra ∧ w.heap.size ≤ rb ∧ Has w' a (.cells (arW 0 m g sp g.d.toNat sc (if 0 < k then some ⟨ra, 0, none⟩ else none) (if 1 < k then some ⟨rb, 0, none⟩ else none) none (decide (0 < k)) (decide (1 < k)) dk (decide (0 < k)) 0 (decide (1 < k)) 0 false mk g.d.toNat mc room 0) 143 (0, 0)) ∧
    NewS w w' g w.heap.size m dk mk mc ∧ SetAt w' ⟨m, g, bks⟩ (newS g pw0) ∧ OwnL dLay w' w.heap.size 111 sp g.d.toNat sc (bks.map Prod.fst) ∧ (0 < k → RaAt w' w.heap.size m ra 65536 none 0 0 []) ∧ (1 < k → RaAt w' w.heap.size m rb 65536 none 0 0 [] ∧ ra ≠ rb)) (fun st _ => (2 - st.1).toNat)
    ⟨0, rfl, by omega, w.heap.size, w.heap.size, Nat.le_refl _, Nat.le_refl _, hA4, hN4, hS4, o4, by omega, by omega⟩ ?_
  clear hA4 hN4 hS4 o4
  clear w4
  rintro _ ⟨i, u2⟩ w4 ⟨k, hi, hk, ra, rb, hra, hrb, hA4, hN4, hS4, o4, hr1, hr2⟩
  simp only at hi ⊢
  subst hi
  refine Cb_of (fun hc => ?_) (fun hc => ?_)
  · have hc : k < 2 := by simp only [decide_eq_true_eq] at hc; omega
    refine ⟨fun _ w' => ∃ ra rb, w.heap.size ≤ ra ∧ w.heap.size ≤ rb ∧ Has w' a (.cells (arW 0 m g sp g.d.toNat sc (if 0 < k + 1 then some ⟨ra, 0, none⟩ else none) (if 1 < k + 1 then some ⟨rb, 0, none⟩ else none) none (decide (0 < k)) (decide (1 < k)) dk (decide (0 < k)) 0 (decide (1 < k)) 0 false mk g.d.toNat mc room 0) 143 (0, 0)) ∧
      NewS w w' g w.heap.size m dk mk mc ∧ SetAt w' ⟨m, g, bks⟩ (newS g pw0) ∧ OwnL dLay w' w.heap.size 111 sp g.d.toNat sc (bks.map Prod.fst) ∧ (0 < k + 1 → RaAt w' w.heap.size m ra 65536 none 0 0 []) ∧ (1 < k + 1 → RaAt w' w.heap.size m rb 65536 none 0 0 [] ∧ ra ≠ rb), ?_, ?_⟩
    · intro d
      have kd := Keep.drew (fun _ => False) w4 d
      have hN4 := hN4.keep0 kd
      have hS4 := hS4.keep0 kd
      have o4 := o4.keep kd (by simp)
      have hr1 : 0 < k → RaAt (w4.dr d) w.heap.size m ra 65536 none 0 0 [] := fun h => (hr1 h).keep kd (by simp) (by simp)
      have hA4 : Has (w4.dr d) _ _ := hA4
      clear kd hr2
      generalize w4.dr d = w5 at *
      refine ⟨fun w' => True, trivial, ?_⟩
      refine LdV_has (v := .pointer (some ⟨m, 0, none⟩)) hA4 rfl (OpN_some.2 ?_)
      refine ra_New (base := w.heap.size) (by decide) (by decide) fun w6 hR k6 z6 => T2_mk.2 (OpN_some.2 (OpI_int.2 ⟨trivial, ⟨by omega, by omega⟩, ?_⟩))
      have hA6 := k6.has hA4 (by simp)
      have hN6 := hN4.keep0 k6
      have hS6 := hS4.keep0 k6
      have o6 := o4.keep k6 (by simp)
      have hz5 := hN4.keep.size
      refine StV_of hA6 (by show 0 + 7 + Int.toNat (k : Int) * 1 < 21; omega) rfl ⟨trivial, ?_⟩
      have ko : ∀ c, Keep (fun k => k = a) w6 (w6.upd a (.cells c 143 (0, 0))) := fun c => Keep.one _ _ _
      have hS' := fun c => hS6.keep (ko c) fun i hi e => hS6.typ hA6 (by decide) (by decide) (by decide) (e ▸ hi)
      have o' := fun c => o6.keep (ko c) fun b hb e => by
        obtain ⟨_, cur, hh⟩ := own_has o6 b 0 hb
        exact tne hh hA6 (by decide) e
      match k, hc with
      | 0, _ => exact ⟨w5.heap.size, rb, hz5, hrb, hA6.upd_same _, hN6.st hA6 ha, hS' _, o' _, fun _ => hR.keep (ko _) (tne hR.cells hA6 (by decide)) (by simp), by omega⟩
      | 1, _ =>
        have hR1 := (hr1 (by omega)).keep k6 (by simp) (by simp)
        exact ⟨ra, w5.heap.size, hra, hz5, hA6.upd_same _, hN6.st hA6 ha, hS' _, o' _, fun _ => hR1.keep (ko _) (tne hR1.cells hA6 (by decide)) (by simp), fun _ => ⟨hR.keep (ko _) (tne hR.cells hA6 (by decide)) (by simp), by have := (hr1 (by omega)).cells.lt; omega⟩⟩
    rintro _ _ w5 ⟨ra, rb, hra, hrb, hA5, hN5, hS5, o5, hr3, hr4⟩
    refine ⟨fun _ w' => ∃ ra rb, w.heap.size ≤ ra ∧ w.heap.size ≤ rb ∧ Has w' a (.cells (arW 0 m g sp g.d.toNat sc (if 0 < k + 1 then some ⟨ra, 0, none⟩ else none) (if 1 < k + 1 then some ⟨rb, 0, none⟩ else none) none (decide (0 < k + 1)) (decide (1 < k + 1)) dk (decide (0 < k + 1)) 0 (decide (1 < k + 1)) 0 false mk g.d.toNat mc room 0) 143 (0, 0)) ∧
      NewS w w' g w.heap.size m dk mk mc ∧ SetAt w' ⟨m, g, bks⟩ (newS g pw0) ∧ OwnL dLay w' w.heap.size 111 sp g.d.toNat sc (bks.map Prod.fst) ∧ (0 < k + 1 → RaAt w' w.heap.size m ra 65536 none 0 0 []) ∧ (1 < k + 1 → RaAt w' w.heap.size m rb 65536 none 0 0 [] ∧ ra ≠ rb), ?_, ?_⟩
    · intro d
      have kd := Keep.drew (fun _ => False) w5 d
      have hN5 := hN5.keep0 kd
      have hS5 := hS5.keep0 kd
      have o5 := o5.keep kd (by simp)
      have hr3 := fun h => (hr3 h).keep kd (by simp) (by simp)
      have hr4 := fun h => And.intro ((hr4 h).1.keep kd (by simp) (by simp)) (hr4 h).2
      have hA5 : Has (w5.dr d) _ _ := hA5
      clear kd
      generalize w5.dr d = w6 at *
      refine ⟨fun w' => True, trivial, ⟨by omega, by omega⟩, ?_⟩
      refine StV_of hA5 (by show 0 + 13 + Int.toNat (k : Int) * 2 < 21; omega) rfl ⟨trivial, ⟨by omega, by omega⟩, ?_⟩
      refine StV_of (hA5.upd_same _) (by rw [Array.size_setIfInBounds]; show 0 + 10 + Int.toNat (k : Int) * 1 < 21; omega) rfl ⟨trivial, ?_⟩
      rw [upd_upd]
      have ko : ∀ c, Keep (fun k => k = a) w6 (w6.upd a (.cells c 143 (0, 0))) := fun c => Keep.one _ _ _
      have hS' := fun c => hS5.keep (ko c) fun i hi e => hS5.typ hA5 (by decide) (by decide) (by decide) (e ▸ hi)
      have o' := fun c => o5.keep (ko c) fun b hb e => by
        obtain ⟨_, cur, hh⟩ := own_has o5 b 0 hb
        exact tne hh hA5 (by decide) e
      refine ⟨ra, rb, hra, hrb, ?_, hN5.st hA5 ha, hS' _, o' _, fun h => (hr3 h).keep (ko _) (tne (hr3 h).cells hA5 (by decide)) (by simp), fun h => ⟨(hr4 h).1.keep (ko _) (tne (hr4 h).1.cells hA5 (by decide)) (by simp), (hr4 h).2⟩⟩
      match k, hc with
      | 0, _ => exact hA5.upd_same _
      | 1, _ => exact hA5.upd_same _
    rintro _ _ w6 ⟨ra, rb, hra, hrb, hA6, hN6, hS6, o6, hr5, hr6⟩
    have e1 : IntKind.wrap .i64 ((k : Int) + 1) = ((k + 1 : Nat) : Int) := by rw [wrapI (by omega) (by omega)]; omega
    rw [e1]
    exact ⟨_, by show (2 - ((k + 1 : Nat) : Int)).toNat < (2 - (k : Int)).toNat; omega, ⟨k + 1, rfl, by omega, ra, rb, hra, hrb, hA6, hN6, hS6, o6, hr5, hr6⟩, rfl⟩
  · have hc : k = 2 := by simp only [decide_eq_false_iff_not] at hc; omega
    subst hc
    have hR1 := hr1 (by omega)
    obtain ⟨hR2, hne⟩ := hr2 (by omega)
    have hA4 : Has w4 a (.cells (arW 0 m g sp g.d.toNat sc (some ⟨ra, 0, none⟩) (some ⟨rb, 0, none⟩) none true true dk true 0 true 0 false mk g.d.toNat mc room 0) 143 (0, 0)) := hA4
    clear hr1 hr2
    refine ⟨fun _ w' => ∃ q, q.a = a ∧ q.g = g ∧ q.pb.room = room ∧ q.pb.sz = 65536 ∧ ArAt w' q 0 (arS0 g) ∧ ArFrom q w.heap.size ∧ Keep (fun _ => False) w w', ?_, ?_⟩
    · intro d
      have kd := Keep.drew (fun _ => False) w4 d
      have hN4 := hN4.keep0 kd
      have hS4 := hS4.keep0 kd
      have o4 := o4.keep kd (by simp)
      have hR1 := hR1.keep kd (by simp) (by simp)
      have hR2 := hR2.keep kd (by simp) (by simp)
      have hA4 : Has (w4.dr d) _ _ := hA4
      clear kd
      generalize w4.dr d = w5 at *
      refine ⟨fun w' => True, trivial, ⟨by decide, by decide⟩, ?_⟩
      refine LdV_has (v := .pointer (some ⟨ra, 0, none⟩)) hA4 rfl (OpN_some.2 ⟨⟨by decide, by decide⟩, ?_⟩)
      refine LdV_has (v := .pointer (some ⟨rb, 0, none⟩)) hA4 rfl (OpN_some.2 ?_)
      refine pr_New (base := w.heap.size) hN4.ma ⟨none, 0, 0, none, 0, 0, hR1, hR2, fun k h => by cases h⟩ hne ⟨by decide, by decide⟩ ⟨by decide, by decide⟩ h1 h2 hN4.keep.size fun p c mp w6 hP k6 hp hmp => T2_mk.2 (OpN_some.2 (OpI_int.2 ⟨trivial, ?_⟩))
      have hA6 := k6.has hA4 (by simp)
      have hN6 := hN4.keep0 k6
      have hS6 := hS4.keep0 k6
      have o6 := o4.keep k6 (by simp)
      have hz5 := hN4.keep.size
      refine StV_of hA6 (by show 0 + 9 < 21; decide) rfl ⟨trivial, ?_⟩
      have ko : ∀ c, Keep (fun k => k = a) w6 (w6.upd a (.cells c 143 (0, 0))) := fun c => Keep.one _ _ _
      have hN7 := hN6.st (c' := (arW 0 m g sp g.d.toNat sc (some ⟨ra, 0, none⟩) (some ⟨rb, 0, none⟩) (some ⟨p, 0, none⟩) true true dk true 0 true 0 false mk g.d.toNat mc room 0)) hA6 ha
      refine ⟨⟨a, g, bks, sp, sc, ⟨p, c, mp, m, ra, rb, w.heap.size, room, 65536⟩, dk, mk, mc⟩, rfl, rfl, rfl, rfl, ⟨hA6.upd_same _, ?_, ?_, ?_, hN7.desk, hN7.marks⟩, ⟨ha, hN7.hd, by show w.heap.size ≤ p; omega, by show w.heap.size ≤ mp; omega, hN7.hm, hra, hrb, Nat.le_refl _, hfr⟩, hN7.keep⟩
      · exact hS6.keep (ko _) fun i hi e => hS6.typ hA6 (by decide) (by decide) (by decide) (e ▸ hi)
      · exact o6.keep (ko _) fun b hb e => by
          obtain ⟨_, cur, hh⟩ := own_has o6 b 0 hb
          exact tne hh hA6 (by decide) e
      · exact hP.keepS (ko _) (fun i hi e => PFoot.not hA6 (by decide) hP (by decide) (by decide) (by decide) (e ▸ hi)) (tne hP.cache.1 hA6 (by decide))
    rintro _ _ w5 ⟨q, hqa, hqg, hqr, hqs, hq, hqf, kq⟩
    subst hqa
    exact Ret_nil.2 (hK q w5 hqg hqr hqs hq hqf kq)
end calls
end Go.Proofs

/-
  THE ARRAY: its small methods.
-/
namespace Go.Proofs
open Go Go.Ev
set_option linter.unusedSimpArgs false
set_option linter.unusedVariables false
set_option maxRecDepth 100000

def livesA (s : AS) (f : Bool) : Bool := cond f s.lb s.la
def epA (s : AS) (f : Bool) : Int := cond f s.eb s.ea
def upA (s : AS) (f : Bool) : Bool := cond f s.ub s.ua
def readyA (s : AS) (f : Bool) : Bool := s.ps.pw.on && (livesA s f && decide (keyS s.ss ≤ epA s f))
def readA (q : AB) (s : AS) (lba : Int) : Sec × Int := if (getV s.ps.es lba).2.2 = 0 then ((getV s.ps.es lba).1, 0) else readS q.g s.ss lba
theorem arC_ra (q : AB) (lk : Int) (s : AS) : (arC q lk s).extract 7 (7 + 2) = #[.pointer (some ⟨q.pb.a, 0, none⟩), .pointer (some ⟨q.pb.b, 0, none⟩)] := by
  apply Array.ext'
  simp only [Array.toList_extract, List.extract_eq_take_drop]
  rfl
theorem arC_set (q : AB) (lk : Int) (s : AS) : (arC q lk s).extract 3 (3 + 4) = setV q.g q.sp q.g.d.toNat q.sc := by
  apply Array.ext'
  simp only [Array.toList_extract, List.extract_eq_take_drop]
  rfl
theorem arC_geo (q : AB) (lk : Int) (s : AS) : (arC q lk s).extract 3 (3 + 3) = geoV q.g := by
  apply Array.ext'
  simp only [Array.toList_extract, List.extract_eq_take_drop]
  rfl
theorem other_side (f : Bool) : IntKind.wrap .i64 (1 - sideN f) = sideN (!f) := by cases f <;> decide +kernel
theorem side_rng (f : Bool) : 0 ≤ sideN f ∧ sideN f < 2 := by cases f <;> decide
section calls
variable {w : World} {q : AB} {lk : Int} {s : AS} {R : Value → World → Prop}
theorem ar_lock (h : ArAt w q 0 s) (hK : ∀ w', ArAt w' q 1 s → Keep (fun k => k = q.a) w w' → R (.tuple #[]) w') : CallV Tryz.prog 75 #[.pointer (some ⟨q.a, 0, none⟩)] w R :=
  mu_lock Tryz.muLib h.cells rfl (hK _ (h.put (lk' := 1) (s' := s) rfl rfl rfl rfl) (Keep.one _ _ _))
theorem ar_unlock (h : ArAt w q 1 s) {K : World → Prop} (hK : ∀ w', ArAt w' q 0 s → Keep (fun k => k = q.a) w w' → K w') : CallDV Tryz.prog 76 #[.pointer (some ⟨q.a, 0, none⟩)] w K :=
  mu_unlock Tryz.muLib h.cells rfl (hK _ (h.put (lk' := 0) (s' := s) rfl rfl rfl rfl) (Keep.one _ _ _))
theorem ar_on (h : ArAt w q lk s) {K : Nat → Nat → Prop} (hK : K q.pb.m 0) : LdV q.a 2 (At w) fun v => OpN v K := LdV_has (v := .pointer (some ⟨q.pb.m, 0, none⟩)) h.cells rfl (OpN_some.2 hK)
theorem ar_ready (h : ArAt w q lk s) (f : Bool) (hK : ∀ w', Keep (fun _ => False) w w' → R (.bool (readyA s f)) w') : CallV Tryz.prog 78 #[.pointer (some ⟨q.a, 0, none⟩), .int .i64 (sideN f)] w R := by
  apply C_array_Array_ready
  unfold F_array_Array_ready
  refine ⟨fun st w' => st.1 = readyA s f ∧ Keep (fun _ => False) w w', ?_, ?_⟩
  · intro d
    have kd := Keep.drew (fun _ => False) w d
    have hd := h.keep0 kd
    generalize w.dr d = w1 at *
    refine ⟨fun w' => Has w' q.a (.cells (arC q lk s) 143 (0, 0)), hd.cells, rfl, rfl, ?_⟩
    have e : (cond (decide (sideN f ≥ 0)) (decide (sideN f ≤ 1)) false) = true := by cases f <;> rfl
    rw [e]
    refine (Cb_true (q := _)).2 ?_
    refine LdV_of (v := .pointer (some ⟨q.pb.m, 0, none⟩)) (fun w' hw => ⟨_, _, _, hw, rfl⟩) (OpN_some.2 ?_)
    refine ma_On hd.pair.main (OpB_bool.2 ⟨hd.cells, ?_⟩)
    refine Cb_of (fun hon => ?_) (fun hon => ⟨hd.cells, by unfold readyA; rw [hon]; rfl, kd⟩)
    refine LdV_of (v := .pointer (some ⟨q.pb.p, 0, none⟩)) (fun w' hw => ⟨_, _, _, hw, rfl⟩) (OpP_some.2 ⟨side_rng f, ?_⟩)
    refine LdV_of (v := .bool (livesA s f)) (fun w' hw => ⟨_, _, _, hw, by cases f <;> rfl⟩) (OpB_bool.2 ?_)
    refine Cb_of (fun hl => ⟨side_rng f, ?_⟩) (fun hl => ⟨hd.cells, by unfold readyA; rw [hon, hl]; rfl, kd⟩)
    refine LdV_of (v := .int .u32 (epA s f)) (fun w' hw => ⟨_, _, _, hw, by cases f <;> rfl⟩) (OpI_int.2 ?_)
    refine LdA_has (cs := setV q.g q.sp q.g.d.toNat q.sc) hd.cells (by show 3 + 4 ≤ 21; decide) (arC_set q lk s) ?_
    refine st_Key (q := q.sb) hd.set hd.disks.sl hd.disks.cap.1 fun w2 k2 => OpI_int.2 ⟨k2.has hd.cells (by simp), ?_, kd.trans k2⟩
    show decide (epA s f ≥ keyS s.ss) = readyA s f
    unfold readyA
    rw [hon, hl]
    rfl
  rintro _ ⟨b, u⟩ w1 ⟨hb, k1⟩
  simp only at hb ⊢
  subst hb
  exact Ret_nil.2 (hK w1 k1)
theorem ar_alone0 (h : ArAt w q lk s) (f : Bool) (hq : upA s (!f) = false ∨ (livesA s (!f) = true ∧ s.split = false)) (hK : R (.int .i64 0) w) : CallV Tryz.prog 79 #[.pointer (some ⟨q.a, 0, none⟩), .int .i64 (sideN f)] w R := by
  apply C_array_Array_alone
  unfold F_array_Array_alone
  simp only [other_side]
  refine ⟨fun st w' => st.1 = true ∧ w' = w, ⟨side_rng _, ?_⟩, ?_⟩
  · refine LdV_has (v := .bool (upA s (!f))) h.cells (by cases f <;> rfl) (OpB_bool.2 ?_)
    refine Cb_of (fun hu => ⟨rfl, rfl⟩) (fun hu => ⟨side_rng _, ?_⟩)
    have hu : upA s (!f) = true := by simpa using hu
    rcases hq with hq | ⟨hl, hs⟩
    · rw [hu] at hq; cases hq
    refine LdV_has (v := .bool (livesA s (!f))) h.cells (by cases f <;> rfl) (OpB_bool.2 ?_)
    rw [hl]
    refine (Cb_true (q := _)).2 (LdV_has (v := .bool s.split) h.cells rfl (OpB_bool.2 ⟨by rw [hs]; rfl, rfl⟩))
  rintro _ ⟨b, u⟩ w1 ⟨hb, rfl⟩
  simp only at hb ⊢
  subst hb
  exact (Cb_true (q := _)).2 (Ret_nil.2 hK)
def xsA (s : PS) (f : Bool) : List Int := cond f s.xb s.xa
theorem ar_shorten0 (h : ArAt w q lk s) (hr : ∀ f, upA s f = true → 64 ≤ (q.pb.sz - ((xsA s.ps f).length : Int)) / 37) (hK : ∀ w', Keep (fun _ => False) w w' → R (.int .i64 0) w') : CallV Tryz.prog 144 #[.pointer (some ⟨q.a, 0, none⟩)] w R := by
  apply C_array_Array_shorten
  unfold F_array_Array_shorten
  refine LdA_has (cs := #[.pointer (some ⟨q.pb.a, 0, none⟩), .pointer (some ⟨q.pb.b, 0, none⟩)]) h.cells (by show 7 + 2 ≤ 21; decide) (arC_ra q lk s) ?_
  refine LoopC_of (σ := Int × Unit) (fun st w' => 0 ≤ st.1 ∧ st.1 ≤ 2 ∧ Keep (fun _ => False) w w') (fun st _ => (2 - st.1).toNat) ⟨by decide, by decide, Keep.refl _ _⟩ ?_
  rintro _ ⟨i, u⟩ w1 ⟨hi0, hi2, k1⟩
  simp only at hi0 hi2 ⊢
  refine Cb_of (fun hc => ?_) (fun hc => Ret_nil.2 (hK w1 k1))
  have hc : i < 2 := by simpa using hc
  obtain ⟨f, hf⟩ : ∃ f, i = sideN f := by
    by_cases h0 : i = 0
    · exact ⟨false, h0⟩
    · exact ⟨true, by show i = 1; omega⟩
  subst hf
  have h1 := h.keep0 k1
  refine ⟨side_rng f, .pointer (some ⟨ramB q.pb f, 0, none⟩), by cases f <;> rfl, OpN_some.2 ⟨side_rng f, ?_⟩⟩
  refine LdV_has (v := .bool (upA s f)) h1.cells (by cases f <;> rfl) (OpB_bool.2 ?_)
  have nx : ∀ w2, Keep (fun _ => False) w w2 → ∃ m, m < (2 - sideN f).toNat ∧ ((0 ≤ IntKind.wrap .i64 (sideN f + 1) ∧ IntKind.wrap .i64 (sideN f + 1) ≤ 2 ∧ Keep (fun _ => False) w w2) ∧ (2 - IntKind.wrap .i64 (sideN f + 1)).toNat = m) := fun w2 k2 => by
    rw [wrapI (by omega) (by omega)]
    exact ⟨_, by omega, ⟨by omega, by omega, k2⟩, rfl⟩
  refine Cb_of (fun hu => ?_) (fun hu => nx w1 k1)
  obtain ⟨pa, la, ca, pb, lb, cb, ha, hb, _⟩ := h1.pair.rams
  have go : ∀ {p : Option Addr} {l c : Nat}, RaAt w1 q.pb.base q.pb.m (ramB q.pb f) q.pb.sz p l c (xsA s.ps f) → ((xsA s.ps f).length : Int) ≤ q.pb.sz → CallV Tryz.prog 221 #[.pointer (some ⟨ramB q.pb f, 0, none⟩)] w1 fun v2 w'' => OpI .i64 v2 fun n => Cb (decide (n < 64)) (LdV q.a 9 (At w'') fun v3 => OpN v3 fun b1 o1 => CallV Tryz.prog 168 #[.pointer (some ⟨b1, o1, none⟩)] w'' fun v4 w => OpI .i64 v4 fun n1 => Ret [] (R (.int .i64 n1) w))
      (∃ m, m < (2 - sideN f).toNat ∧ ((0 ≤ IntKind.wrap .i64 (sideN f + 1) ∧ IntKind.wrap .i64 (sideN f + 1) ≤ 2 ∧ Keep (fun _ => False) w w'') ∧ (2 - IntKind.wrap .i64 (sideN f + 1)).toNat = m)) := fun hh hl => by
    refine ra_Room hh h1.pair.form.1 h1.pair.form.2 (by rw [hh.row.length]; exact hl) fun d => OpI_int.2 ?_
    rw [decide_eq_false (by have := hr f hu; omega)]
    exact (Cb_false (p := _)).2 (nx _ (k1.dr d))
  cases f with
  | false => exact go ha h1.pair.fit.1
  | true => exact go hb h1.pair.fit.2
theorem ar_capacity (h : ArAt w q lk s) (hK : ∀ w', Keep (fun _ => False) w w' → R (.int .i64 ((q.g.d - 2) * q.g.c * q.g.s)) w') : CallV Tryz.prog 74 #[.pointer (some ⟨q.a, 0, none⟩)] w R := by
  apply C_array_Array_capacity
  unfold F_array_Array_capacity
  refine LdA_has (cs := geoV q.g) h.cells (by show 3 + 3 ≤ 21; decide) (arC_geo q lk s) ?_
  exact l_Cap h.set.geo fun w1 k1 => T2_mk.2 (OpI_int.2 (OpI_int.2 (Ret_nil.2 (hK w1 k1))))
theorem ar_Capacity (h : ArAt w q lk s) (hK : ∀ w', Keep (fun _ => False) w w' → R (.int .i64 ((q.g.d - 2) * q.g.c * q.g.s)) w') : CallV Tryz.prog 15 #[.pointer (some ⟨q.a, 0, none⟩)] w R := by
  apply C_array_Array_Capacity
  unfold F_array_Array_Capacity
  exact ar_capacity h fun w1 k1 => OpI_int.2 (Ret_nil.2 (hK w1 k1))
theorem ar_Ready (h : ArAt w q lk s) (f : Bool) (hK : ∀ w', Keep (fun _ => False) w w' → R (.bool (readyA s f)) w') : CallV Tryz.prog 23 #[.pointer (some ⟨q.a, 0, none⟩), .int .i64 (sideN f)] w R := by
  apply C_array_Array_Ready
  unfold F_array_Array_Ready
  exact ar_ready h f fun w1 k1 => OpB_bool.2 (Ret_nil.2 (hK w1 k1))
theorem ar_On (h : ArAt w q lk s) (hK : R (.bool s.ps.pw.on) w) : CallV Tryz.prog 47 #[.pointer (some ⟨q.a, 0, none⟩)] w R := by
  apply C_array_Array_On
  unfold F_array_Array_On
  exact ar_on h (ma_On h.pair.main (OpB_bool.2 (Ret_nil.2 hK)))
theorem ar_Steps (h : ArAt w q lk s) (hK : R (.int .i64 s.ps.pw.steps) w) : CallV Tryz.prog 50 #[.pointer (some ⟨q.a, 0, none⟩)] w R := by
  apply C_array_Array_Steps
  unfold F_array_Array_Steps
  exact ar_on h (ma_Steps h.pair.main (OpI_int.2 (Ret_nil.2 hK)))
theorem ar_Dirty (h : ArAt w q lk s) (hK : R (.int .i64 (s.ps.es.length : Int)) w) : CallV Tryz.prog 18 #[.pointer (some ⟨q.a, 0, none⟩)] w R := by
  apply C_array_Array_Dirty
  unfold F_array_Array_Dirty
  refine LdV_has (v := .pointer (some ⟨q.pb.p, 0, none⟩)) h.cells rfl (OpP_some.2 ?_)
  refine LdV_has (v := .pointer (some ⟨q.pb.p, 0, none⟩)) h.cells rfl (OpN_some.2 ?_)
  refine LdV_has (v := .pointer (some ⟨q.pb.c, 0, none⟩)) h.pair.cells rfl (OpN_some.2 ?_)
  exact cache_Len h.pair.cache (OpI_int.2 (Ret_nil.2 hK))
theorem ar_read (h : ArAt w q lk s) (hok : ∀ D ∈ s.ds, DskOk D) {lba : Int} (h0 : 0 ≤ lba) (h1 : lba < (q.g.d - 2) * q.g.c * q.g.s) (hK : ∀ w', Keep (fun _ => False) w w' → R (.tuple #[.agg (secV (readA q s lba).1), .int .i64 (readA q s lba).2]) w') :
    CallV Tryz.prog 81 #[.pointer (some ⟨q.a, 0, none⟩), .int .i64 lba] w R := by
  apply C_array_Array_read
  unfold F_array_Array_read
  unfold readA at hK
  refine alc_fresh fun w1 hb1 k1 z1 => ?_
  have h1' := h.keep0 k1
  refine LdV_has (v := .pointer (some ⟨q.pb.p, 0, none⟩)) h1'.cells rfl (OpN_some.2 ?_)
  refine pr_Get h1'.pair fun w2 k2 => T3_mk.2 (OpA_agg.2 ⟨rfl, OpI_int.2 (OpI_int.2 ?_)⟩)
  refine alc_fresh fun w3 hb3 k3 z3 => ?_
  have hne : w.heap.size ≠ w2.heap.size := by have := k2.size; omega
  refine StA_all hb3 rfl (by rw [zc_sec]; rfl) (one_secV _) ?_
  have k02 := k1.trans k2
  have k03 := k02.trans k3
  have k04 : Keep (fun _ => False) w (w3.upd w2.heap.size (.cells (secV (getV s.ps.es lba).1) 37 (0, 0))) := k03.upd (fun hi => absurd hi (by have := k02.size; omega)) _
  have hb4 := hb3.upd_same (.cells (secV (getV s.ps.es lba).1) 37 (0, 0))
  have hb1' : Has (w3.upd w2.heap.size (.cells (secV (getV s.ps.es lba).1) 37 (0, 0))) w.heap.size _ := ((k2.trans k3).has hb1 (by simp)).upd hne
  generalize w3.upd w2.heap.size _ = w4 at *
  have bk : ∀ {x : Sec} {w5 : World}, Keep (fun _ => False) w w5 → Keep (fun _ => False) w (w5.upd w.heap.size (.cells (secV x) 37 (0, 0))) := fun k => k.upd (fun hi => absurd hi (by omega)) _
  refine Cb_of (fun hc => ?_) (fun hc => ?_)
  · have hc : (getV s.ps.es lba).2.2 = 0 := by simpa using hc
    rw [if_pos hc] at hK
    refine LdA_all hb4 rfl ?_
    refine StA_all hb1' rfl (by rw [zc_sec]; rfl) (one_secV _) ?_
    refine LdA_all (hb1'.upd_same _) rfl (Ret_nil.2 ?_)
    rw [hc]
    exact hK _ (bk k04)
  · have hc : ¬ (getV s.ps.es lba).2.2 = 0 := by simpa using hc
    rw [if_neg hc] at hK
    have h4 := h.keep0 k04
    refine LdA_has (cs := setV q.g q.sp q.g.d.toNat q.sc) h4.cells (by show 3 + 4 ≤ 21; decide) (arC_set q lk s) ?_
    refine st_Read (q := q.sb) h4.set h4.disks.sl h4.disks.cap.1 hok h0 h1 fun w5 k5 => T2_mk.2 (OpA_agg.2 ⟨rfl, OpI_int.2 ?_⟩)
    have hb5 := k5.has hb1' (by simp)
    refine StA_all hb5 rfl (by rw [zc_sec]; rfl) (one_secV _) ?_
    exact LdA_all (hb5.upd_same _) rfl (Ret_nil.2 (hK _ (bk (k04.trans k5))))
theorem ar_put0 (h : ArAt w q lk s) (f : Bool) {lba : Int} {d : Sec} (hq : (getV s.ps.es lba).2.2 = 0 ∨ (s.ps.es.length : Int) < q.pb.room) (hr : ∀ f, upA s f = true → 64 ≤ (q.pb.sz - ((xsA s.ps f).length : Int)) / 37)
    (hK : ∀ w', ArAt w' q lk { s with ps := (putP q.pb.room q.pb.sz s.ps f lba d).2 } → Keep (PFoot q.pb w) w w' → R (.int .i64 (putP q.pb.room q.pb.sz s.ps f lba d).1.2) w') :
    CallV Tryz.prog 82 #[.pointer (some ⟨q.a, 0, none⟩), .int .i64 (sideN f), .int .i64 lba, .agg (secV d)] w R := by
  apply C_array_Array_put
  unfold F_array_Array_put
  refine alc_fresh fun w1 hb1 k1 z1 => ?_
  refine LoopC_of (σ := Unit) (fun _ w' => w' = w1) (fun _ _ => 0) rfl ?_
  rintro _ _ w2 rfl
  have h1' := h.keep0 k1
  refine LdV_has (v := .pointer (some ⟨q.pb.p, 0, none⟩)) h1'.cells rfl (OpN_some.2 ?_)
  refine pr_Get h1'.pair fun w3 k3 => T3_mk.2 (OpA_agg.2 ⟨rfl, OpI_int.2 (OpI_int.2 ?_)⟩)
  refine alc_fresh fun w4 hb4 k4 z4 => ?_
  have hne : w.heap.size ≠ w3.heap.size := by have := k3.size; omega
  refine StA_all hb4 rfl (by rw [zc_sec]; rfl) (one_secV _) ?_
  have k13 := k1.trans k3
  have k05 : Keep (fun _ => False) w (w4.upd w3.heap.size (.cells (secV (getV s.ps.es lba).1) 37 (0, 0))) := (k13.trans k4).upd (fun hi => absurd hi (by have := k13.size; omega)) _
  have hb5 : Has (w4.upd w3.heap.size (.cells (secV (getV s.ps.es lba).1) 37 (0, 0))) w.heap.size _ := ((k3.trans k4).has hb1 (by simp)).upd hne
  generalize w4.upd w3.heap.size _ = w5 at *
  have fin : ∀ w5 : World, Keep (fun _ => False) w w5 → Has w5 w.heap.size (.cells (secV d) 37 (0, 0)) → CallV Tryz.prog 144 #[.pointer (some ⟨q.a, 0, none⟩)] w5 fun v5 v => OpI .i64 v5 fun n2 => Cb (n2 != 0) (Ret [] (R (.int .i64 n2) v)) (HeldR v fun S v => LdV q.a 9 (At v) fun v6 => OpN v6 fun b3 o1 => LdA 16 w.heap.size 0 (At v) fun cs1 => CallV Tryz.prog 156 #[.pointer (some ⟨b3, o1, none⟩), .int .i64 (sideN f), .int .i64 lba, .agg cs1] v fun v7 v =>
      T2 v7 fun v8 v9 => OpI .u64 v8 fun n3 => OpI .i64 v9 fun n4 => Hld (S v) (Ret [] (R (.int .i64 n4) v))) := fun w5 k05 hb5 => by
    have h5 := h.keep0 k05
    refine ar_shorten0 h5 hr fun w6 k6 => OpI_int.2 ((Cb_false (p := _)).2 fun dd => ?_)
    have k06 := (k05.trans k6).dr dd
    have h6 := h.keep0 k06
    have hb6 : Has (w6.dr dd) w.heap.size _ := k6.has hb5 (by simp)
    generalize w6.dr dd = w7 at *
    refine ⟨fun _ => True, trivial, ?_⟩
    refine LdV_has (v := .pointer (some ⟨q.pb.p, 0, none⟩)) h6.cells rfl (OpN_some.2 ?_)
    refine LdA_all hb6 rfl ?_
    refine pr_Put h6.pair f fun w8 hp k8 => T2_mk.2 (OpI_int.2 (OpI_int.2 ⟨trivial, Ret_nil.2 ?_⟩))
    exact hK w8 (h6.ofPair hp k8) (PFoot.trans (PFoot.none k06) k8)
  refine ⟨fun st w' => st.1 = true ∧ ∃ dd, w' = w5.dr dd, ?_, ?_⟩
  · refine Cb_of (fun hc => ⟨rfl, w5.drawn, rfl⟩) (fun hc => ?_)
    have hc : ¬ (getV s.ps.es lba).2.2 = 0 := by simpa using hc
    have hl : (s.ps.es.length : Int) < q.pb.room := hq.resolve_left hc
    have h5 := h.keep0 k05
    refine LdV_has (v := .pointer (some ⟨q.pb.p, 0, none⟩)) h5.cells rfl (OpN_some.2 ?_)
    refine pr_Full h5.pair fun dd => OpB_bool.2 ⟨by rw [decide_eq_false (by omega)]; rfl, dd, rfl⟩
  rintro _ ⟨b, u⟩ w6 ⟨hb, dd, rfl⟩
  simp only at hb ⊢
  subst hb
  exact (Cb_true (q := _)).2 (fin _ (k05.dr dd) hb5)
end calls
end Go.Proofs

/- PRINTED BY pr.py (own program): what the evaluator of <Name>Ev makes of the code of some functions. -/
namespace Go.Proofs
open Go.Ev
set_option linter.unusedVariables false
set_option maxRecDepth 100000
def F_cdb_Check (c : Array Value) (capacity : Int) (w : World) (R : Value → World → Prop) : Prop :=
  Alc 41 c w fun b w => LdV b 0 (At w) fun v => OpI .i64 v fun n => JoinC (σ := Int × Unit) (fun J1 => JoinC (σ := Bool × Unit) (fun J2 => Cb (n == 1) (J2 (n == 1, ()) w)
  (Cb (n == 4) (J2 (n == 4, ()) w) (Cb (n == 7) (J2 (n == 7, ()) w) (Cb (n == 9) (J2 (n == 9, ()) w) (J2 (n == 10, ()) w))))) (fun _ s2 w => Cb s2.1 (Ret [] (R (.int .i64 0)
  w)) (Cb (n == 8) (LdV b 5 (At w) fun v1 => OpI .i64 v1 fun n1 => Cb (decide (n1 < 1)) (Ret [] (R (.int .i64 2) w)) (LdV b 5 (At w) fun v2 => OpI .i64 v2 fun n2 => Cb
  (decide (n2 > 4)) (Ret [] (R (.int .i64 2) w)) (Ret [] (R (.int .i64 0) w)))) (Cb (n == 11) (LdV b 4 (At w) fun v3 => OpI .u64 v3 fun n3 => Cb (n3 == 0) (Ret [] (R (.int
  .i64 2) w)) (Ret [] (R (.int .i64 0) w))) (JoinC (σ := Bool × Unit) (fun J3 => Cb (n == 2) (J3 (n == 2, ()) w) (J3 (n == 6, ()) w)) (fun _ s3 w => Cb s3.1 (LdV b 2 (At w)
  fun v4 => OpI .i64 v4 fun n4 => J1 (n4, ()) w) (Cb (n == 3) (LdV b 3 (At w) fun v5 => OpS v5 fun p l c1 => J1 (((l : Nat) : Int), ()) w) (Cb (n == 5) (LdV b 3 (At w) fun
  v6 => OpS v6 fun p1 l1 c2 => Cb (((l1 : Nat) : Int) == 2) (J1 (1, ()) w) (J1 (0, ()) w)) (J1 (0, ()) w))))))))) (fun _ s1 w => Req ((decide (s1.1 < 1)) = (decide (s1.1 <
  1))) (Req ((decide (s1.1 < 1)) = (decide (s1.1 < 1))) (Cb (cond (decide (s1.1 < 1)) true (decide (s1.1 > 8))) (Req (true = true) (Req (true = true) (Req (true = true) (Ret
  [] (R (.int .i64 2) w))))) (LdV b 1 (At w) fun v7 => OpI .i64 v7 fun n5 => Req ((decide (n5 < 0)) = (decide (n5 < 0))) (Req ((decide (n5 < 0)) = (decide (n5 < 0))) (Req
  ((decide (n5 < 0)) = (decide (n5 < 0))) (Cb (cond (decide (n5 < 0)) true (decide (capacity < s1.1))) (Ret [] (R (.int .i64 2) w)) (LdV b 1 (At w) fun v8 => OpI .i64 v8 fun
  n6 => Cb (decide (n6 > IntKind.wrap .i64 (capacity - s1.1))) (Ret [] (R (.int .i64 2) w)) (Ret [] (R (.int .i64 0) w))))))))))
theorem C_cdb_Check {c : Array Value} {capacity : Int} {w : World} {R : Value → World → Prop} (h : F_cdb_Check c capacity w R) : CallV Tryz.prog 147 #[.agg c, .int .i64 capacity] w R := by
  exact calls_of_F (args := [.agg c, .int .i64 capacity]) (mkAnn [] [(0, [(5, (.int .i64))])] [(50004, [(8, .bool)]), (50018, [(29, .bool)])] [] []) Tryz_mixed Tryz.func147 rfl rfl (by kernel_rfl) h
def F_model_Gate (d : Nat) (capacity : Int) (init : Int) (c : Array Value) (w : World) (R : Value → World → Prop) : Prop :=
  Alc 41 c w fun b w => Alc 34 (zc Tryz.prog 34) w fun b1 w => Req ((decide (init < 0)) = (decide (init < 0))) (Req ((decide (init < 0)) = (decide (init < 0))) (Cb (cond
  (decide (init < 0)) true (decide (init ≥ 16))) (DoQ Tryz.prog (Instr.build 34 #[(0, .int .i64 2), (1, .int .i64 5)]) (At w) fun v => OpA 3 v fun cs => StA 3 b1 0 cs w fun
  w => LdA 3 b1 0 (At w) fun cs1 => Ret [] (R (.tuple #[.agg cs1, .bool true]) w)) (LdA 7 b 0 (At w) fun cs2 => CallV Tryz.prog 147 #[.agg cs2, .int .i64 capacity] w fun v1
  w => OpI .i64 v1 fun n => Cb (n != 0) (DoQ Tryz.prog (Instr.build 34 #[(0, .int .i64 2), (1, .int .i64 5)]) (At w) fun v2 => OpA 3 v2 fun cs3 => StA 3 b1 0 cs3 w fun w =>
  LdA 3 b1 0 (At w) fun cs4 => Ret [] (R (.tuple #[.agg cs4, .bool true]) w)) (LdV b 0 (At w) fun v3 => OpI .i64 v3 fun n1 => JoinC (σ := Int × Unit) (fun J1 => Cb (n1 == 2)
  (DoQ Tryz.prog (Instr.build 34 #[(0, .int .i64 3)]) (At w) fun v4 => OpA 3 v4 fun cs5 => CallV Tryz.prog 148 #[.pointer (some ⟨d, 0, none⟩), .int .i64 init, .bool false] w
  fun v5 w => OpB v5 fun g => StA 3 b1 0 cs5 w fun w => LdA 3 b1 0 (At w) fun cs6 => Ret [] (R (.tuple #[.agg cs6, .bool (!g)]) w)) (JoinC (σ := Bool × Unit) (fun J2 => Cb
  (n1 == 3) (J2 (n1 == 3, ()) w) (Cb (n1 == 5) (J2 (n1 == 5, ()) w) (J2 (n1 == 6, ()) w))) (fun _ s2 w => Cb s2.1 (DoQ Tryz.prog (Instr.build 34 #[(0, .int .i64 3)]) (At w)
  fun v6 => OpA 3 v6 fun cs7 => CallV Tryz.prog 148 #[.pointer (some ⟨d, 0, none⟩), .int .i64 init, .bool true] w fun v7 w => OpB v7 fun g1 => StA 3 b1 0 cs7 w fun w => LdA
  3 b1 0 (At w) fun cs8 => Ret [] (R (.tuple #[.agg cs8, .bool (!g1)]) w)) (Cb (n1 == 7) (LdV b 4 (At w) fun v8 => OpI .u64 v8 fun n2 => LdV b 6 (At w) fun v9 => OpB v9 fun
  g2 => CallV Tryz.prog 149 #[.pointer (some ⟨d, 0, none⟩), .int .i64 init, .int .u64 n2, .bool g2] w fun v10 w => OpI .i64 v10 fun n3 => J1 (n3, ()) w) (Cb (n1 == 8) (LdV b
  5 (At w) fun v11 => OpI .i64 v11 fun n4 => CallV Tryz.prog 150 #[.pointer (some ⟨d, 0, none⟩), .int .i64 init, .int .i64 n4] w fun v12 w => OpI .i64 v12 fun n5 => J1 (n5,
  ()) w) (Cb (n1 == 9) (CallV Tryz.prog 151 #[.pointer (some ⟨d, 0, none⟩), .int .i64 init] w fun v13 w => OpI .i64 v13 fun n6 => J1 (n6, ()) w) (Cb (n1 == 10) (CallV
  Tryz.prog 152 #[.pointer (some ⟨d, 0, none⟩), .int .i64 init] w fun v14 w => OpI .i64 v14 fun n7 => J1 (n7, ()) w) (Cb (n1 == 11) (LdV b 4 (At w) fun v15 => OpI .u64 v15
  fun n8 => CallV Tryz.prog 153 #[.pointer (some ⟨d, 0, none⟩), .int .i64 init, .int .u64 n8] w fun v16 w => OpI .i64 v16 fun n9 => J1 (n9, ()) w) (DoQ Tryz.prog
  (Instr.build 34 #[]) (At w) fun v17 => OpA 3 v17 fun cs9 => StA 3 b1 0 cs9 w fun w => LdA 3 b1 0 (At w) fun cs10 => Ret [] (R (.tuple #[.agg cs10, .bool false])
  w)))))))))) (fun _ s1 w => Cb (s1.1 != 0) (DoQ Tryz.prog (Instr.build 34 #[(0, .int .i64 3)]) (At w) fun v18 => OpA 3 v18 fun cs11 => StA 3 b1 0 cs11 w fun w => LdA 3 b1 0
  (At w) fun cs12 => Ret [] (R (.tuple #[.agg cs12, .bool true]) w)) (DoQ Tryz.prog (Instr.build 34 #[(0, .int .i64 1)]) (At w) fun v19 => OpA 3 v19 fun cs13 => StA 3 b1 0
  cs13 w fun w => LdA 3 b1 0 (At w) fun cs14 => Ret [] (R (.tuple #[.agg cs14, .bool true]) w)))))))
theorem C_model_Gate {d : Nat} {capacity : Int} {init : Int} {c : Array Value} {w : World} {R : Value → World → Prop} (h : F_model_Gate d capacity init c w R) : CallV Tryz.prog 80 #[.pointer (some ⟨d, 0, none⟩), .int .i64 capacity, .int .i64 init, .agg c] w R := by
  exact calls_of_F (args := [.pointer (some ⟨d, 0, none⟩), .int .i64 capacity, .int .i64 init, .agg c]) (mkAnn [] [(0, [(10, (.int .i64))])] [(50009, [(34, .bool)])] [] []) Tryz_mixed Tryz.func80 rfl rfl (by kernel_rfl) h
end Go.Proofs

/-
  THE ARRAY: Do.
-/
namespace Go.Proofs
open Go Go.Ev
set_option linter.unusedSimpArgs false
set_option linter.unusedVariables false
set_option maxRecDepth 100000

/-! ### the gate -/
structure Cmd where
  k : Int
  lba : Int
  n : Int
  dp : Option Addr
  dl : Nat
  dc : Nat
  key : Int
  ty : Int
  kp : Bool
def cmdC (c : Cmd) : Array Value := #[.int .i64 c.k, .int .i64 c.lba, .int .i64 c.n, .slice c.dp c.dl c.dc, .int .u64 c.key, .int .i64 c.ty, .bool c.kp]
def repC (st se : Int) (p : Option Addr) (l c : Nat) : Array Value := #[.int .i64 st, .int .i64 se, .slice p l c]
def cntC (c : Cmd) : Int := if c.k = 2 then c.n else (c.dl : Int)
def cdE (c : Cmd) (cap : Int) : Int := if c.k = 4 then 0 else if cntC c < 1 ∨ 8 < cntC c ∨ c.lba < 0 ∨ cap < cntC c ∨ cap - cntC c < c.lba then 2 else 0
/-- what the gate says: the reply, and whether that is all -/
def gateD (d : Dk) (cap init : Int) (c : Cmd) : (Int × Int) × Bool :=
  if init < 0 ∨ 16 ≤ init ∨ cdE c cap ≠ 0 then ((2, 5), true) else if c.k = 4 then ((0, 0), false) else ((3, 0), !mayD d init (decide (c.k = 3)))
theorem one_cmdC (c : Cmd) : ∀ v ∈ (cmdC c).toList, oneV v = true := by
  intro v hv
  simp only [cmdC, List.mem_cons, List.not_mem_nil, or_false] at hv
  rcases hv with rfl | rfl | rfl | rfl | rfl | rfl | rfl <;> rfl
theorem one_repC (st se : Int) (p : Option Addr) (l c : Nat) : ∀ v ∈ (repC st se p l c).toList, oneV v = true := by
  intro v hv
  simp only [repC, List.mem_cons, List.not_mem_nil, or_false] at hv
  rcases hv with rfl | rfl | rfl <;> rfl
theorem zc_rep : zc Tryz.prog 34 = repC 0 0 none 0 0 := by kernel_rfl
theorem bld_rep0 (w : World) : (Instr.build 34 #[]).run Tryz.prog w = .ok (.agg (repC 0 0 none 0 0)) w := run_build _ _ _ _ (by kernel_rfl)
theorem bld_rep1 (x : Int) (w : World) : (Instr.build 34 #[(0, .int .i64 x)]).run Tryz.prog w = .ok (.agg (repC x 0 none 0 0)) w := run_build _ _ _ _ (by kernel_rfl)
theorem bld_rep2 (x y : Int) (w : World) : (Instr.build 34 #[(0, .int .i64 x), (1, .int .i64 y)]).run Tryz.prog w = .ok (.agg (repC x y none 0 0)) w := run_build _ _ _ _ (by kernel_rfl)
section calls
variable {w : World} {R : Value → World → Prop}
theorem cd_Check {c : Cmd} (hk : c.k = 2 ∨ c.k = 3 ∨ c.k = 4) {cap : Int} (hc0 : 0 ≤ cap) (hc1 : cap ≤ 1000000) (hK : ∀ w', Keep (fun _ => False) w w' → R (.int .i64 (cdE c cap)) w') : CallV Tryz.prog 147 #[.agg (cmdC c), .int .i64 cap] w R := by
  apply C_cdb_Check
  unfold F_cdb_Check
  refine alc_fresh fun w1 hb1 k1 z1 => ?_
  refine LdV_has (v := .int .i64 c.k) hb1 rfl (OpI_int.2 ?_)
  have hd : ∀ a b : Int, (a == b) = decide (a = b) := fun a b => by rw [Bool.eq_iff_iff]; simp
  have n1 : (c.k == 1) = false := by rw [hd]; exact decide_eq_false (by omega)
  have n7 : (c.k == 7) = false := by rw [hd]; exact decide_eq_false (by omega)
  have n8 : (c.k == 8) = false := by rw [hd]; exact decide_eq_false (by omega)
  have n9 : (c.k == 9) = false := by rw [hd]; exact decide_eq_false (by omega)
  have n10 : (c.k == 10) = false := by rw [hd]; exact decide_eq_false (by omega)
  have n11 : (c.k == 11) = false := by rw [hd]; exact decide_eq_false (by omega)
  have n6 : (c.k == 6) = false := by rw [hd]; exact decide_eq_false (by omega)
  simp only [n1, n7, n8, n9, n10, n11, n6]
  unfold cdE at hK
  refine ⟨fun st w' => w' = w1 ∧ st.1 = cntC c ∧ ¬ c.k = 4, ?_, ?_⟩
  · refine ⟨fun st w' => w' = w1 ∧ st.1 = decide (c.k = 4), ?_, ?_⟩
    · refine (Cb_false (p := _)).2 (Cb_of (fun h => ⟨rfl, by rw [← hd]⟩) (fun h => ?_))
      exact (Cb_false (p := _)).2 ((Cb_false (p := _)).2 ⟨rfl, by rw [← hd]; exact h.symm⟩)
    rintro _ ⟨b, u⟩ w2 ⟨rfl, hb⟩
    simp only at hb ⊢
    subst hb
    refine Cb_of (fun h4 => ?_) (fun h4 => ?_)
    · have h4 : c.k = 4 := by simpa using h4
      rw [if_pos h4] at hK
      exact Ret_nil.2 (hK w2 k1)
    have h4 : ¬ c.k = 4 := by simpa using h4
    refine (Cb_false (p := _)).2 ((Cb_false (p := _)).2 ⟨fun st w' => w' = w2 ∧ st.1 = decide (c.k = 2), ?_, ?_⟩)
    · exact Cb_of (fun h => ⟨rfl, by rw [← hd]⟩) (fun h => ⟨rfl, by rw [← hd]; exact h.symm⟩)
    rintro _ ⟨b, u⟩ w3 ⟨rfl, hb⟩
    simp only at hb ⊢
    subst hb
    refine Cb_of (fun h2 => ?_) (fun h2 => ?_)
    · have h2 : c.k = 2 := by simpa using h2
      exact LdV_has (v := .int .i64 c.n) hb1 rfl (OpI_int.2 ⟨by trivial, by unfold cntC; rw [if_pos h2], h4⟩)
    · have h2 : ¬ c.k = 2 := by simpa using h2
      have e3 : (c.k == 3) = true := by rw [hd]; exact decide_eq_true (by omega)
      rw [e3]
      exact (Cb_true (q := _)).2 (LdV_has (v := .slice c.dp c.dl c.dc) hb1 rfl (OpS_slice.2 ⟨by trivial, by unfold cntC; rw [if_neg h2], h4⟩))
  rintro _ ⟨n, u⟩ w2 ⟨rfl, hn, h4⟩
  simp only at hn ⊢
  subst hn
  rw [if_neg h4] at hK
  refine ⟨by trivial, by trivial, ?_⟩
  refine Cb_of (fun h => ⟨by trivial, by trivial, by trivial, ?_⟩) (fun h => ?_)
  · rw [if_pos (by
      by_cases hx : cntC c < 1
      · exact Or.inl hx
      · rw [decide_eq_false hx] at h
        exact Or.inr (Or.inl (by simpa using h)))] at hK
    exact Ret_nil.2 (hK w2 k1)
  have h1 : ¬ cntC c < 1 := fun hx => by rw [decide_eq_true hx] at h; cases h
  have h2 : ¬ 8 < cntC c := fun hx => by rw [decide_eq_false h1] at h; simp at h; omega
  refine LdV_has (v := .int .i64 c.lba) hb1 rfl (OpI_int.2 ⟨by trivial, by trivial, by trivial, ?_⟩)
  refine Cb_of (fun h => ?_) (fun h => ?_)
  · rw [if_pos (by
      by_cases hx : c.lba < 0
      · exact Or.inr (Or.inr (Or.inl hx))
      · rw [decide_eq_false hx] at h
        exact Or.inr (Or.inr (Or.inr (Or.inl (by simpa using h)))))] at hK
    exact Ret_nil.2 (hK w2 k1)
  have h3 : ¬ c.lba < 0 := fun hx => by rw [decide_eq_true hx] at h; cases h
  have h5 : ¬ cap < cntC c := fun hx => by rw [decide_eq_false h3] at h; simp at h; omega
  refine LdV_has (v := .int .i64 c.lba) hb1 rfl (OpI_int.2 ?_)
  rw [wrapI (by omega) (by omega)]
  refine Cb_of (fun h => ?_) (fun h => ?_)
  · have h : c.lba > cap - cntC c := by simpa using h
    rw [if_pos (by omega)] at hK
    exact Ret_nil.2 (hK w2 k1)
  · have h : ¬ c.lba > cap - cntC c := by simpa using h
    rw [if_neg (by omega)] at hK
    exact Ret_nil.2 (hK w2 k1)
theorem md_Gate {b : Nat} {d : Dk} (hd : DkAt w b d) {c : Cmd} (hk : c.k = 2 ∨ c.k = 3 ∨ c.k = 4) {cap init : Int} (hc0 : 0 ≤ cap) (hc1 : cap ≤ 1000000)
    (hK : ∀ w', Keep (fun _ => False) w w' → R (.tuple #[.agg (repC (gateD d cap init c).1.1 (gateD d cap init c).1.2 none 0 0), .bool (gateD d cap init c).2]) w') :
    CallV Tryz.prog 80 #[.pointer (some ⟨b, 0, none⟩), .int .i64 cap, .int .i64 init, .agg (cmdC c)] w R := by
  apply C_model_Gate
  unfold F_model_Gate
  unfold gateD at hK
  refine alc_fresh fun w1 hb1 k1 z1 => ?_
  refine alc_fresh fun w2 hb2 k2 z2 => ?_
  rw [zc_rep] at hb2
  have k02 := k1.trans k2
  have hbc := k2.has hb1 (by simp)
  have fin : ∀ {x y : Int} {w3 : World} {g : Bool} {K : Value → World → Prop}, Keep (fun _ => False) w2 w3 → (∀ w', Keep (fun _ => False) w w' → K (.tuple #[.agg (repC x y none 0 0), .bool g]) w') → StA 3 w1.heap.size 0 (repC x y none 0 0) w3 fun w => LdA 3 w1.heap.size 0 (At w) fun cs => Ret [] (K (.tuple #[.agg cs, .bool g]) w) := fun k hh => by
    have hb := k.has hb2 (by simp)
    refine StA_all hb rfl rfl (one_repC _ _ _ _ _) (LdA_all (hb.upd_same _) rfl (Ret_nil.2 (hh _ ((k02.trans k).upd (fun hi => absurd hi (by have := k1.size; omega)) _))))
  refine ⟨rfl, rfl, ?_⟩
  refine Cb_of (fun h => ?_) (fun h => ?_)
  · rw [if_pos (by
      by_cases hx : init < 0
      · exact Or.inl hx
      · rw [decide_eq_false hx] at h
        exact Or.inr (Or.inl (by simpa using h)))] at hK
    exact DoQ_of (fun _ => bld_rep2 2 5 _) (OpA_agg.2 ⟨rfl, fin (Keep.refl _ _) hK⟩)
  have h1 : ¬ init < 0 := fun hx => by rw [decide_eq_true hx] at h; cases h
  have h2 : ¬ 16 ≤ init := fun hx => by rw [decide_eq_false h1] at h; simp at h; omega
  refine LdA_all hbc rfl ?_
  refine cd_Check hk hc0 hc1 fun w3 k3 => OpI_int.2 ?_
  refine Cb_of (fun h => ?_) (fun h => ?_)
  · have h : ¬ cdE c cap = 0 := by simpa using h
    rw [if_pos (Or.inr (Or.inr h))] at hK
    exact DoQ_of (fun _ => bld_rep2 2 5 _) (OpA_agg.2 ⟨rfl, fin k3 hK⟩)
  have h3 : cdE c cap = 0 := by simpa using h
  rw [if_neg (by rintro (h | h | h) <;> contradiction)] at hK
  have hd3 : DkAt w3 b d := (k02.trans k3).has (show Has w _ _ from hd) (by simp)
  refine LdV_has (v := .int .i64 c.k) (k3.has hbc (by simp)) rfl (OpI_int.2 ?_)
  have hdd : ∀ a b : Int, (a == b) = decide (a = b) := fun a b => by rw [Bool.eq_iff_iff]; simp
  have n5 : (c.k == 5) = false := by rw [hdd]; exact decide_eq_false (by omega)
  have n6 : (c.k == 6) = false := by rw [hdd]; exact decide_eq_false (by omega)
  have n7 : (c.k == 7) = false := by rw [hdd]; exact decide_eq_false (by omega)
  have n8 : (c.k == 8) = false := by rw [hdd]; exact decide_eq_false (by omega)
  have n9 : (c.k == 9) = false := by rw [hdd]; exact decide_eq_false (by omega)
  have n10 : (c.k == 10) = false := by rw [hdd]; exact decide_eq_false (by omega)
  have n11 : (c.k == 11) = false := by rw [hdd]; exact decide_eq_false (by omega)
  simp only [n5, n6, n7, n8, n9, n10, n11]
  refine ⟨fun _ _ => False, ?_, fun _ _ _ h => h.elim⟩
  refine Cb_of (fun h => ?_) (fun h => ?_)
  · have h : c.k = 2 := by simpa using h
    rw [if_neg (by omega), decide_eq_false (by omega)] at hK
    exact DoQ_of (fun _ => bld_rep1 3 _) (OpA_agg.2 ⟨rfl, rs_May hd3 init false (OpB_bool.2 (fin k3 hK))⟩)
  have h : ¬ c.k = 2 := by simpa using h
  refine ⟨fun st w' => st.1 = decide (c.k = 3) ∧ w' = w3, ?_, ?_⟩
  · exact Cb_of (fun h => ⟨by rw [← hdd], rfl⟩) (fun h => (Cb_false (p := _)).2 ⟨by rw [← hdd]; exact h.symm, rfl⟩)
  rintro _ ⟨g, u⟩ w4 ⟨hg, rfl⟩
  simp only at hg ⊢
  subst hg
  refine Cb_of (fun h => ?_) (fun h => ?_)
  · have h : c.k = 3 := by simpa using h
    rw [if_neg (by omega), decide_eq_true h] at hK
    exact DoQ_of (fun _ => bld_rep1 3 _) (OpA_agg.2 ⟨rfl, rs_May hd3 init true (OpB_bool.2 (fin k3 hK))⟩)
  · have h : ¬ c.k = 3 := by simpa using h
    rw [if_pos (by omega)] at hK
    exact (Cb_false (p := _)).2 ((Cb_false (p := _)).2 ((Cb_false (p := _)).2 ((Cb_false (p := _)).2 ((Cb_false (p := _)).2 (DoQ_of (fun _ => bld_rep0 _) (OpA_agg.2 ⟨rfl, fin k3 hK⟩))))))
end calls

/-! ### Do -/
def DoBody (a : Nat) (side : Int) (b b1 : Nat) (w : World) (R : Value → World → Prop) : Prop :=
  DoQ Tryz.prog (Instr.build 34 #[(0, .int .i64 1)]) (At w) fun v21 => OpA 3 v21 fun cs14 => Alc 34 (zc Tryz.prog 34) w fun b7 w => StA 3 b7 0 cs14 w fun w => LdV b 0 (At w) fun v22 => OpI .i64 v22 fun n3 => JoinC (σ := Unit) (fun J2 => Cb (n3 == 2) (LdV b 2 (At w) fun v23 => OpI .i64 v23 fun n4 => LoopC (σ := Int × Unit) (fun _ s3 w K3 => Cb (decide (s3.1 < n4)) (LdV b 1 (At w) fun v24 => OpI .i64 v24 fun n5 => CallV Tryz.prog 81 #[.pointer (some ⟨a, 0, none⟩), .int .i64 (IntKind.wrap .i64 (n5 + s3.1))] w fun v25 w => T2 v25 fun v26 v27 => OpA 16 v26 fun cs15 => OpI .i64 v27 fun n6 => Alc 37 (zc Tryz.prog 37) w fun b8 w => StA 16 b8 0 cs15 w fun w => Cb (n6 != 0) (CallV Tryz.prog 77 #[.pointer (some ⟨a, 0, none⟩), .int .i64 3] w fun v28 w => OpA 3 v28 fun cs16 => StA 3 b1 0 cs16 w fun w => CallDV Tryz.prog 76 #[.pointer (some ⟨a, 0, none⟩)] w fun w => LdA 3 b1 0 (At w) fun cs17 => R (.agg cs17) w) (LdV b7 2 (At w) fun v29 => OpS v29 fun p l c1 => LdA 16 b8 0 (At w) fun cs18 => DoV Tryz.prog (Instr.buildSlice 32 1 #[(0, .agg cs18)]) w fun v30 w => OpS v30 fun p1 l1 c2 => DoV Tryz.prog (Builtin.append_ #[32, 32] 32 #[.slice p l c1, .slice p1 l1 c2]) w fun v31 w => OpS v31 fun p2 l2 c3 => StV b7 2 (.slice p2 l2 c3) w fun w => K3 (IntKind.wrap .i64 (s3.1 + 1), ()) w)) (J2 () w)) (0, ()) w) (JoinC (σ := Bool × Unit) (fun J4 => Cb (n3 == 3) (J4 (n3 == 3, ()) w) (J4 (n3 == 6, ()) w)) (fun _ s4 w => Cb s4.1 (LdV b 3 (At w) fun v32 => OpS v32 fun p3 l3 c4 => LdV b 0 (At w) fun v33 => OpI .i64 v33 fun n7 => JoinC (σ := (Option Addr × Nat × Nat) × Unit) (fun J5 => Cb (n7 == 6) (LdV b 2 (At w) fun v34 => OpI .i64 v34 fun n8 => DoV Tryz.prog (Instr.makeSlice 32 (.int .i64 n8) (.int .i64 n8)) w fun v35 w => OpS v35 fun p4 l4 c5 => J5 ((p4, l4, c5), ()) w) (J5 ((p3, l3, c4), ()) w)) (fun _ s5 w => LoopC (σ := Int × Unit) (fun _ s6 w K6 => Cb (decide (s6.1 < ((s5.1.2.1 : Nat) : Int))) (IdxS s5.1.1 s5.1.2.1 s6.1 16 fun b9 o2 => LdA 16 b9 o2 (At w) fun cs19 => Alc 37 (zc Tryz.prog 37) w fun b10 w => StA 16 b10 0 cs19 w fun w => LdV b 1 (At w) fun v36 => OpI .i64 v36 fun n9 => LdA 16 b10 0 (At w) fun cs20 => CallV Tryz.prog 82 #[.pointer (some ⟨a, 0, none⟩), .int .i64 side, .int .i64 (IntKind.wrap .i64 (n9 + s6.1)), .agg cs20] w fun v37 w => OpI .i64 v37 fun n10 => Cb (n10 != 0) (CallV Tryz.prog 77 #[.pointer (some ⟨a, 0, none⟩), .int .i64 13] w fun v38 w => OpA 3 v38 fun cs21 => StA 3 b1 0 cs21 w fun w => CallDV Tryz.prog 76 #[.pointer (some ⟨a, 0, none⟩)] w fun w => LdA 3 b1 0 (At w) fun cs22 => R (.agg cs22) w) (K6 (IntKind.wrap .i64 (s6.1 + 1), ()) w)) (J2 () w)) (0, ()) w)) (Cb (n3 == 5) (LdV b 1 (At w) fun v39 => OpI .i64 v39 fun n11 => CallV Tryz.prog 81 #[.pointer (some ⟨a, 0, none⟩), .int .i64 n11] w fun v40 w => T2 v40 fun v41 v42 => OpA 16 v41 fun cs23 => OpI .i64 v42 fun n12 => Alc 37 (zc Tryz.prog 37) w fun b11 w => StA 16 b11 0 cs23 w fun w => JoinC (σ := Unit) (fun J7 => Cb (n12 != 0) (CallV Tryz.prog 77 #[.pointer (some ⟨a, 0, none⟩), .int .i64 3] w fun v43 w => OpA 3 v43 fun cs24 => StA 3 b1 0 cs24 w fun w => CallDV Tryz.prog 76 #[.pointer (some ⟨a, 0, none⟩)] w fun w => LdA 3 b1 0 (At w) fun cs25 => R (.agg cs25) w) (LdA 16 b11 0 (At w) fun cs26 => LdV b 3 (At w) fun v44 => OpS v44 fun p5 l5 c6 => IdxS p5 l5 0 16 fun b12 o3 => LdA 16 b12 o3 (At w) fun cs27 => EqB Tryz.prog .neq 37 (.tmp 155) (.tmp 159) (.agg cs26 : Value) (.agg cs27 : Value) (At w) fun g5 => Drw w fun w => Cb g5 (CallV Tryz.prog 77 #[.pointer (some ⟨a, 0, none⟩), .int .i64 14] w fun v45 w => OpA 3 v45 fun cs28 => StA 3 b1 0 cs28 w fun w => CallDV Tryz.prog 76 #[.pointer (some ⟨a, 0, none⟩)] w fun w => LdA 3 b1 0 (At w) fun cs29 => R (.agg cs29) w) (J7 () w))) (fun _ s7 w => HeldR w fun S w => LdV b 1 (At w) fun v46 => OpI .i64 v46 fun n13 => LdV b 3 S fun v47 => OpS v47 fun p6 l6 c7 => IdxS p6 l6 1 16 fun b13 o4 => LdA 16 b13 o4 (At w) fun cs30 => CallV Tryz.prog 82 #[.pointer (some ⟨a, 0, none⟩), .int .i64 side, .int .i64 n13, .agg cs30] w fun v48 w => OpI .i64 v48 fun n14 => Hld (S w) (Cb (n14 != 0) (CallV Tryz.prog 77 #[.pointer (some ⟨a, 0, none⟩), .int .i64 13] w fun v49 w => OpA 3 v49 fun cs31 => StA 3 b1 0 cs31 w fun w => CallDV Tryz.prog 76 #[.pointer (some ⟨a, 0, none⟩)] w fun w => LdA 3 b1 0 (At w) fun cs32 => R (.agg cs32) w) (J2 () w)))) (Cb (n3 == 4) (LoopC (σ := Unit) (fun _ s8 w K8 => LdV a 9 (At w) fun v50 => OpN v50 fun b14 o5 => LdV b14 o5 (At w) fun v51 => OpN v51 fun b15 o6 => CallV Tryz.prog 83 #[.pointer (some ⟨b15, o6, none⟩)] w fun v52 w => OpI .i64 v52 fun n15 => Cb (decide (n15 > 0)) (CallV Tryz.prog 84 #[.pointer (some ⟨a, 0, none⟩), .int .i64 side] w fun v53 w => OpI .i64 v53 fun n16 => Cb (n16 != 0) (CallV Tryz.prog 77 #[.pointer (some ⟨a, 0, none⟩), .int .i64 3] w fun v54 w => OpA 3 v54 fun cs33 => StA 3 b1 0 cs33 w fun w => CallDV Tryz.prog 76 #[.pointer (some ⟨a, 0, none⟩)] w fun w => LdA 3 b1 0 (At w) fun cs34 => R (.agg cs34) w) (K8 () w)) (J2 () w)) () w) (J2 () w)))))) (fun _ s2 w => LdA 3 b7 0 (At w) fun cs35 => StA 3 b1 0 cs35 w fun w => CallDV Tryz.prog 76 #[.pointer (some ⟨a, 0, none⟩)] w fun w => LdA 3 b1 0 (At w) fun cs36 => R (.agg cs36) w)
/-- what a call may change -/
def ArF (q : AB) (w : World) (k : Nat) : Prop := k = q.a ∨ SFoot q.sb k ∨ PFoot q.pb w k
section plain
variable {w w1 w2 w' : World} {q : AB} {lk : Int} {s : AS}
theorem ArF.trans (h : Keep (ArF q w) w w1) (k : Keep (ArF q w1) w1 w2) : Keep (ArF q w) w w2 :=
  h.trans' k fun i hi hf => Classical.byContradiction fun hn => by
    rcases hf with e | e | e | e | e | e | e | ⟨hb, cs, hc⟩
    · exact hn (Or.inl e)
    · exact hn (Or.inr (Or.inl e))
    · exact hn (Or.inr (Or.inr (Or.inl e)))
    · exact hn (Or.inr (Or.inr (Or.inr (Or.inl e))))
    · exact hn (Or.inr (Or.inr (Or.inr (Or.inr (Or.inl e)))))
    · exact hn (Or.inr (Or.inr (Or.inr (Or.inr (Or.inr (Or.inl e))))))
    · exact hn (Or.inr (Or.inr (Or.inr (Or.inr (Or.inr (Or.inr (Or.inl e)))))))
    · exact hn (Or.inr (Or.inr (Or.inr (Or.inr (Or.inr (Or.inr (Or.inr ⟨hb, cs, (h.block i hi hn).symm.trans hc⟩)))))))
theorem ArF.none (h : Keep (fun _ => False) w w') : Keep (ArF q w) w w' := h.mono fun _ h => h.elim
theorem ArF.not (h : ArAt w q lk s) {k : Nat} {cs : Array Value} {t : TypeId} {f : Nat × Nat} (hk : Has w k (.cells cs t f)) (h1 : t ≠ 5) (h2 : t ≠ 209) (h3 : t ≠ 214) (h4 : t ≠ 220) (h5 : t ≠ 260) (h6 : t ≠ 153) (h7 : t ≠ 143) : ¬ ArF q w k := by
  rintro (e | e | e)
  · subst e
    have := hk.inj h.cells
    simp only [Obj.cells.injEq] at this
    exact h7 this.2.1
  · exact h.set.typ hk h2 h4 h5 e
  · exact PFoot.not hk h1 h.pair h6 h2 h3 e
theorem ArF.low {n : Nat} (h : ArFrom q n) {k : Nat} (hk : ArF q w k) : n ≤ k := by
  rcases hk with e | e | e | e | e | e | e | ⟨hb, _⟩
  · have := h.a; omega
  · rcases e with e | e | e
    · have := h.m; have e : k = q.pb.m := e; omega
    · obtain ⟨br, hb, rfl⟩ := List.mem_map.1 e; exact (h.disks br hb).1
    · obtain ⟨br, hb, rfl⟩ := List.mem_map.1 e; exact (h.disks br hb).2
  · have := h.p; omega
  · have := h.mp; omega
  · have := h.m; omega
  · have := h.ra; omega
  · have := h.rb; omega
  · have := h.base; omega
/-- a block of another kind -/
theorem ArAt.keepT (h : ArAt w q lk s) {x : Nat} {cs : Array Value} {t : TypeId} {f : Nat × Nat} (hx : Has w x (.cells cs t f)) (h1 : t ≠ 5) (h2 : t ≠ 209) (h3 : t ≠ 214) (h4 : t ≠ 220) (h5 : t ≠ 260) (h6 : t ≠ 153) (h7 : t ≠ 143)
    (h8 : t ≠ 244) (h9 : t ≠ 229) (h10 : t ≠ 3) (h11 : t ≠ 111) (k : Keep (fun k => k = x) w w') : ArAt w' q lk s := by
  have ne : ∀ {i : Nat} {cs' : Array Value} {t' : TypeId} {f' : Nat × Nat}, Has w i (.cells cs' t' f') → t ≠ t' → ¬ i = x := by
    intro i cs' t' f' hi ht e
    subst e
    have := hx.inj hi
    simp only [Obj.cells.injEq] at this
    exact ht this.2.1
  refine ⟨k.has h.cells (ne h.cells h7), h.set.keep k fun i hi e => h.set.typ hx h2 h4 h5 (e ▸ hi), h.disks.keep k (fun b hb => ?_), h.pair.keepS k (fun i hi e => PFoot.not hx h1 h.pair h6 h2 h3 (e ▸ hi)) (ne h.pair.cache.1 h8), k.has (show Has w _ _ from h.desk) (ne h.desk h9), h.marks.keep k (fun b hb => ?_)⟩
  · obtain ⟨_, cur, hh⟩ := own_has h.disks b 0 hb
    exact ne hh h11
  · obtain ⟨_, cur, hh⟩ := own_has h.marks b 0 hb
    exact ne hh h10
/-- what stands while a command is done -/
structure DoSt (w0 w : World) (q : AB) (s : AS) (b b1 : Nat) (c : Cmd) : Prop where
  ar : ArAt w q 1 s
  cmd : Has w b (.cells (cmdC c) 41 (0, 0))
  rep : Has w b1 (.cells (repC 0 0 none 0 0) 34 (0, 0))
  keep : Keep (ArF q w0) w0 w
  hb : w0.heap.size ≤ b
  hb1 : w0.heap.size ≤ b1
theorem DoSt.keep0 {w0 : World} {b b1 : Nat} {c : Cmd} (h : DoSt w0 w q s b b1 c) (k : Keep (fun _ => False) w w') : DoSt w0 w' q s b b1 c :=
  ⟨h.ar.keep0 k, k.has h.cmd (by simp), k.has h.rep (by simp), ArF.trans h.keep (ArF.none k), h.hb, h.hb1⟩
theorem DoSt.to {w0 : World} {b b1 : Nat} {c : Cmd} {s' : AS} (h : DoSt w0 w q s b b1 c) (ha : ArAt w' q 1 s') (k : Keep (ArF q w) w w') : DoSt w0 w' q s' b b1 c :=
  ⟨ha, k.has h.cmd (ArF.not h.ar h.cmd (by decide) (by decide) (by decide) (by decide) (by decide) (by decide) (by decide)), k.has h.rep (ArF.not h.ar h.rep (by decide) (by decide) (by decide) (by decide) (by decide) (by decide) (by decide)), ArF.trans h.keep k, h.hb, h.hb1⟩
/-- a block of the call's own changes -/
theorem DoSt.tmp {w0 : World} {b b1 : Nat} {c : Cmd} (h : DoSt w0 w q s b b1 c) {x : Nat} {cs : Array Value} {t : TypeId} {f : Nat × Nat} (hx : Has w x (.cells cs t f)) (ht : t = 37 ∨ t = 34) (hx0 : w0.heap.size ≤ x) (hx1 : x ≠ b1) (k : Keep (fun k => k = x) w w') : DoSt w0 w' q s b b1 c := by
  refine ⟨?_, k.has h.cmd fun e => ?_, k.has h.rep (fun e => hx1 e.symm), h.keep.trans' k fun i hi e => by omega, h.hb, h.hb1⟩
  · rcases ht with rfl | rfl
    · exact h.ar.keepT hx (by decide) (by decide) (by decide) (by decide) (by decide) (by decide) (by decide) (by decide) (by decide) (by decide) (by decide) k
    · exact h.ar.keepT hx (by decide) (by decide) (by decide) (by decide) (by decide) (by decide) (by decide) (by decide) (by decide) (by decide) (by decide) k
  · subst e
    have := hx.inj h.cmd
    simp only [Obj.cells.injEq] at this
    rcases ht with rfl | rfl
    · exact absurd this.2.1 (by decide)
    · exact absurd this.2.1 (by decide)
end plain
section calls
variable {w w0 : World} {q : AB} {s : AS} {b b1 : Nat} {c : Cmd} {R : Value → World → Prop}
theorem doEnd (h : DoSt w0 w q s b b1 c) {cs : Array Value} (hs : cs.size = 3) (h1 : ∀ v ∈ cs.toList, oneV v = true) (hK : ∀ w', ArAt w' q 0 s → Keep (ArF q w0) w0 w' → Keep (fun k => k = b1 ∨ k = q.a) w w' → R (.agg cs) w') :
    StA 3 b1 0 cs w fun w => CallDV Tryz.prog 76 #[.pointer (some ⟨q.a, 0, none⟩)] w fun w => LdA 3 b1 0 (At w) fun cs36 => R (.agg cs36) w := by
  have k1 : Keep (fun k => k = b1) w (w.upd b1 (.cells cs 34 (0, 0))) := Keep.one _ _ _
  have ha := h.ar.keepT h.rep (by decide) (by decide) (by decide) (by decide) (by decide) (by decide) (by decide) (by decide) (by decide) (by decide) (by decide) k1
  have hr := h.rep.upd_same (.cells cs 34 (0, 0))
  refine StA_all h.rep hs rfl h1 ?_
  have kk : Keep (ArF q w0) w0 (w.upd b1 (.cells cs 34 (0, 0))) := h.keep.trans' k1 fun i hi e => by have := h.hb1; omega
  generalize w.upd b1 _ = w1 at *
  refine ar_unlock ha fun w2 h2 k2 => ?_
  have hne : ¬ b1 = q.a := fun e => by
    subst e
    have := hr.inj ha.cells
    simp only [Obj.cells.injEq] at this
    exact absurd this.2.1 (by decide)
  refine LdA_all (k2.has hr hne) hs (hK w2 h2 (kk.trans' k2 fun i hi e => Or.inl e) ?_)
  exact (k1.mono fun i e => Or.inl e).trans (k2.mono fun i e => Or.inr e)
theorem ar_check (h : ArAt w q 1 s) (sense : Int) (hK : ∀ w', Keep (fun _ => False) w w' → R (.agg (if s.ps.pw.on = true then repC 2 sense none 0 0 else repC 0 0 none 0 0)) w') : CallV Tryz.prog 77 #[.pointer (some ⟨q.a, 0, none⟩), .int .i64 sense] w R := by
  apply C_array_Array_check
  unfold F_array_Array_check
  refine alc_fresh fun w1 hb1 k1 z1 => ?_
  rw [zc_rep] at hb1
  refine ar_on (h.keep0 k1) (ma_On (h.keep0 k1).pair.main (OpB_bool.2 ?_))
  refine Cb_of (fun hn => ?_) (fun hn => ?_)
  · have hn : s.ps.pw.on = false := by simpa using hn
    rw [if_neg (by rw [hn]; decide)] at hK
    refine DoQ_of (fun _ => bld_rep0 _) (OpA_agg.2 ⟨rfl, ?_⟩)
    exact StA_all hb1 rfl rfl (one_repC _ _ _ _ _) (LdA_all (hb1.upd_same _) rfl (Ret_nil.2 (hK _ (k1.upd (fun hi => absurd hi (by omega)) _))))
  · have hn : s.ps.pw.on = true := by simpa using hn
    rw [if_pos hn] at hK
    refine DoQ_of (fun _ => bld_rep2 2 sense _) (OpA_agg.2 ⟨rfl, ?_⟩)
    exact StA_all hb1 rfl rfl (one_repC _ _ _ _ _) (LdA_all (hb1.upd_same _) rfl (Ret_nil.2 (hK _ (k1.upd (fun hi => absurd hi (by omega)) _))))
/-- how a command that the array can do begins -/
theorem ar_DoOpen (h : ArAt w q 0 s) (f : Bool) {init : Int} (hk : c.k = 2 ∨ c.k = 3 ∨ c.k = 4) (hr : readyA s f = true) (ha : upA s (!f) = false ∨ (livesA s (!f) = true ∧ s.split = false))
    (hK1 : (gateD s.d ((q.g.d - 2) * q.g.c * q.g.s) init c).2 = true → ∀ w', ArAt w' q 0 s → Keep (ArF q w) w w' → R (.agg (repC (gateD s.d ((q.g.d - 2) * q.g.c * q.g.s) init c).1.1 (gateD s.d ((q.g.d - 2) * q.g.c * q.g.s) init c).1.2 none 0 0)) w')
    (hK2 : (gateD s.d ((q.g.d - 2) * q.g.c * q.g.s) init c).2 = false → ∀ b b1 w', DoSt w w' q s b b1 c → DoBody q.a (sideN f) b b1 w' R) :
    CallV Tryz.prog 16 #[.pointer (some ⟨q.a, 0, none⟩), .int .i64 (sideN f), .int .i64 init, .agg (cmdC c)] w R := by
  apply C_array_Array_Do
  unfold F_array_Array_Do
  have hcap : 2 ≤ (q.g.d - 2) * q.g.c * q.g.s ∧ (q.g.d - 2) * q.g.c * q.g.s ≤ 15360 := h.set.geo.cap
  have hon : s.ps.pw.on = true := by unfold readyA at hr; cases he : s.ps.pw.on with
    | true => rfl
    | false => rw [he] at hr; cases hr
  refine alc_fresh fun w1 hb1 k1 z1 => ?_
  refine alc_fresh fun w2 hb2 k2 z2 => ?_
  rw [zc_rep] at hb2
  have hb1' := k2.has hb1 (by simp)
  refine ar_lock (h.keep0 (k1.trans k2)) fun w3 h3 k3 => ?_
  have tne : ∀ {i : Nat} {cs : Array Value} {t : TypeId}, Has w2 i (.cells cs t (0, 0)) → t ≠ 143 → ¬ i = q.a := by
    intro i cs t hi ht e
    subst e
    have := hi.inj (h.keep0 (k1.trans k2)).cells
    simp only [Obj.cells.injEq] at this
    exact ht this.2.1
  have hS : DoSt w w3 q s w.heap.size w1.heap.size c := ⟨h3, k3.has hb1' (tne hb1' (by decide)), k3.has hb2 (tne hb2 (by decide)), (ArF.none (k1.trans k2)).trans' k3 fun i hi e => Or.inl e, Nat.le_refl _, by omega⟩
  clear hb1 hb2 k1 k2 k3 hb1' h3 tne
  refine ar_on hS.ar (ma_On hS.ar.pair.main (OpB_bool.2 ?_))
  rw [hon]
  refine (Cb_false (p := _)).2 ⟨rfl, rfl, ?_⟩
  have e : (cond (decide (sideN f < 0)) true (decide (sideN f > 1))) = false := by cases f <;> rfl
  rw [e]
  refine (Cb_false (p := _)).2 ?_
  refine ar_ready hS.ar f fun w4 k4 => OpB_bool.2 ?_
  rw [hr]
  refine (Cb_false (p := _)).2 ?_
  have hS := hS.keep0 k4
  clear k4
  refine ar_alone0 hS.ar f ha (OpI_int.2 ((Cb_false (p := _)).2 ?_))
  generalize hG : gateD s.d ((q.g.d - 2) * q.g.c * q.g.s) init c = G at hK1 hK2
  refine ⟨fun st w' => st.1.2 = 0 ∧ st.2.1 = G.2 ∧ Has w' st.1.1 (.cells (repC G.1.1 G.1.2 none 0 0) 34 (0, 0)) ∧ DoSt w w' q s w.heap.size w1.heap.size c ∧ w1.heap.size ≠ st.1.1, ?_, ?_⟩
  · intro d
    have hS := hS.keep0 (Keep.drew _ w4 d)
    generalize w4.dr d = w5 at *
    have hlt := hS.rep.lt
    have kz : ∀ {w7 : World}, Keep (fun _ => False) w5 w7 → w1.heap.size ≠ w7.heap.size := fun k => by have := k.size; omega
    refine ⟨fun w' => Has w' q.a (.cells (arC q 1 s) 143 (0, 0)) ∧ Has w' w.heap.size (.cells (cmdC c) 41 (0, 0)), ⟨hS.ar.cells, hS.cmd⟩, ?_⟩
    refine LdV_of (v := .pointer (some ⟨q.dk, 0, none⟩)) (fun w' hw => ⟨_, _, _, hw.1, rfl⟩) (OpN_some.2 ?_)
    refine LdA_of (cs := cmdC c) rfl (fun w' hw => ⟨_, _, _, hw.2, Nat.le_refl 7, rfl⟩) ?_
    have hold : ∀ {w7 : World}, Keep (fun _ => False) w5 w7 → Has w7 q.a (.cells (arC q 1 s) 143 (0, 0)) ∧ Has w7 w.heap.size (.cells (cmdC c) 41 (0, 0)) := fun k => ⟨k.has hS.ar.cells (by simp), k.has hS.cmd (by simp)⟩
    have fin : ∀ {w8 w9 : World} {x : Nat}, DoSt w w8 q s w.heap.size w1.heap.size c → Has w8 x (.cells (repC 0 0 none 0 0) 34 (0, 0)) → w.heap.size ≤ x → w1.heap.size ≠ x →
        StA 3 x 0 (repC G.1.1 G.1.2 none 0 0) w8 fun w6 => Hld (Has w6 q.a (.cells (arC q 1 s) 143 (0, 0)) ∧ Has w6 w.heap.size (.cells (cmdC c) 41 (0, 0))) (x = x ∧ (0 : Nat) = 0 ∧ G.2 = G.2 ∧ Has w6 x (.cells (repC G.1.1 G.1.2 none 0 0) 34 (0, 0)) ∧ DoSt w w6 q s w.heap.size w1.heap.size c ∧ w1.heap.size ≠ x) := fun h8 hx hx0 hx1 => by
      have h9 := h8.tmp hx (Or.inr rfl) hx0 (fun e => hx1 e.symm) (Keep.one _ _ (.cells (repC G.1.1 G.1.2 none 0 0) 34 (0, 0)))
      exact StA_all hx rfl rfl (one_repC _ _ _ _ _) ⟨⟨h9.ar.cells, h9.cmd⟩, rfl, rfl, rfl, hx.upd_same _, h9, hx1⟩
    refine ⟨?_, ?_⟩
    · refine ar_capacity hS.ar fun w6 k6 => OpI_int.2 ⟨hold k6, ?_, ?_⟩
      · refine md_Gate (hS.keep0 k6).ar.desk hk (by omega) (by omega) fun w7 k7 => T2_mk.2 (OpA_agg.2 ⟨rfl, OpB_bool.2 ⟨hold (k6.trans k7), ?_⟩⟩)
        rw [hG]
        refine alc_fresh fun w8 hb8 k8 z8 => ?_
        rw [zc_rep] at hb8
        have k58 := (k6.trans k7).trans k8
        refine ⟨hold k58, ?_⟩
        have := fin (w9 := w8) (hS.keep0 k58) hb8 (Nat.le_trans hS.keep.size (k6.trans k7).size) (kz (k6.trans k7))
        obtain ⟨s1, s2, s3, s4, s6⟩ := this
        exact ⟨s1, s2, s3, s4, s6.2⟩
      · refine alc_fresh fun w8 hb8 k8 z8 => ?_
        rw [zc_rep] at hb8
        refine ⟨hold (k6.trans k8), ?_⟩
        refine md_Gate (hS.keep0 (k6.trans k8)).ar.desk hk (by omega) (by omega) fun w7 k7 => T2_mk.2 (OpA_agg.2 ⟨rfl, OpB_bool.2 ⟨hold ((k6.trans k8).trans k7), ?_⟩⟩)
        rw [hG]
        have := fin (w9 := w7) (hS.keep0 ((k6.trans k8).trans k7)) (k7.has hb8 (by simp)) (Nat.le_trans hS.keep.size k6.size) (kz k6)
        obtain ⟨s1, s2, s3, s4, s6⟩ := this
        exact ⟨s1, s2, s3, s4, s6.2⟩
    · refine alc_fresh fun w8 hb8 k8 z8 => ?_
      rw [zc_rep] at hb8
      refine ⟨hold k8, ?_⟩
      refine ar_capacity (hS.keep0 k8).ar fun w6 k6 => OpI_int.2 ⟨hold (k8.trans k6), ?_⟩
      refine md_Gate (hS.keep0 (k8.trans k6)).ar.desk hk (by omega) (by omega) fun w7 k7 => T2_mk.2 (OpA_agg.2 ⟨rfl, OpB_bool.2 ⟨hold ((k8.trans k6).trans k7), ?_⟩⟩)
      rw [hG]
      have := fin (w9 := w7) (hS.keep0 ((k8.trans k6).trans k7)) ((k6.trans k7).has hb8 (by simp)) hS.keep.size (kz (Keep.refl _ _))
      obtain ⟨s1, s2, s3, s4, s6⟩ := this
      exact ⟨s1, s2, s3, s4, s6.2⟩
  rintro _ ⟨⟨x, o⟩, g, u⟩ w5 ⟨ho, hg, hx, hS5, hne⟩
  simp only at ho hg hx hne ⊢
  subst ho
  subst hg
  refine Cb_of (fun ht => ?_) (fun hf => hK2 hf _ _ w5 hS5)
  refine LdA_all hx rfl ?_
  exact doEnd hS5 rfl (one_repC _ _ _ _ _) fun w6 h6 k6 _ => hK1 ht w6 h6 k6
end calls
end Go.Proofs

/-
  THE ARRAY: a read, a write.
-/
namespace Go.Proofs
open Go Go.Ev
set_option linter.unusedSimpArgs false
set_option linter.unusedVariables false
set_option maxRecDepth 100000

theorem gate_ok {d : Dk} {cap init : Int} {c : Cmd} (hk : ¬ c.k = 4) (h : (gateD d cap init c).2 = false) : 1 ≤ cntC c ∧ cntC c ≤ 8 ∧ 0 ≤ c.lba ∧ c.lba + cntC c ≤ cap := by
  unfold gateD at h
  split at h
  · cases h
  · rename_i h1
    have h2 : cdE c cap = 0 := Classical.byContradiction fun e => h1 (Or.inr (Or.inr e))
    unfold cdE at h2
    rw [if_neg hk] at h2
    split at h2
    · cases h2
    · rename_i h3
      refine ⟨?_, ?_, ?_, ?_⟩ <;> omega
section calls
variable {w w0 : World} {q : AB} {s : AS} {b b1 : Nat} {c : Cmd} {R : Value → World → Prop}
theorem DoSt.grow (h : DoSt w0 w q s b b1 c) {w' : World} {p : Option Addr} {l cc : Nat} {xs : List Sec} (o : OwnL secLay w w0.heap.size 37 p l cc xs) (k : Keep (fun k => p = some ⟨k, 0, none⟩) w w') : DoSt w0 w' q s b b1 c := by
  cases p with
  | none => exact h.keep0 (k.mono fun i e => by cases e)
  | some a =>
    obtain ⟨b', cur, h0, hb', hg, _⟩ := (Own.cases o).resolve_left (by rintro ⟨e, _⟩; cases e)
    cases h0
    refine h.tmp hg (Or.inl rfl) hb' (fun e => ?_) (k.mono fun i e => by cases e; rfl)
    subst e
    have := hg.inj h.rep
    simp only [Obj.cells.injEq] at this
    exact absurd this.2.1 (by decide)
def readsA (q : AB) (s : AS) (lba : Int) (n : Nat) : List Sec := (List.range n).map fun (k : Nat) => (readA q s (lba + (k : Int))).1
theorem readsA_succ (q : AB) (s : AS) (lba : Int) (n : Nat) : readsA q s lba (n + 1) = readsA q s lba n ++ [(readA q s (lba + (n : Int))).1] := by
  unfold readsA; rw [List.range_succ, List.map_append]; rfl
theorem ar_DoRead (h : ArAt w q 0 s) (hok : ∀ D ∈ s.ds, DskOk D) (f : Bool) {init : Int} (hk : c.k = 2) (hr : readyA s f = true) (ha : upA s (!f) = false ∨ (livesA s (!f) = true ∧ s.split = false))
    (hg : (gateD s.d ((q.g.d - 2) * q.g.c * q.g.s) init c).2 = false) (hgood : ∀ k : Nat, (k : Int) < c.n → (readA q s (c.lba + (k : Int))).2 = 0)
    (hK : ∀ p cc w', ArAt w' q 0 s → Keep (ArF q w) w w' → OwnL secLay w' w.heap.size 37 p c.n.toNat cc (readsA q s c.lba c.n.toNat) → R (.agg (repC 1 0 p c.n.toNat cc)) w') :
    CallV Tryz.prog 16 #[.pointer (some ⟨q.a, 0, none⟩), .int .i64 (sideN f), .int .i64 init, .agg (cmdC c)] w R := by
  refine ar_DoOpen h f (Or.inl hk) hr ha (fun ht => by rw [hg] at ht; cases ht) fun _ b b1 w1 hS => ?_
  obtain ⟨g1, g2, g3, g4⟩ := gate_ok (by omega) hg
  have hn : cntC c = c.n := by unfold cntC; rw [if_pos hk]
  rw [hn] at g1 g2 g4
  clear hn
  have hcap : 2 ≤ (q.g.d - 2) * q.g.c * q.g.s ∧ (q.g.d - 2) * q.g.c * q.g.s ≤ 15360 := h.set.geo.cap
  unfold DoBody
  refine DoQ_of (fun _ => bld_rep1 1 _) (OpA_agg.2 ⟨rfl, ?_⟩)
  refine alc_fresh fun w2 hb2 k2 z2 => ?_
  rw [zc_rep] at hb2
  have hS2 := hS.keep0 k2
  have hne : w1.heap.size ≠ b1 := fun e => by have := hS.rep.lt; omega
  have hlo : w.heap.size ≤ w1.heap.size := hS.keep.size
  refine StA_all hb2 rfl rfl (one_repC _ _ _ _ _) ?_
  have hS3 := hS2.tmp hb2 (Or.inr rfl) hlo hne (Keep.one _ _ (.cells (repC 1 0 none 0 0) 34 (0, 0)))
  have hb3 := hb2.upd_same (.cells (repC 1 0 none 0 0) 34 (0, 0))
  clear hS2 hb2 k2
  generalize w2.upd w1.heap.size (.cells (repC 1 0 none 0 0) 34 (0, 0)) = w3 at *
  generalize w1.heap.size = b7 at *
  refine LdV_has (v := .int .i64 c.k) hS3.cmd rfl (OpI_int.2 ?_)
  rw [hk]
  refine ⟨fun _ w' => ∃ p cc, Has w' b7 (.cells (repC 1 0 p c.n.toNat cc) 34 (0, 0)) ∧ OwnL secLay w' w.heap.size 37 p c.n.toNat cc (readsA q s c.lba c.n.toNat) ∧ DoSt w w' q s b b1 c, ?_, ?_⟩
  · refine (Cb_true (q := _)).2 ?_
    refine LdV_has (v := .int .i64 c.n) hS3.cmd rfl (OpI_int.2 ?_)
    refine LoopC_of (σ := Int × Unit) (fun st w' => ∃ (k : Nat) (p : Option Addr) (cc : Nat), st.1 = (k : Int) ∧ (k : Int) ≤ c.n ∧ Has w' b7 (.cells (repC 1 0 p k cc) 34 (0, 0)) ∧ OwnL secLay w' w.heap.size 37 p k cc (readsA q s c.lba k) ∧ DoSt w w' q s b b1 c) (fun st _ => (c.n - st.1).toNat)
      ⟨0, none, 0, rfl, by omega, hb3, OwnL.nil, hS3⟩ ?_
    clear hS3 hb3 hS
    rintro _ ⟨i, u⟩ w4 ⟨k, p, cc, hi, hkn, hb4, o4, hS4⟩
    simp only at hi ⊢
    subst hi
    refine Cb_of (fun hc => ?_) (fun hc => ?_)
    · have hc : (k : Int) < c.n := by simpa using hc
      refine LdV_has (v := .int .i64 c.lba) hS4.cmd rfl (OpI_int.2 ?_)
      rw [wrapI (by omega) (by omega)]
      refine ar_read hS4.ar hok (by omega) (by omega) fun w5 k5 => ?_
      rw [hgood k hc]
      refine T2_mk.2 (OpA_agg.2 ⟨rfl, OpI_int.2 ?_⟩)
      refine alc_fresh fun w6 hb6 k6 z6 => ?_
      have k46 := k5.trans k6
      have hS6 := hS4.keep0 k46
      have hne5 : w5.heap.size ≠ b1 := fun e => by have := (hS4.keep0 k5).rep.lt; omega
      have hlo5 : w.heap.size ≤ w5.heap.size := (hS4.keep0 k5).keep.size
      have hb46 := k46.has hb4 (by simp)
      have h75 : w5.heap.size ≠ b7 := fun e => by have := (k5.has hb4 (by simp)).lt; omega
      refine StA_all hb6 rfl (by rw [zc_sec]; rfl) (one_secV _) ?_
      have ku := Keep.one w6 w5.heap.size (.cells (secV (readA q s (c.lba + (k : Int))).1) 37 (0, 0))
      have hS7 := hS6.tmp hb6 (Or.inl rfl) hlo5 hne5 ku
      have hb7 := hb6.upd_same (.cells (secV (readA q s (c.lba + (k : Int))).1) 37 (0, 0))
      have hr7 := ku.has hb46 (fun e => h75 e.symm)
      have o7 := (o4.keep k46 (by simp)).keep ku fun x hx e => by
        have := (o4.keep k5 (by simp)).lt hx
        omega
      clear ku hS6 hb46 hb6
      generalize w6.upd w5.heap.size (.cells (secV (readA q s (c.lba + (k : Int))).1) 37 (0, 0)) = w7 at *
      refine (Cb_false (p := _)).2 ?_
      refine LdV_has (v := .slice p k cc) hr7 rfl (OpS_slice.2 ?_)
      refine LdA_all hb7 rfl ?_
      refine ⟨_, _, bsl_s1 _ w7, OpS_slice.2 ?_⟩
      have k8 : Keep (fun _ => False) w7 (w7.alloc (.cells (secV (readA q s (c.lba + (k : Int))).1) 37)) := Keep.new _ _ _
      have hb8 : Has (w7.alloc (.cells (secV (readA q s (c.lba + (k : Int))).1) 37)) w7.heap.size (.cells (secV (readA q s (c.lba + (k : Int))).1) 37 (0, 0)) := Has.new _ _
      generalize w7.alloc (.cells (secV (readA q s (c.lba + (k : Int))).1) 37) = w8 at *
      have hS8 := hS7.keep0 k8
      have hr8 := k8.has hr7 (by simp)
      have o8 := o7.keep k8 (by simp)
      obtain ⟨p9, c9, w9, hr, o9, k9, _⟩ := run_appendF1 secLayT o8 (y := (readA q s (c.lba + (k : Int))).1) hb8 (by show secV _ = ((secV _).toList).toArray; simp) (ty := 32) (by omega) (by simp only [maxLen]; omega) hS8.keep.size (c2 := 1)
      refine ⟨_, _, hr, OpS_slice.2 ?_⟩
      have hS9 := hS8.grow o8 k9
      have hr9 := k9.has hr8 fun e => by
        obtain ⟨_, cur, hh⟩ := own_has o8 _ _ e
        have := hh.inj hr8
        simp only [Obj.cells.injEq] at this
        exact absurd this.2.1 (by decide)
      refine StV_of hr9 (by show 2 < 3; decide) rfl ?_
      have ku := Keep.one w9 b7 (.cells ((repC 1 0 p k cc).setIfInBounds 2 (.slice p9 (k + 1) c9)) 34 (0, 0))
      have hS10 := hS9.tmp hr9 (Or.inr rfl) hlo hne ku
      have hr10 := hr9.upd_same (.cells (repC 1 0 p9 (k + 1) c9) 34 (0, 0))
      have o10 := o9.keep ku fun x hx e => by
        obtain ⟨_, cur, hh⟩ := own_has o9 _ _ hx
        subst e
        have := hh.inj hr9
        simp only [Obj.cells.injEq] at this
        exact absurd this.2.1 (by decide)
      rw [wrapI (by omega) (by omega)]
      refine ⟨_, ?_, ⟨k + 1, p9, c9, by show (k : Int) + 1 = ((k + 1 : Nat) : Int); omega, by omega, hr10, by rw [readsA_succ]; exact o10, hS10⟩, rfl⟩
      show (c.n - ((k : Int) + 1)).toNat < (c.n - (k : Int)).toNat
      omega
    · have hc : ¬ (k : Int) < c.n := by simpa using hc
      have e : c.n.toNat = k := by omega
      rw [e]
      exact ⟨p, cc, hb4, o4, hS4⟩
  rintro _ _ w4 ⟨p, cc, hb4, o4, hS4⟩
  refine LdA_all hb4 rfl ?_
  refine doEnd hS4 rfl (one_repC _ _ _ _ _) fun w5 h5 k5 kk => hK p cc w5 h5 k5 (o4.keep kk fun x hx e => ?_)
  obtain ⟨_, cur, hh⟩ := own_has o4 _ _ hx
  rcases e with e | e
  · subst e
    have := hh.inj hS4.rep
    simp only [Obj.cells.injEq] at this
    exact absurd this.2.1 (by decide)
  · subst e
    have := hh.inj hS4.ar.cells
    simp only [Obj.cells.injEq] at this
    exact absurd this.2.1 (by decide)
theorem ar_DoWrite (h : ArAt w q 0 s) (f : Bool) {init : Int} (hk : c.k = 3) (hr : readyA s f = true) (ha : upA s (!f) = false ∨ (livesA s (!f) = true ∧ s.split = false))
    (hg : (gateD s.d ((q.g.d - 2) * q.g.c * q.g.s) init c).2 = false) {xs : List Sec} (hx : SlT secLay w 37 c.dp c.dl c.dc xs) (Iv : Nat → AS → Prop) (Bad : AS → Prop) (h0 : Iv 0 s)
    (hstep : ∀ (k : Nat) (x : Sec) (s1 : AS) (w1 : World) (R1 : Value → World → Prop), xs[k]? = some x → Iv k s1 → ArAt w1 q 1 s1 → (∀ e s2 w2, ArAt w2 q 1 s2 → Keep (ArF q w1) w1 w2 → (e = 0 ∧ Iv (k + 1) s2 ∨ e ≠ 0 ∧ Bad s2) → R1 (.int .i64 e) w2) →
      CallV Tryz.prog 82 #[.pointer (some ⟨q.a, 0, none⟩), .int .i64 (sideN f), .int .i64 (c.lba + (k : Int)), .agg (secV x)] w1 R1)
    (hK : ∀ s' w', Iv xs.length s' → ArAt w' q 0 s' → Keep (ArF q w) w w' → R (.agg (repC 1 0 none 0 0)) w')
    (hB : ∀ s' w', Bad s' → ArAt w' q 0 s' → Keep (ArF q w) w w' → R (.agg (if s'.ps.pw.on = true then repC 2 13 none 0 0 else repC 0 0 none 0 0)) w') :
    CallV Tryz.prog 16 #[.pointer (some ⟨q.a, 0, none⟩), .int .i64 (sideN f), .int .i64 init, .agg (cmdC c)] w R := by
  refine ar_DoOpen h f (Or.inr (Or.inl hk)) hr ha (fun ht => by rw [hg] at ht; cases ht) fun _ b b1 w1 hS => ?_
  obtain ⟨g1, g2, g3, g4⟩ := gate_ok (by omega) hg
  have hn : cntC c = (c.dl : Int) := by unfold cntC; rw [if_neg (by omega)]
  rw [hn] at g1 g2 g4
  clear hn
  have hlen := hx.len
  have hcap : 2 ≤ (q.g.d - 2) * q.g.c * q.g.s ∧ (q.g.d - 2) * q.g.c * q.g.s ≤ 15360 := h.set.geo.cap
  unfold DoBody
  refine DoQ_of (fun _ => bld_rep1 1 _) (OpA_agg.2 ⟨rfl, ?_⟩)
  refine alc_fresh fun w2 hb2 k2 z2 => ?_
  rw [zc_rep] at hb2
  have hS2 := hS.keep0 k2
  have hne : w1.heap.size ≠ b1 := fun e => by have := hS.rep.lt; omega
  have hlo : w.heap.size ≤ w1.heap.size := hS.keep.size
  refine StA_all hb2 rfl rfl (one_repC _ _ _ _ _) ?_
  have hS3 := hS2.tmp hb2 (Or.inr rfl) hlo hne (Keep.one _ _ (.cells (repC 1 0 none 0 0) 34 (0, 0)))
  have hb3 := hb2.upd_same (.cells (repC 1 0 none 0 0) 34 (0, 0))
  clear hS2 hb2 k2
  generalize w2.upd w1.heap.size (.cells (repC 1 0 none 0 0) 34 (0, 0)) = w3 at *
  generalize w1.heap.size = b7 at *
  refine LdV_has (v := .int .i64 c.k) hS3.cmd rfl (OpI_int.2 ?_)
  rw [hk]
  refine ⟨fun _ w' => ∃ s', Iv xs.length s' ∧ Has w' b7 (.cells (repC 1 0 none 0 0) 34 (0, 0)) ∧ DoSt w w' q s' b b1 c, ?_, ?_⟩
  · refine (Cb_false (p := _)).2 ⟨fun st w' => st.1 = true ∧ w' = w3, (Cb_true (q := _)).2 ⟨rfl, rfl⟩, ?_⟩
    rintro _ ⟨g, u⟩ w4 ⟨hg4, rfl⟩
    simp only at hg4 ⊢
    subst hg4
    refine (Cb_true (q := _)).2 ?_
    refine LdV_has (v := .slice c.dp c.dl c.dc) hS3.cmd rfl (OpS_slice.2 ?_)
    refine LdV_has (v := .int .i64 c.k) hS3.cmd rfl (OpI_int.2 ?_)
    rw [hk]
    refine ⟨fun st w' => st.1 = (c.dp, c.dl, c.dc) ∧ w' = w4, (Cb_false (p := _)).2 ⟨rfl, rfl⟩, ?_⟩
    rintro _ ⟨g, u⟩ w5 ⟨hg5, rfl⟩
    simp only at hg5 ⊢
    subst hg5
    refine LoopC_of (σ := Int × Unit) (fun st w' => ∃ (k : Nat) (s' : AS), st.1 = (k : Int) ∧ k ≤ xs.length ∧ Iv k s' ∧ Has w' b7 (.cells (repC 1 0 none 0 0) 34 (0, 0)) ∧ DoSt w w' q s' b b1 c) (fun st _ => ((xs.length : Int) - st.1).toNat)
      ⟨0, s, rfl, by omega, h0, hb3, hS3⟩ ?_
    clear hS3 hb3 hS
    rintro _ ⟨i, u⟩ w4 ⟨k, s', hi, hkn, hv, hb4, hS4⟩
    simp only at hi ⊢
    subst hi
    refine Cb_of (fun hc => ?_) (fun hc => ?_)
    · have hc : (k : Int) < (c.dl : Int) := by simpa using hc
      obtain ⟨x, hxk⟩ : ∃ x, xs[k]? = some x := ⟨_, List.getElem?_eq_getElem (show k < xs.length by omega)⟩
      have hx4 := hx.keepB hS4.keep fun i cur hh => ArF.not h hh (by decide) (by decide) (by decide) (by decide) (by decide) (by decide) (by decide)
      refine hx4.ldA rfl (by omega) (by simpa using hxk) ?_
      show Alc _ _ _ _
      refine copy_of (by rw [zc_sec]; rfl) (by simp [secLay]) (by intro v hv; exact one_secV x v (by simpa [secLay] using hv)) fun w6 hb6 k6 z6 => ?_
      have e : (secLay.row x).toArray = secV x := by simp [secLay]
      rw [e] at hb6
      have hS6 := hS4.keep0 k6
      have hb46 := k6.has hb4 (by simp)
      refine LdV_has (v := .int .i64 c.lba) hS6.cmd rfl (OpI_int.2 ?_)
      refine LdA_all hb6 rfl ?_
      rw [wrapI (by omega) (by omega)]
      refine hstep k x s' w6 _ hxk hv hS6.ar fun e2 s2 w7 h7 k7 hor => OpI_int.2 ?_
      have hS7 := hS6.to h7 k7
      have hb7 := k7.has hb46 (ArF.not hS6.ar hb46 (by decide) (by decide) (by decide) (by decide) (by decide) (by decide) (by decide))
      rcases hor with ⟨he, hv2⟩ | ⟨he, hbad⟩
      · subst he
        refine (Cb_false (p := _)).2 ?_
        rw [wrapI (by omega) (by omega)]
        refine ⟨_, ?_, ⟨k + 1, s2, by show (k : Int) + 1 = ((k + 1 : Nat) : Int); omega, by omega, hv2, hb7, hS7⟩, rfl⟩
        show ((xs.length : Int) - ((k : Int) + 1)).toNat < ((xs.length : Int) - (k : Int)).toNat
        omega
      · have e3 : (e2 != 0) = true := by simpa using he
        rw [e3]
        refine (Cb_true (q := _)).2 ?_
        refine ar_check hS7.ar 13 fun w8 k8 => ?_
        refine OpA_agg.2 ⟨by split <;> rfl, ?_⟩
        refine doEnd (hS7.keep0 k8) (by split <;> rfl) (by intro v hv; split at hv <;> exact one_repC _ _ _ _ _ v hv) fun w9 h9 k9 _ => hB s2 w9 hbad h9 k9
    · have hc : ¬ (k : Int) < (c.dl : Int) := by simpa using hc
      have e : xs.length = k := by omega
      rw [e]
      exact ⟨s', hv, hb4, hS4⟩
  rintro _ _ w4 ⟨s', hv, hb4, hS4⟩
  refine LdA_all hb4 rfl ?_
  exact doEnd hS4 rfl (one_repC _ _ _ _ _) fun w5 h5 k5 _ => hK s' w5 hv h5 k5
end calls
end Go.Proofs

/- PRINTED BY pr.py (own program): what the evaluator of <Name>Ev makes of the code of some functions. -/
namespace Go.Proofs
open Go.Ev
set_option linter.unusedVariables false
set_option maxRecDepth 100000
def F_ravelinlaw20_awake  (w : World) (R : Value → World → Prop) : Prop :=
  DoQ Tryz.prog (Instr.build 24 #[(0, .int .i64 4), (1, .int .i64 1), (2, .int .i64 2)]) (At w) fun v => OpA 3 v fun cs => CallV Tryz.prog 13 #[.agg cs, .int .i64 2] w fun
  v1 w => T2 v1 fun v2 v3 => OpN v2 fun b o => OpI .i64 v3 fun n => Req ((n != 0) = (n != 0)) (Req ((n != 0) = (n != 0)) (Cb (cond (n != 0) true false) (Ret [] (R (.bool
  false) w)) (DoQ Tryz.prog (Instr.build 37 #[(0, .int .u8 7)]) (At w) fun v4 => OpA 16 v4 fun cs1 => DoV Tryz.prog (Instr.buildSlice 32 1 #[(0, .agg cs1)]) w fun v5 w =>
  OpS v5 fun p l c => DoQ Tryz.prog (Instr.build 41 #[(0, .int .i64 3), (3, .slice p l c)]) (At w) fun v6 => OpA 7 v6 fun cs2 => CallV Tryz.prog 16 #[.pointer (some ⟨b, o,
  none⟩), .int .i64 0, .int .i64 0, .agg cs2] w fun v7 w => OpA 3 v7 fun cs3 => DoQ Tryz.prog (Instr.build 41 #[(0, .int .i64 2), (2, .int .i64 1)]) (At w) fun v8 => OpA 7
  v8 fun cs4 => CallV Tryz.prog 16 #[.pointer (some ⟨b, o, none⟩), .int .i64 1, .int .i64 0, .agg cs4] w fun v9 w => OpA 3 v9 fun cs5 => Alc 34 (zc Tryz.prog 34) w fun b1 w
  => StA 3 b1 0 cs5 w fun w => LdV b1 0 (At w) fun v10 => OpI .i64 v10 fun n1 => Cb (n1 == 1) (LdV b1 2 (At w) fun v11 => OpS v11 fun p1 l1 c1 => Cb (((l1 : Nat) : Int) ==
  1) (LdV b1 2 (At w) fun v12 => OpS v12 fun p2 l2 c2 => IdxS p2 l2 0 16 fun b2 o1 => LdA 16 b2 o1 (At w) fun cs6 => DoQ Tryz.prog (Instr.build 37 #[(0, .int .u8 7)]) (At w)
  fun v13 => OpA 16 v13 fun cs7 => EqB Tryz.prog .eql 37 (.tmp 36) (.tmp 37) (.agg cs6 : Value) (.agg cs7 : Value) (At w) fun g => Cb g (CallV Tryz.prog 50 #[.pointer (some
  ⟨b, o, none⟩)] w fun v14 w => OpI .i64 v14 fun n2 => Ret [] (R (.bool (n2 == 2)) w)) (Ret [] (R (.bool false) w))) (Ret [] (R (.bool false) w))) (Ret [] (R (.bool false)
  w)))))
theorem C_ravelinlaw20_awake  {w : World} {R : Value → World → Prop} (h : F_ravelinlaw20_awake  w R) : CallV Tryz.prog 63 #[] w R := by
  exact calls_of_F (args := []) (mkAnn [] [] [] [] [100006]) Tryz_mixed Tryz.func63 rfl rfl (by kernel_rfl) h
end Go.Proofs

/- PRINTED BY pr.py (own program): what the evaluator of <Name>Ev makes of the code of some functions. -/
namespace Go.Proofs
open Go.Ev
set_option linter.unusedVariables false
set_option maxRecDepth 100000
def F_ravelinlaw20_ArrayForms (g : Array Value) (room : Int) (w : World) (R : Value → World → Prop) : Prop :=
  Alc 24 g w fun b w => LdA 3 b 0 (At w) fun cs => CallV Tryz.prog 13 #[.agg cs, .int .i64 room] w fun v w => T2 v fun v1 v2 => OpP v1 (OpI .i64 v2 fun n => CallV Tryz.prog
  63 #[] w fun v3 w => OpB v3 fun g1 => Cb (!g1) (Ret [] (R (.bool false) w)) (LdA 3 b 0 (At w) fun cs1 => CallV Tryz.prog 64 #[.agg cs1] w fun v4 w => OpI .i64 v4 fun n1 =>
  Cb (n1 != 0) (Req ((n == 1) = (n == 1)) (Req ((n == 1) = (n == 1)) (Ret [] (R (.bool (cond (n == 1) true false)) w)))) (Req ((decide (room < 1)) = (decide (room < 1)))
  (Req ((decide (room < 1)) = (decide (room < 1))) (Cb (cond (decide (room < 1)) true (decide (room > 64))) (Req ((n == 2) = (n == 2)) (Req ((n == 2) = (n == 2)) (Ret [] (R
  (.bool (cond (n == 2) true false)) w)))) (LdA 3 b 0 (At w) fun cs2 => CallV Tryz.prog 56 #[.agg cs2] w fun v5 w => T2 v5 fun v6 v7 => OpI .i64 v6 fun n2 => OpI .i64 v7 fun
  n3 => Req ((n == 0) = (n == 0)) (Req ((n == 0) = (n == 0)) (Cb (cond (n == 0) false false) (CallV Tryz.prog 15 #[.pointer none] w fun v8 w => OpI .i64 v8 fun n4 => Cb (n4
  == n2) (CallV Tryz.prog 23 #[.pointer none, .int .i64 0] w fun v9 w => OpB v9 fun g2 => Cb g2 (CallV Tryz.prog 23 #[.pointer none, .int .i64 1] w fun v10 w => OpB v10 fun
  g3 => Cb g3 (CallV Tryz.prog 47 #[.pointer none] w fun v11 w => OpB v11 fun g4 => Cb g4 (CallV Tryz.prog 18 #[.pointer none] w fun v12 w => OpI .i64 v12 fun n5 => Cb (n5
  == 0) (CallV Tryz.prog 50 #[.pointer none] w fun v13 w => OpI .i64 v13 fun n6 => Ret [] (R (.bool (n6 == 0)) w)) (Ret [] (R (.bool false) w))) (Ret [] (R (.bool false)
  w))) (Ret [] (R (.bool false) w))) (Ret [] (R (.bool false) w))) (Ret [] (R (.bool false) w))) (Ret [] (R (.bool false) w)))))))))) fun b1 o => OpI .i64 v2 fun n7 => CallV
  Tryz.prog 63 #[] w fun v14 w => OpB v14 fun g5 => Cb (!g5) (Ret [] (R (.bool false) w)) (LdA 3 b 0 (At w) fun cs3 => CallV Tryz.prog 64 #[.agg cs3] w fun v15 w => OpI .i64
  v15 fun n8 => Cb (n8 != 0) (Req ((n7 == 1) = (n7 == 1)) (Req ((n7 == 1) = (n7 == 1)) (Ret [] (R (.bool (cond (n7 == 1) false false)) w)))) (Req ((decide (room < 1)) =
  (decide (room < 1))) (Req ((decide (room < 1)) = (decide (room < 1))) (Cb (cond (decide (room < 1)) true (decide (room > 64))) (Req ((n7 == 2) = (n7 == 2)) (Req ((n7 == 2)
  = (n7 == 2)) (Ret [] (R (.bool (cond (n7 == 2) false false)) w)))) (LdA 3 b 0 (At w) fun cs4 => CallV Tryz.prog 56 #[.agg cs4] w fun v16 w => T2 v16 fun v17 v18 => OpI
  .i64 v17 fun n9 => OpI .i64 v18 fun n10 => Req ((n7 == 0) = (n7 == 0)) (Req ((n7 == 0) = (n7 == 0)) (Cb (cond (n7 == 0) true false) (CallV Tryz.prog 15 #[.pointer (some
  ⟨b1, o, none⟩)] w fun v19 w => OpI .i64 v19 fun n11 => Cb (n11 == n9) (CallV Tryz.prog 23 #[.pointer (some ⟨b1, o, none⟩), .int .i64 0] w fun v20 w => OpB v20 fun g6 => Cb
  g6 (CallV Tryz.prog 23 #[.pointer (some ⟨b1, o, none⟩), .int .i64 1] w fun v21 w => OpB v21 fun g7 => Cb g7 (CallV Tryz.prog 47 #[.pointer (some ⟨b1, o, none⟩)] w fun v22
  w => OpB v22 fun g8 => Cb g8 (CallV Tryz.prog 18 #[.pointer (some ⟨b1, o, none⟩)] w fun v23 w => OpI .i64 v23 fun n12 => Cb (n12 == 0) (CallV Tryz.prog 50 #[.pointer (some
  ⟨b1, o, none⟩)] w fun v24 w => OpI .i64 v24 fun n13 => Ret [] (R (.bool (n13 == 0)) w)) (Ret [] (R (.bool false) w))) (Ret [] (R (.bool false) w))) (Ret [] (R (.bool
  false) w))) (Ret [] (R (.bool false) w))) (Ret [] (R (.bool false) w))) (Ret [] (R (.bool false) w)))))))))
theorem C_ravelinlaw20_ArrayForms {g : Array Value} {room : Int} {w : World} {R : Value → World → Prop} (h : F_ravelinlaw20_ArrayForms g room w R) : CallV Tryz.prog 8 #[.agg g, .int .i64 room] w R := by
  exact calls_of_F (args := [.agg g, .int .i64 room]) (mkAnn [] [] [] [] []) Tryz_mixed Tryz.func8 rfl rfl (by kernel_rfl) h
end Go.Proofs

/- PRINTED BY pr.py (own program): what the evaluator of <Name>Ev makes of the code of some functions. -/
namespace Go.Proofs
open Go.Ev
set_option linter.unusedVariables false
set_option maxRecDepth 100000
def F_ANildisk (n : Int) (w : World) (R : Value → World → Prop) : Prop :=
  Ret [] (R (.tuple #[.pointer none, .int .i64 2]) w)
theorem C_ANildisk {n : Int} {w : World} {R : Value → World → Prop} (h : F_ANildisk n w R) : CallV Tryz.prog 86 #[.pointer none, .int .i64 n] w R := by
  exact calls_of_F (args := [.pointer none, .int .i64 n]) (mkAnn [] [] [] [] []) Tryz_mixed Tryz.func86 rfl rfl (by kernel_rfl) h
def F_ANilRebuild (n : Int) (count : Int) (w : World) (R : Value → World → Prop) : Prop :=
  CallV Tryz.prog 86 #[.pointer none, .int .i64 n] w fun v w => T2 v fun v1 v2 => OpP v1 (OpI .i64 v2 fun n1 => Cb (n1 != 0) (R (.tuple #[.int .i64 0, .int .i64 n1]) w) (Cb
  (decide (count < 0)) (R (.tuple #[.int .i64 0, .int .i64 2]) w) (False))) fun b o => OpI .i64 v2 fun n2 => Cb (n2 != 0) (R (.tuple #[.int .i64 0, .int .i64 n2]) w) (Cb
  (decide (count < 0)) (R (.tuple #[.int .i64 0, .int .i64 2]) w) (False))
theorem C_ANilRebuild {n : Int} {count : Int} {w : World} {R : Value → World → Prop} (h : F_ANilRebuild n count w R) : CallV Tryz.prog 68 #[.pointer none, .int .i64 n, .int .i64 count] w R := by
  exact calls_of_FD (args := [.pointer none, .int .i64 n, .int .i64 count]) (mkAnn [] [] [] [] []) Tryz_mixed Tryz.func68 rfl rfl (by kernel_rfl) h
def F_ANilScrub (number : Int) (w : World) (R : Value → World → Prop) : Prop :=
  Alc 123 (zc Tryz.prog 123) w fun b w => DoQ Tryz.prog (Instr.build 123 #[]) (At w) fun v => OpA 4 v fun cs => StA 4 b 0 cs w fun w => LdA 4 b 0 (At w) fun cs1 => R (.tuple
  #[.agg cs1, .int .i64 2]) w
theorem C_ANilScrub {number : Int} {w : World} {R : Value → World → Prop} (h : F_ANilScrub number w R) : CallV Tryz.prog 69 #[.pointer none, .int .i64 number] w R := by
  exact calls_of_FD (args := [.pointer none, .int .i64 number]) (mkAnn [] [] [] [] []) Tryz_mixed Tryz.func69 rfl rfl (by kernel_rfl) h
def F_ANilDo (side : Int) (init : Int) (c : Array Value) (w : World) (R : Value → World → Prop) : Prop :=
  Alc 41 c w fun b w => Alc 34 (zc Tryz.prog 34) w fun b1 w => DoQ Tryz.prog (Instr.build 34 #[]) (At w) fun v => OpA 3 v fun cs => StA 3 b1 0 cs w fun w => LdA 3 b1 0 (At
  w) fun cs1 => R (.agg cs1) w
theorem C_ANilDo {side : Int} {init : Int} {c : Array Value} {w : World} {R : Value → World → Prop} (h : F_ANilDo side init c w R) : CallV Tryz.prog 16 #[.pointer none, .int .i64 side, .int .i64 init, .agg c] w R := by
  exact calls_of_FD (args := [.pointer none, .int .i64 side, .int .i64 init, .agg c]) (mkAnn [] [] [] [] []) Tryz_mixed Tryz.func16 rfl rfl (by kernel_rfl) h
def F_ANilFlush  (w : World) (R : Value → World → Prop) : Prop :=
  R (.int .i64 2) w
theorem C_ANilFlush  {w : World} {R : Value → World → Prop} (h : F_ANilFlush  w R) : CallV Tryz.prog 19 #[.pointer none] w R := by
  exact calls_of_FD (args := [.pointer none]) (mkAnn [] [] [] [] []) Tryz_mixed Tryz.func19 rfl rfl (by kernel_rfl) h
def F_ANilCrash (side : Int) (w : World) (R : Value → World → Prop) : Prop :=
  R (.int .i64 2) w
theorem C_ANilCrash {side : Int} {w : World} {R : Value → World → Prop} (h : F_ANilCrash side w R) : CallV Tryz.prog 22 #[.pointer none, .int .i64 side] w R := by
  exact calls_of_FD (args := [.pointer none, .int .i64 side]) (mkAnn [] [] [] [] []) Tryz_mixed Tryz.func22 rfl rfl (by kernel_rfl) h
def F_ANilSplit  (w : World) (R : Value → World → Prop) : Prop :=
  R (.int .i64 2) w
theorem C_ANilSplit  {w : World} {R : Value → World → Prop} (h : F_ANilSplit  w R) : CallV Tryz.prog 51 #[.pointer none] w R := by
  exact calls_of_FD (args := [.pointer none]) (mkAnn [] [] [] [] []) Tryz_mixed Tryz.func51 rfl rfl (by kernel_rfl) h
def F_ANilRejoin (side : Int) (w : World) (R : Value → World → Prop) : Prop :=
  R (.int .i64 2) w
theorem C_ANilRejoin {side : Int} {w : World} {R : Value → World → Prop} (h : F_ANilRejoin side w R) : CallV Tryz.prog 24 #[.pointer none, .int .i64 side] w R := by
  exact calls_of_FD (args := [.pointer none, .int .i64 side]) (mkAnn [] [] [] [] []) Tryz_mixed Tryz.func24 rfl rfl (by kernel_rfl) h
def F_ANilCut (n : Int) (w : World) (R : Value → World → Prop) : Prop :=
  Req (true = true) (Req (true = true) (R (.int .i64 2) w))
theorem C_ANilCut {n : Int} {w : World} {R : Value → World → Prop} (h : F_ANilCut n w R) : CallV Tryz.prog 46 #[.pointer none, .int .i64 n] w R := by
  exact calls_of_FD (args := [.pointer none, .int .i64 n]) (mkAnn [] [] [] [] []) Tryz_mixed Tryz.func46 rfl rfl (by kernel_rfl) h
def F_ANilStart  (w : World) (R : Value → World → Prop) : Prop :=
  R (.int .i64 2) w
theorem C_ANilStart  {w : World} {R : Value → World → Prop} (h : F_ANilStart  w R) : CallV Tryz.prog 21 #[.pointer none, .bool true, .bool true] w R := by
  exact calls_of_FD (args := [.pointer none, .bool true, .bool true]) (mkAnn [] [] [] [] []) Tryz_mixed Tryz.func21 rfl rfl (by kernel_rfl) h
def F_ANilFail (n : Int) (w : World) (R : Value → World → Prop) : Prop :=
  CallV Tryz.prog 86 #[.pointer none, .int .i64 n] w fun v w => T2 v fun v1 v2 => OpP v1 (OpI .i64 v2 fun n1 => Cb (n1 != 0) (Ret [] (R (.int .i64 n1) w)) (CallV Tryz.prog
  87 #[.pointer none] w fun v3 w => OpB v3 fun g => Cb (!g) (Ret [] (R (.int .i64 5) w)) (False))) fun b o => OpI .i64 v2 fun n2 => Cb (n2 != 0) (Ret [] (R (.int .i64 n2)
  w)) (CallV Tryz.prog 87 #[.pointer (some ⟨b, o, none⟩)] w fun v4 w => OpB v4 fun g1 => Cb (!g1) (Ret [] (R (.int .i64 5) w)) (False))
theorem C_ANilFail {n : Int} {w : World} {R : Value → World → Prop} (h : F_ANilFail n w R) : CallV Tryz.prog 20 #[.pointer none, .int .i64 n] w R := by
  exact calls_of_F (args := [.pointer none, .int .i64 n]) (mkAnn [] [] [] [] []) Tryz_mixed Tryz.func20 rfl rfl (by kernel_rfl) h
def F_ANilReplace (n : Int) (w : World) (R : Value → World → Prop) : Prop :=
  CallV Tryz.prog 86 #[.pointer none, .int .i64 n] w fun v w => T2 v fun v1 v2 => OpP v1 (OpI .i64 v2 fun n1 => Cb (n1 != 0) (Ret [] (R (.int .i64 n1) w)) (False)) fun b o
  => OpI .i64 v2 fun n2 => Cb (n2 != 0) (Ret [] (R (.int .i64 n2) w)) (False)
theorem C_ANilReplace {n : Int} {w : World} {R : Value → World → Prop} (h : F_ANilReplace n w R) : CallV Tryz.prog 67 #[.pointer none, .int .i64 n] w R := by
  exact calls_of_F (args := [.pointer none, .int .i64 n]) (mkAnn [] [] [] [] []) Tryz_mixed Tryz.func67 rfl rfl (by kernel_rfl) h
def F_ANilHurt (n : Int) (at_ : Int) (w : World) (R : Value → World → Prop) : Prop :=
  CallV Tryz.prog 86 #[.pointer none, .int .i64 n] w fun v w => T2 v fun v1 v2 => OpP v1 (OpI .i64 v2 fun n1 => Cb (n1 != 0) (Ret [] (R (.int .i64 n1) w)) (CallV Tryz.prog
  100 #[.pointer none, .int .i64 at_] w fun v3 w => OpI .i64 v3 fun n2 => Ret [] (R (.int .i64 n2) w))) fun b o => OpI .i64 v2 fun n3 => Cb (n3 != 0) (Ret [] (R (.int .i64
  n3) w)) (CallV Tryz.prog 100 #[.pointer (some ⟨b, o, none⟩), .int .i64 at_] w fun v4 w => OpI .i64 v4 fun n4 => Ret [] (R (.int .i64 n4) w))
theorem C_ANilHurt {n : Int} {at_ : Int} {w : World} {R : Value → World → Prop} (h : F_ANilHurt n at_ w R) : CallV Tryz.prog 70 #[.pointer none, .int .i64 n, .int .i64 at_] w R := by
  exact calls_of_F (args := [.pointer none, .int .i64 n, .int .i64 at_]) (mkAnn [] [] [] [] []) Tryz_mixed Tryz.func70 rfl rfl (by kernel_rfl) h
def F_ANilReady (side : Int) (w : World) (R : Value → World → Prop) : Prop :=
  Ret [] (R (.bool false) w)
theorem C_ANilReady {side : Int} {w : World} {R : Value → World → Prop} (h : F_ANilReady side w R) : CallV Tryz.prog 23 #[.pointer none, .int .i64 side] w R := by
  exact calls_of_F (args := [.pointer none, .int .i64 side]) (mkAnn [] [] [] [] []) Tryz_mixed Tryz.func23 rfl rfl (by kernel_rfl) h
def F_ANilOn  (w : World) (R : Value → World → Prop) : Prop :=
  Ret [] (R (.bool false) w)
theorem C_ANilOn  {w : World} {R : Value → World → Prop} (h : F_ANilOn  w R) : CallV Tryz.prog 47 #[.pointer none] w R := by
  exact calls_of_F (args := [.pointer none]) (mkAnn [] [] [] [] []) Tryz_mixed Tryz.func47 rfl rfl (by kernel_rfl) h
def F_ANilDirty  (w : World) (R : Value → World → Prop) : Prop :=
  Ret [] (R (.int .i64 0) w)
theorem C_ANilDirty  {w : World} {R : Value → World → Prop} (h : F_ANilDirty  w R) : CallV Tryz.prog 18 #[.pointer none] w R := by
  exact calls_of_F (args := [.pointer none]) (mkAnn [] [] [] [] []) Tryz_mixed Tryz.func18 rfl rfl (by kernel_rfl) h
def F_ANilSteps  (w : World) (R : Value → World → Prop) : Prop :=
  Ret [] (R (.int .i64 0) w)
theorem C_ANilSteps  {w : World} {R : Value → World → Prop} (h : F_ANilSteps  w R) : CallV Tryz.prog 50 #[.pointer none] w R := by
  exact calls_of_F (args := [.pointer none]) (mkAnn [] [] [] [] []) Tryz_mixed Tryz.func50 rfl rfl (by kernel_rfl) h
def F_ANilCapacity  (w : World) (R : Value → World → Prop) : Prop :=
  Ret [] (R (.int .i64 0) w)
theorem C_ANilCapacity  {w : World} {R : Value → World → Prop} (h : F_ANilCapacity  w R) : CallV Tryz.prog 15 #[.pointer none] w R := by
  exact calls_of_F (args := [.pointer none]) (mkAnn [] [] [] [] []) Tryz_mixed Tryz.func15 rfl rfl (by kernel_rfl) h
end Go.Proofs

/- PRINTED BY pr.py (own program): what the evaluator of <Name>Ev makes of the code of some functions. -/
namespace Go.Proofs
open Go.Ev
set_option linter.unusedVariables false
set_option maxRecDepth 100000
def F_ravelinlaw20_ArrayNil (n : Int) (m : Int) (c : Array Value) (w : World) (R : Value → World → Prop) : Prop :=
  Alc 41 c w fun b w => CallV Tryz.prog 68 #[.pointer none, .int .i64 n, .int .i64 m] w fun v w => T2 v fun v1 v2 => OpI .i64 v1 fun n1 => OpI .i64 v2 fun n2 => CallV
  Tryz.prog 69 #[.pointer none, .int .i64 n] w fun v3 w => T2 v3 fun v4 v5 => OpA 4 v4 fun cs => OpI .i64 v5 fun n3 => Alc 123 (zc Tryz.prog 123) w fun b1 w => StA 4 b1 0 cs
  w fun w => LdA 7 b 0 (At w) fun cs1 => CallV Tryz.prog 16 #[.pointer none, .int .i64 n, .int .i64 m, .agg cs1] w fun v6 w => OpA 3 v6 fun cs2 => Alc 34 (zc Tryz.prog 34) w
  fun b2 w => StA 3 b2 0 cs2 w fun w => CallV Tryz.prog 63 #[] w fun v7 w => OpB v7 fun g => Req (g = g) (Req (g = g) (Req ((cond g (n2 == 2) false) = (cond g (n2 == 2)
  false)) (Req ((cond g (n2 == 2) false) = (cond g (n2 == 2) false)) (Req ((cond (cond g (n2 == 2) false) (n3 == 2) false) = (cond (cond g (n2 == 2) false) (n3 == 2) false))
  (Req ((cond (cond g (n2 == 2) false) (n3 == 2) false) = (cond (cond g (n2 == 2) false) (n3 == 2) false)) (Cb (cond (cond (cond g (n2 == 2) false) (n3 == 2) false) (n1 ==
  0) false) (LdA 4 b1 0 (At w) fun cs3 => DoQ Tryz.prog (Instr.build 123 #[]) (At w) fun v8 => OpA 4 v8 fun cs4 => EqB Tryz.prog .eql 123 (.tmp 45) (.tmp 46) (.agg cs3 :
  Value) (.agg cs4 : Value) (At w) fun g1 => Cb g1 (LdV b2 0 (At w) fun v9 => OpI .i64 v9 fun n4 => Cb (n4 == 0) (LdV b2 2 (At w) fun v10 => OpS v10 fun p l c1 => Cb (((l :
  Nat) : Int) == 0) (CallV Tryz.prog 19 #[.pointer none] w fun v11 w => OpI .i64 v11 fun n5 => Cb (n5 == 2) (CallV Tryz.prog 22 #[.pointer none, .int .i64 n] w fun v12 w =>
  OpI .i64 v12 fun n6 => Cb (n6 == 2) (CallV Tryz.prog 51 #[.pointer none] w fun v13 w => OpI .i64 v13 fun n7 => Cb (n7 == 2) (CallV Tryz.prog 24 #[.pointer none, .int .i64
  n] w fun v14 w => OpI .i64 v14 fun n8 => Cb (n8 == 2) (CallV Tryz.prog 46 #[.pointer none, .int .i64 n] w fun v15 w => OpI .i64 v15 fun n9 => Cb (n9 == 2) (CallV Tryz.prog
  21 #[.pointer none, .bool true, .bool true] w fun v16 w => OpI .i64 v16 fun n10 => Cb (n10 == 2) (CallV Tryz.prog 20 #[.pointer none, .int .i64 n] w fun v17 w => OpI .i64
  v17 fun n11 => Cb (n11 == 2) (CallV Tryz.prog 67 #[.pointer none, .int .i64 n] w fun v18 w => OpI .i64 v18 fun n12 => Cb (n12 == 2) (CallV Tryz.prog 70 #[.pointer none,
  .int .i64 n, .int .i64 m] w fun v19 w => OpI .i64 v19 fun n13 => Cb (n13 == 2) (CallV Tryz.prog 23 #[.pointer none, .int .i64 n] w fun v20 w => OpB v20 fun g2 => Cb (!g2)
  (CallV Tryz.prog 47 #[.pointer none] w fun v21 w => OpB v21 fun g3 => Cb (!g3) (CallV Tryz.prog 18 #[.pointer none] w fun v22 w => OpI .i64 v22 fun n14 => Cb (n14 == 0)
  (CallV Tryz.prog 50 #[.pointer none] w fun v23 w => OpI .i64 v23 fun n15 => Cb (n15 == 0) (CallV Tryz.prog 15 #[.pointer none] w fun v24 w => OpI .i64 v24 fun n16 => Ret
  [] (R (.bool (n16 == 0)) w)) (Ret [] (R (.bool false) w))) (Ret [] (R (.bool false) w))) (Ret [] (R (.bool false) w))) (Ret [] (R (.bool false) w))) (Ret [] (R (.bool
  false) w))) (Ret [] (R (.bool false) w))) (Ret [] (R (.bool false) w))) (Ret [] (R (.bool false) w))) (Ret [] (R (.bool false) w))) (Ret [] (R (.bool false) w))) (Ret []
  (R (.bool false) w))) (Ret [] (R (.bool false) w))) (Ret [] (R (.bool false) w))) (Ret [] (R (.bool false) w))) (Ret [] (R (.bool false) w))) (Ret [] (R (.bool false) w)))
  (Ret [] (R (.bool false) w))))))))
theorem C_ravelinlaw20_ArrayNil {n : Int} {m : Int} {c : Array Value} {w : World} {R : Value → World → Prop} (h : F_ravelinlaw20_ArrayNil n m c w R) : CallV Tryz.prog 11 #[.int .i64 n, .int .i64 m, .agg c] w R := by
  exact calls_of_F (args := [.int .i64 n, .int .i64 m, .agg c]) (mkAnn [] [] [] [] []) Tryz_mixed Tryz.func11 rfl rfl (by kernel_rfl) h
end Go.Proofs

/-
  THE LAWS OF THE ARRAY: awake; New of any form and room; a nil array.
-/
namespace Go.Proofs
open Go Go.Ev
set_option linter.unusedSimpArgs false
set_option linter.unusedVariables false
set_option maxRecDepth 100000

theorem len_pack (x : Rec) : ((packB x).length : Int) = 37 := rfl
/-- a record to both sides while the power holds -/
theorem eachP_lit {sz : Int} {x : Rec} {s : PS} (f : Bool) (hua : s.ua = true) (hub : s.ub = true) (hl : Lit0 s.pw) (ra : 37 ≤ sz - (s.xa.length : Int)) (rb : 37 ≤ sz - (s.xb.length : Int)) :
    eachP sz x f s = (0, { s with pw := (stepP (stepP s.pw).2).2, xa := s.xa ++ packB x, xb := s.xb ++ packB x }) := by
  have l1 := lit_step hl
  have l2 := lit_step l1.2
  have go : ∀ (pw : Pow) (bs : List Int), Lit0 pw → 37 ≤ sz - (bs.length : Int) → appP pw sz bs x = (0, (stepP pw).2, bs ++ packB x) := fun pw bs h hr => by
    unfold appP
    rw [if_neg (by rw [h.1]; decide), if_neg (by omega), if_neg (by rw [(lit_step h).1]; decide)]
  obtain ⟨es, la, ep, ua, ub, pw, xa, xb⟩ := s
  simp only at hua hub hl ra rb l1 l2
  subst hua
  subst hub
  cases f
  · show eachS sz x [false, true] _ = _
    unfold eachS
    simp only [app1, go pw xa hl ra]
    unfold eachS
    simp only [app1, go _ xb l1.2 rb]
    rfl
  · show eachS sz x [true, false] _ = _
    unfold eachS
    simp only [app1, go pw xb hl rb]
    unfold eachS
    simp only [app1, go _ xa l1.2 ra]
    rfl
theorem keyL_rep0 {D : Dsk} (h : D.key = 0) : ∀ n : Nat, keyL 0 (List.replicate n D) = 0
  | 0 => rfl
  | n + 1 => by
    show keyL (if D.dead = true then 0 else max 0 D.key) (List.replicate n D) = 0
    rw [h]
    have : (if D.dead = true then (0 : Int) else max 0 0) = 0 := by split <;> rfl
    rw [this]
    exact keyL_rep0 h n
theorem keyS_new (g : Geo) (pw : Pow) : keyS (newS g pw) = 0 := keyL_rep0 rfl _
theorem ready0 (g : Geo) (f : Bool) : readyA (arS0 g) f = true := by
  unfold readyA
  have : keyS (arS0 g).ss = 0 := keyS_new g pw0
  rw [this]
  cases f <;> rfl
section calls
variable {w : World} {R : Value → World → Prop}
theorem bld_sec7 (w : World) : (Instr.build 37 #[(0, .int .u8 7)]).run Tryz.prog w = .ok (.agg (secV (sec [7]))) w := bld_sec1 7 w
theorem w_awake20 (hK : ∀ w', Keep (fun _ => False) w w' → R (.bool true) w') : CallV Tryz.prog 63 #[] w R := by
  apply C_ravelinlaw20_awake
  unfold F_ravelinlaw20_awake
  refine DoQ_of (v := .agg (geoV g4)) (fun _ => run_build _ _ _ _ (by kernel_rfl)) (OpA_agg.2 ⟨rfl, ?_⟩)
  refine ar_New g4_ok (by decide) (by decide) fun q w1 hqg hqr hqs h1 hf k1 => T2_mk.2 (OpN_some.2 (OpI_int.2 ⟨rfl, rfl, (Cb_false (p := _)).2 ?_⟩))
  refine DoQ_of (fun _ => bld_sec7 _) (OpA_agg.2 ⟨rfl, ?_⟩)
  refine ⟨_, _, bsl_s1 _ w1, OpS_slice.2 ?_⟩
  have k2 : Keep (fun _ => False) w1 (w1.alloc (.cells (secV (sec [7])) 37)) := Keep.new _ _ _
  have hb2 : Has (w1.alloc (.cells (secV (sec [7])) 37)) w1.heap.size (.cells (secV (sec [7])) 37 (0, 0)) := Has.new _ _
  have o2 : OwnL secLay _ w1.heap.size 37 (some ⟨w1.heap.size, 0, none⟩) 1 1 [sec [7]] := OwnL.mk (xs := [sec [7]]) (Nat.le_refl _) hb2 (by simp [maxLen]) (by simp [Lay.rows, secLay])
  generalize w1.alloc (.cells (secV (sec [7])) 37) = w2 at *
  generalize w1.heap.size = pb at *
  refine DoQ_of (v := .agg (cmdC ⟨3, 0, 0, some ⟨pb, 0, none⟩, 1, 1, 0, 0, false⟩)) (fun _ => run_build _ _ _ _ (by kernel_rfl)) (OpA_agg.2 ⟨rfl, ?_⟩)
  have h2 := h1.keep0 k2
  have k02 := k1.trans k2
  generalize hc : (Cmd.mk 3 0 0 (some ⟨pb, 0, none⟩) 1 1 0 0 false) = c
  have hgate : (gateD (arS0 g4).d ((q.g.d - 2) * q.g.c * q.g.s) 0 c).2 = false := by rw [← hc, hqg]; rfl
  have hput : putP q.pb.room q.pb.sz (arS0 g4).ps false 0 (sec [7]) = ((1, 0), ⟨[(0, (sec [7], 1))], 1, 0, true, true, ⟨true, 0, 2⟩, packB ⟨1, 1, 0, sec [7]⟩, packB ⟨1, 1, 0, sec [7]⟩⟩) := by
    rw [hqr, hqs]
    unfold putP
    rw [if_neg (by decide), if_neg (by decide), if_neg (by decide)]
    have ha := eachP_lit (sz := 65536) (x := ⟨1, IntKind.wrap .u64 ((arS0 g4).ps.last + 1), 0, sec [7]⟩) (s := { (arS0 g4).ps with last := IntKind.wrap .u64 ((arS0 g4).ps.last + 1) }) false rfl rfl lit0 (by decide) (by decide)
    simp only [ha]
    have e1 : IntKind.wrap .u64 ((arS0 g4).ps.last + 1) = 1 := by decide
    rw [e1]
    rfl
  refine ar_DoWrite (c := c) (xs := [sec [7]]) h2 false (by rw [← hc]) (ready0 g4 false) (Or.inr ⟨rfl, rfl⟩) hgate (by rw [← hc]; exact SlT.of o2)
    (fun k s' => (k = 0 ∧ s' = arS0 g4) ∨ (k = 1 ∧ s' = { arS0 g4 with ps := (putP q.pb.room q.pb.sz (arS0 g4).ps false 0 (sec [7])).2 })) (fun _ => False) (Or.inl ⟨rfl, rfl⟩) ?_ ?_ (fun _ _ h => h.elim)
  · rintro k x s1 w3 R1 hx (⟨rfl, rfl⟩ | ⟨rfl, rfl⟩) h3 hn
    · cases hx
      have e : c.lba + ((0 : Nat) : Int) = 0 := by rw [← hc]; rfl
      rw [e]
      refine ar_put0 h3 false (Or.inr (by rw [hqr]; decide)) (fun f _ => by rw [hqs]; cases f <;> decide) fun w4 h4 k4 => ?_
      exact hn _ _ w4 h4 (k4.mono fun i e => Or.inr (Or.inr e)) (Or.inl ⟨by rw [hput], Or.inr ⟨rfl, rfl⟩⟩)
    · cases hx
  rintro s' w3 (⟨h, _⟩ | ⟨_, rfl⟩) h3 k3
  · cases h
  rw [hput] at h3
  refine OpA_agg.2 ⟨rfl, ?_⟩
  have k03 : Keep (fun _ => False) w w3 := k02.trans' k3 fun i hi e => by have := ArF.low hf e; omega
  clear hgate hput hc c h2 o2 hb2 k2 k3
  refine DoQ_of (v := .agg (cmdC ⟨2, 0, 1, none, 0, 0, 0, 0, false⟩)) (fun _ => run_build _ _ _ _ (by kernel_rfl)) (OpA_agg.2 ⟨rfl, ?_⟩)
  generalize hs3 : ({ arS0 g4 with ps := ⟨[(0, (sec [7], 1))], 1, 0, true, true, ⟨true, 0, 2⟩, packB ⟨1, 1, 0, sec [7]⟩, packB ⟨1, 1, 0, sec [7]⟩⟩ } : AS) = s3 at h3
  have hrd : readyA s3 true = true := by
    rw [← hs3]
    unfold readyA
    have : keyS (AS.ss { arS0 g4 with ps := ⟨[(0, (sec [7], 1))], 1, 0, true, true, ⟨true, 0, 2⟩, packB ⟨1, 1, 0, sec [7]⟩, packB ⟨1, 1, 0, sec [7]⟩⟩ }) = 0 := keyS_new g4 pw0
    rw [this]
    rfl
  have hra : readA q s3 0 = (sec [7], 0) := by rw [← hs3]; rfl
  refine ar_DoRead (c := ⟨2, 0, 1, none, 0, 0, 0, 0, false⟩) h3 (by rw [← hs3]; exact (newS_ok g4_ok pw0).ok) true rfl hrd (Or.inr (by rw [← hs3]; exact ⟨rfl, rfl⟩)) (by rw [← hs3, hqg]; decide) (fun k hk => ?_) fun p cc w4 h4 k4 o4 => ?_
  · have hk : (k : Int) < 1 := hk
    have e : k = 0 := by omega
    subst e
    show (readA q s3 0).2 = 0
    rw [hra]
  have k04 : Keep (fun _ => False) w w4 := k03.trans' k4 fun i hi e => by have := ArF.low hf e; omega
  have o4 : OwnL secLay w4 w3.heap.size 37 p 1 cc [(readA q s3 0).1] := o4
  rw [hra] at o4
  rw [show (Cmd.mk 2 0 1 none 0 0 0 0 false).n.toNat = 1 from rfl]
  refine OpA_agg.2 ⟨rfl, ?_⟩
  refine alc_fresh fun w5 hb5 k5 z5 => ?_
  rw [zc_rep] at hb5
  refine StA_all hb5 rfl rfl (one_repC _ _ _ _ _) ?_
  have ku := Keep.one w5 w4.heap.size (.cells (repC 1 0 p 1 cc) 34 (0, 0))
  have k06 : Keep (fun _ => False) w (w5.upd w4.heap.size (.cells (repC 1 0 p 1 cc) 34 (0, 0))) := (k04.trans k5).trans' ku fun i hi e => by have := k04.size; omega
  have h6 := (h4.keep0 k5).keepT hb5 (by decide) (by decide) (by decide) (by decide) (by decide) (by decide) (by decide) (by decide) (by decide) (by decide) (by decide) ku
  have hb6 := hb5.upd_same (.cells (repC 1 0 p 1 cc) 34 (0, 0))
  have o6 := (o4.keep k5 (by simp)).keep ku fun x hx e => by have := o4.lt hx; omega
  generalize w5.upd w4.heap.size (.cells (repC 1 0 p 1 cc) 34 (0, 0)) = w6 at *
  refine LdV_has (v := .int .i64 1) hb6 rfl (OpI_int.2 ((Cb_true (q := _)).2 ?_))
  refine LdV_has (v := .slice p 1 cc) hb6 rfl (OpS_slice.2 ((Cb_true (q := _)).2 ?_))
  refine LdV_has (v := .slice p 1 cc) hb6 rfl (OpS_slice.2 ?_)
  refine o6.ldA (x := sec [7]) rfl (by omega) rfl ?_
  have e7 : (secLay.row (sec [7])).toArray = secV (sec [7]) := by simp [secLay]
  rw [e7]
  refine DoQ_of (fun _ => bld_sec7 _) (OpA_agg.2 ⟨rfl, ?_⟩)
  have h7 : SecOk (sec [7]) := sec_ok (by simp)
  refine EqB_sec h7 h7 fun r hr => ?_
  rw [hr.2 rfl]
  refine (Cb_true (q := _)).2 (ar_Steps h6 (OpI_int.2 (Ret_nil.2 ?_)))
  rw [← hs3]
  exact hK w6 k06
/-! ### New of any form -/
theorem l_CheckN20 {g : Geo} (h : ¬ GeoOk g) (hK : ∀ w', Keep (fun _ => False) w w' → R (.int .i64 1) w') : CallV Tryz.prog 71 #[.agg (geoV g)] w R := by
  apply C_layout_Check
  unfold F_layout_Check
  refine alc_fresh fun w1 hb k1 z1 => ?_
  have fin : Ret [] (R (.int .i64 1) w1) := Ret_nil.2 (hK w1 k1)
  refine LdV_has (v := .int .i64 g.d) hb rfl (OpI_int.2 (Cb_of (fun _ => fin) fun h1 => ?_))
  refine LdV_has (v := .int .i64 g.d) hb rfl (OpI_int.2 (Cb_of (fun _ => fin) fun h2 => ?_))
  refine LdV_has (v := .int .i64 g.c) hb rfl (OpI_int.2 (Cb_of (fun _ => fin) fun h3 => ?_))
  refine LdV_has (v := .int .i64 g.c) hb rfl (OpI_int.2 (Cb_of (fun _ => fin) fun h4 => ?_))
  refine LdV_has (v := .int .i64 g.s) hb rfl (OpI_int.2 (Cb_of (fun _ => fin) fun h5 => ?_))
  refine LdV_has (v := .int .i64 g.s) hb rfl (OpI_int.2 (Cb_of (fun _ => fin) fun h6 => ?_))
  have h1 := of_decide_eq_false h1; have h2 := of_decide_eq_false h2; have h3 := of_decide_eq_false h3; have h4 := of_decide_eq_false h4; have h5 := of_decide_eq_false h5; have h6 := of_decide_eq_false h6
  exact absurd ⟨⟨by omega, by omega⟩, ⟨by omega, by omega⟩, ⟨by omega, by omega⟩⟩ h
theorem r3_CheckN20 {g : Geo} (h : ¬ GeoOk g) (hK : ∀ w', Keep (fun _ => False) w w' → R (.int .i64 1) w') : CallV Tryz.prog 64 #[.agg (geoV g)] w R := by
  apply C_ravelinref03_Check
  unfold F_ravelinref03_Check
  refine alc_fresh fun w1 hb k1 z1 => ?_
  have fin : Ret [] (R (.int .i64 1) w1) := Ret_nil.2 (hK w1 k1)
  refine LdV_has (v := .int .i64 g.d) hb rfl (OpI_int.2 (Cb_of (fun _ => fin) fun h1 => ?_))
  refine LdV_has (v := .int .i64 g.d) hb rfl (OpI_int.2 (Cb_of (fun _ => fin) fun h2 => ?_))
  refine LdV_has (v := .int .i64 g.c) hb rfl (OpI_int.2 (Cb_of (fun _ => fin) fun h3 => ?_))
  refine LdV_has (v := .int .i64 g.c) hb rfl (OpI_int.2 (Cb_of (fun _ => fin) fun h4 => ?_))
  refine LdV_has (v := .int .i64 g.s) hb rfl (OpI_int.2 (Cb_of (fun _ => fin) fun h5 => ?_))
  refine LdV_has (v := .int .i64 g.s) hb rfl (OpI_int.2 (Cb_of (fun _ => fin) fun h6 => ?_))
  have h1 := of_decide_eq_false h1; have h2 := of_decide_eq_false h2; have h3 := of_decide_eq_false h3; have h4 := of_decide_eq_false h4; have h5 := of_decide_eq_false h5; have h6 := of_decide_eq_false h6
  exact absurd ⟨⟨by omega, by omega⟩, ⟨by omega, by omega⟩, ⟨by omega, by omega⟩⟩ h
theorem ar_NewF {g : Geo} (hg : ¬ GeoOk g) {room : Int} (hK : ∀ w', Keep (fun _ => False) w w' → R (.tuple #[.pointer none, .int .i64 1]) w') : CallV Tryz.prog 13 #[.agg (geoV g), .int .i64 room] w R := by
  apply C_array_New
  unfold F_array_New
  refine alc_fresh fun w1 hb1 k1 z1 => ?_
  refine LdA_all hb1 rfl ?_
  exact l_CheckN20 hg fun w2 k2 => OpI_int.2 ((Cb_true (q := _)).2 (Ret_nil.2 (hK w2 (k1.trans k2))))
theorem ar_NewR {g : Geo} (hg : GeoOk g) {room : Int} (hr : room < 1 ∨ 64 < room) (hK : ∀ w', Keep (fun _ => False) w w' → R (.tuple #[.pointer none, .int .i64 2]) w') : CallV Tryz.prog 13 #[.agg (geoV g), .int .i64 room] w R := by
  apply C_array_New
  unfold F_array_New
  refine alc_fresh fun w1 hb1 k1 z1 => ?_
  refine LdA_all hb1 rfl ?_
  refine l_Check hg fun w2 k2 => OpI_int.2 ((Cb_false (p := _)).2 ⟨rfl, rfl, ?_⟩)
  have e : (cond (decide (room < 1)) true (decide (room > 64))) = true := by
    rcases hr with h | h
    · rw [decide_eq_true h]; rfl
    · rw [decide_eq_true (show room > 64 from h)]; cases decide (room < 1) <;> rfl
  rw [e]
  exact (Cb_true (q := _)).2 (Ret_nil.2 (hK w2 (k1.trans k2)))
theorem forms20 {g : Geo} {room : Int} (hK : ∀ w', Keep (fun _ => False) w w' → R (.bool true) w') : CallV Tryz.prog 8 #[.agg (geoV g), .int .i64 room] w R := by
  apply C_ravelinlaw20_ArrayForms
  unfold F_ravelinlaw20_ArrayForms
  refine alc_fresh fun w1 hb1 k1 z1 => ?_
  refine LdA_all hb1 rfl ?_
  by_cases hg : GeoOk g
  · by_cases hr : room < 1 ∨ 64 < room
    · refine ar_NewR hg hr fun w2 k2 => T2_mk.2 (OpP_none.2 (OpI_int.2 ?_))
      refine w_awake20 fun w3 k3 => OpB_bool.2 ((Cb_false (p := _)).2 ?_)
      have k13 := k2.trans k3
      refine LdA_all (k13.has hb1 (by simp)) rfl ?_
      refine r3_Check hg fun w4 k4 => OpI_int.2 ((Cb_false (p := _)).2 ⟨rfl, rfl, ?_⟩)
      have e : (cond (decide (room < 1)) true (decide (room > 64))) = true := by
        rcases hr with h | h
        · rw [decide_eq_true h]; rfl
        · rw [decide_eq_true (show room > 64 from h)]; cases decide (room < 1) <;> rfl
      rw [e]
      exact (Cb_true (q := _)).2 ⟨rfl, rfl, Ret_nil.2 (hK w4 (k1.trans (k13.trans k4)))⟩
    · refine ar_New hg (by omega) (by omega) fun q w2 hqg hqr hqs h2 hf k2 => T2_mk.2 (OpP_some.2 (OpI_int.2 ?_))
      refine w_awake20 fun w3 k3 => OpB_bool.2 ((Cb_false (p := _)).2 ?_)
      have k13 := k2.trans k3
      refine LdA_all (k13.has hb1 (by simp)) rfl ?_
      refine r3_Check hg fun w4 k4 => OpI_int.2 ((Cb_false (p := _)).2 ⟨rfl, rfl, ?_⟩)
      rw [decide_eq_false (show ¬ room < 1 by omega), decide_eq_false (show ¬ room > 64 by omega)]
      refine (Cb_false (p := _)).2 ?_
      have k14 := k13.trans k4
      refine LdA_all (k14.has hb1 (by simp)) rfl ?_
      refine r3_Cap hg fun w5 k5 => T2_mk.2 (OpI_int.2 (OpI_int.2 ⟨rfl, rfl, (Cb_true (q := _)).2 ?_⟩))
      have h5 := h2.keep0 ((k3.trans k4).trans k5)
      refine ar_Capacity h5 fun w6 k6 => OpI_int.2 ?_
      rw [hqg]
      have e : (((g.d - 2) * g.c * g.s) == ((g.d - 2) * g.c * g.s)) = true := by simp
      rw [e]
      refine (Cb_true (q := _)).2 ?_
      have h6 := h5.keep0 k6
      refine ar_Ready h6 false fun w7 k7 => OpB_bool.2 ?_
      rw [ready0]
      refine (Cb_true (q := _)).2 ?_
      refine ar_Ready (h6.keep0 k7) true fun w8 k8 => OpB_bool.2 ?_
      rw [ready0]
      refine (Cb_true (q := _)).2 ?_
      have h8 := (h6.keep0 k7).keep0 k8
      refine ar_On h8 (OpB_bool.2 ((Cb_true (q := _)).2 ?_))
      refine ar_Dirty h8 (OpI_int.2 ((Cb_true (q := _)).2 ?_))
      exact ar_Steps h8 (OpI_int.2 (Ret_nil.2 (hK w8 ((k1.trans (k14.trans k5)).trans ((k6.trans k7).trans k8)))))
  · refine ar_NewF hg fun w2 k2 => T2_mk.2 (OpP_none.2 (OpI_int.2 ?_))
    refine w_awake20 fun w3 k3 => OpB_bool.2 ((Cb_false (p := _)).2 ?_)
    have k13 := k2.trans k3
    refine LdA_all (k13.has hb1 (by simp)) rfl ?_
    exact r3_CheckN20 hg fun w4 k4 => OpI_int.2 ((Cb_true (q := _)).2 ⟨rfl, rfl, Ret_nil.2 (hK w4 (k1.trans (k13.trans k4)))⟩)
/-! ### a nil array -/
def repZ : Array Value := #[.int .i64 0, .int .i64 0, .int .i64 0, .int .i64 0]
theorem zc_report : zc Tryz.prog 123 = repZ := by kernel_rfl
theorem bld_report0 (w : World) : (Instr.build 123 #[]).run Tryz.prog w = .ok (.agg repZ) w := run_build _ _ _ _ (by kernel_rfl)
theorem one_repZ : ∀ v ∈ repZ.toList, oneV v = true := by
  intro v hv
  simp only [repZ, List.mem_cons, List.not_mem_nil, or_false] at hv
  rcases hv with rfl | rfl | rfl | rfl <;> rfl
theorem nl_disk (n : Int) (hK : R (.tuple #[.pointer none, .int .i64 2]) w) : CallV Tryz.prog 86 #[.pointer none, .int .i64 n] w R := by
  apply C_ANildisk
  exact Ret_nil.2 hK
theorem nil20 {n m : Int} {cs : Array Value} (hcs : cs.size = 7) (hK : ∀ w', Keep (fun _ => False) w w' → R (.bool true) w') : CallV Tryz.prog 11 #[.int .i64 n, .int .i64 m, .agg cs] w R := by
  apply C_ravelinlaw20_ArrayNil
  unfold F_ravelinlaw20_ArrayNil
  refine alc_fresh fun w1 hb1 k1 z1 => ?_
  apply C_ANilRebuild
  refine nl_disk n (T2_mk.2 (OpP_none.2 (OpI_int.2 ((Cb_true (q := _)).2 ?_))))
  refine T2_mk.2 (OpI_int.2 (OpI_int.2 ?_))
  apply C_ANilScrub
  refine alc_fresh fun w2 hb2 k2 z2 => ?_
  refine DoQ_of (fun _ => bld_report0 _) (OpA_agg.2 ⟨rfl, ?_⟩)
  rw [zc_report] at hb2
  refine StA_all hb2 rfl rfl one_repZ ?_
  have k2' : Keep (fun _ => False) w1 (w2.upd w1.heap.size (.cells repZ 123 (0, 0))) := k2.upd (fun hi => absurd hi (by omega)) _
  refine LdA_all (hb2.upd_same _) rfl ?_
  generalize w2.upd w1.heap.size (.cells repZ 123 (0, 0)) = w3 at *
  refine T2_mk.2 (OpA_agg.2 ⟨rfl, OpI_int.2 ?_⟩)
  refine copy_of (by rw [zc_report]; rfl) rfl one_repZ fun w4 hb4 k4 z4 => ?_
  have k14 := k2'.trans k4
  refine LdA_all (k14.has hb1 (by simp)) hcs ?_
  apply C_ANilDo
  refine alc_fresh fun w5 hb5 k5 z5 => ?_
  refine alc_fresh fun w6 hb6 k6 z6 => ?_
  rw [zc_rep] at hb6
  refine DoQ_of (fun _ => bld_rep0 _) (OpA_agg.2 ⟨rfl, ?_⟩)
  refine StA_all hb6 rfl rfl (one_repC _ _ _ _ _) ?_
  have k46 : Keep (fun _ => False) w4 (w6.upd w5.heap.size (.cells (repC 0 0 none 0 0) 34 (0, 0))) := (k5.trans k6).upd (fun hi => absurd hi (by omega)) _
  refine LdA_all (hb6.upd_same _) rfl ?_
  generalize w6.upd w5.heap.size (.cells (repC 0 0 none 0 0) 34 (0, 0)) = w7 at *
  refine OpA_agg.2 ⟨rfl, ?_⟩
  refine copy_of (by rw [zc_rep]; rfl) rfl (one_repC _ _ _ _ _) fun w8 hb8 k8 z8 => ?_
  have k48 := k46.trans k8
  refine w_awake20 fun w9 k9 => OpB_bool.2 ⟨rfl, rfl, rfl, rfl, rfl, rfl, (Cb_true (q := _)).2 ?_⟩
  have hb49 := (k48.trans k9).has hb4 (by simp)
  have hb9 := k9.has hb8 (by simp)
  have k09 := (k1.trans (k14.trans k48)).trans k9
  refine LdA_all hb49 rfl ?_
  refine DoQ_of (fun _ => bld_report0 _) (OpA_agg.2 ⟨rfl, ?_⟩)
  have hfit : Fits [.int .i64, .int .i64, .int .i64, .int .i64] repZ.toList := by
    have ok : CK.ok (.int .i64) (.int .i64 0) := ⟨_, rfl, by decide, by decide⟩
    exact ⟨ok, ok, ok, ok, trivial⟩
  refine EqB_flat (ks := [.int .i64, .int .i64, .int .i64, .int .i64]) (by kernel_rfl) (by kernel_rfl) (by kernel_rfl) (by kernel_rfl) (by kernel_rfl) hfit hfit fun r hr => ?_
  rw [hr.2 rfl]
  refine (Cb_true (q := _)).2 (LdV_has (v := .int .i64 0) hb9 rfl (OpI_int.2 ((Cb_true (q := _)).2 ?_)))
  refine LdV_has (v := .slice none 0 0) hb9 rfl (OpS_slice.2 ((Cb_true (q := _)).2 ?_))
  apply C_ANilFlush
  refine OpI_int.2 ((Cb_true (q := _)).2 ?_)
  apply C_ANilCrash
  refine OpI_int.2 ((Cb_true (q := _)).2 ?_)
  apply C_ANilSplit
  refine OpI_int.2 ((Cb_true (q := _)).2 ?_)
  apply C_ANilRejoin
  refine OpI_int.2 ((Cb_true (q := _)).2 ?_)
  apply C_ANilCut
  refine ⟨rfl, rfl, OpI_int.2 ((Cb_true (q := _)).2 ?_)⟩
  apply C_ANilStart
  refine OpI_int.2 ((Cb_true (q := _)).2 ?_)
  apply C_ANilFail
  refine nl_disk n (T2_mk.2 (OpP_none.2 (OpI_int.2 ((Cb_true (q := _)).2 (Ret_nil.2 (OpI_int.2 ((Cb_true (q := _)).2 ?_)))))))
  apply C_ANilReplace
  refine nl_disk n (T2_mk.2 (OpP_none.2 (OpI_int.2 ((Cb_true (q := _)).2 (Ret_nil.2 (OpI_int.2 ((Cb_true (q := _)).2 ?_)))))))
  apply C_ANilHurt
  refine nl_disk n (T2_mk.2 (OpP_none.2 (OpI_int.2 ((Cb_true (q := _)).2 (Ret_nil.2 (OpI_int.2 ((Cb_true (q := _)).2 ?_)))))))
  apply C_ANilReady
  refine Ret_nil.2 (OpB_bool.2 ((Cb_true (q := _)).2 ?_))
  apply C_ANilOn
  refine Ret_nil.2 (OpB_bool.2 ((Cb_true (q := _)).2 ?_))
  apply C_ANilDirty
  refine Ret_nil.2 (OpI_int.2 ((Cb_true (q := _)).2 ?_))
  apply C_ANilSteps
  refine Ret_nil.2 (OpI_int.2 ((Cb_true (q := _)).2 ?_))
  apply C_ANilCapacity
  exact Ret_nil.2 (OpI_int.2 (Ret_nil.2 (hK w9 k09)))
end calls
end Go.Proofs
/-
  what the lifting needs
-/
namespace Go.Proofs
open Go Go.Ev Go.RowKit
theorem geo_of20 {cs : Array Value} (h : Fits [.int .i64, .int .i64, .int .i64] cs.toList) : ∃ g, cs = geoV g := by
  have key : ∀ l : List Value, Fits [.int .i64, .int .i64, .int .i64] l → ∃ g : Geo, l = (geoV g).toList := by
    intro l h
    obtain ⟨_, _, rfl, ⟨a, rfl, _⟩, h1⟩ := fits_cons h
    obtain ⟨_, _, rfl, ⟨b, rfl, _⟩, h2⟩ := fits_cons h1
    obtain ⟨_, _, rfl, ⟨c, rfl, _⟩, h3⟩ := fits_cons h2
    cases fits_nil h3
    exact ⟨⟨a, b, c⟩, rfl⟩
  obtain ⟨g, e⟩ := key _ h
  exact ⟨g, Array.toList_inj.1 e⟩
theorem agg_sized {P : Program} {t : TypeId} {W : World} {r : Reach} {base : Nat} {v : Value} (hu : (match P.underlying t with | some (.struct _) => true | _ => false) = true) (h : Value.okWide P W r base t v) : ∃ cs, v = .agg cs ∧ cs.size = P.cellsOf t := by
  unfold Value.okWide at h
  cases e : P.underlying t with
  | none => rw [e] at hu; cases hu
  | some x => cases x with
    | struct fs => rw [e] at h; obtain ⟨cs, h1, h2, _⟩ := h; exact ⟨cs, h1, h2⟩
    | _ => rw [e] at hu; cases hu
theorem cells_cmd : Tryz.prog.cellsOf 41 = 7 := by kernel_rfl
theorem forms_walk20 {W : World} {g : Geo} {room : Int} : CallV Tryz.prog 8 #[.agg (geoV g), .int .i64 room] W fun v w' => v = .bool true ∧ Below W.heap.size W w' := forms20 fun w' k => ⟨rfl, k.below⟩
theorem nil_walk20 {W : World} {n m : Int} {cs : Array Value} (hcs : cs.size = 7) : CallV Tryz.prog 11 #[.int .i64 n, .int .i64 m, .agg cs] W fun v w' => v = .bool true ∧ Below W.heap.size W w' := nil20 hcs fun w' k => ⟨rfl, k.below⟩
end Go.Proofs
