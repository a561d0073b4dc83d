/- PRINTED BY pr.py (own program): what the evaluator of <Name>Ev makes of the code of some functions. -/
import Derived.Test.YtjikegaipldnhaaChecked
import Derived.Test.YtjikegaipldnhaaEv
import Derived.Test.YtjikegaipldnhaaMix
namespace Go.Proofs
open Go.Ev
set_option linter.unusedVariables false
set_option maxRecDepth 100000
def F_ravelinref04_SameRecords (ap : Option Addr) (al : Nat) (ac : Nat) (bp : Option Addr) (bl : Nat) (bc : Nat) (w : World) (R : Value → World → Prop) : Prop :=
  Cb (((al : Nat) : Int) != ((bl : Nat) : Int)) (Ret [] (R (.bool false) w)) (LoopC (σ := Int × Unit) (fun _ s1 w K1 => Cb (decide (s1.1 < ((al : Nat) : Int))) (IdxS ap al
  s1.1 19 fun b o => LdA 19 b o (At w) fun cs => IdxS bp bl s1.1 19 fun b1 o1 => LdA 19 b1 o1 (At w) fun cs1 => EqB Try.prog .neq 46 (.tmp 20) (.tmp 24) (.agg cs : Value)
  (.agg cs1 : Value) (At w) fun g => Drw w fun w => Cb g (Ret [] (R (.bool false) w)) (K1 (IntKind.wrap .i64 (s1.1 + 1), ()) w)) (Ret [] (R (.bool true) w))) (0, ()) w)
theorem C_ravelinref04_SameRecords {ap : Option Addr} {al : Nat} {ac : Nat} {bp : Option Addr} {bl : Nat} {bc : Nat} {w : World} {R : Value → World → Prop} (h : F_ravelinref04_SameRecords ap al ac bp bl bc w R) : CallV Try.prog 25 #[.slice ap al ac, .slice bp bl bc] w R := by
  exact calls_of_F (args := [.slice ap al ac, .slice bp bl bc]) (mkAnn [(4, [(5, (.int .i64))])] [] [] [] []) Try_mixed Try.func25 rfl rfl (by kernel_rfl) h
end Go.Proofs
