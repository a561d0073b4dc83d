/- PRINTED BY pr.py (own program): what the evaluator of <Name>Ev makes of the code of some functions. -/
import Derived.Test.YtdjlmpkjdgmkkaaChecked
import Derived.Test.YtdjlmpkjdgmkkaaEv
import Derived.Test.YtdjlmpkjdgmkkaaMix
namespace Go.Proofs
open Go.Ev
set_option linter.unusedVariables false
set_option maxRecDepth 100000
def F_ravelinref09_SameSectors (ap : Option Addr) (al : Nat) (ac : Nat) (bp : Option Addr) (bl : Nat) (bc : Nat) (w : World) (R : Value → World → Prop) : Prop :=
  Cb (((al : Nat) : Int) != ((bl : Nat) : Int)) (Ret [] (R (.bool false) w)) (LoopC (σ := Int × Unit) (fun _ s1 w K1 => Cb (decide (s1.1 < ((al : Nat) : Int))) (IdxS ap al
  s1.1 16 fun b o => LdA 16 b o (At w) fun cs => IdxS bp bl s1.1 16 fun b1 o1 => LdA 16 b1 o1 (At w) fun cs1 => EqB Try.prog .neq 23 (.tmp 20) (.tmp 24) (.agg cs : Value)
  (.agg cs1 : Value) (At w) fun g => Drw w fun w => Cb g (Ret [] (R (.bool false) w)) (K1 (IntKind.wrap .i64 (s1.1 + 1), ()) w)) (Ret [] (R (.bool true) w))) (0, ()) w)
theorem C_ravelinref09_SameSectors {ap : Option Addr} {al : Nat} {ac : Nat} {bp : Option Addr} {bl : Nat} {bc : Nat} {w : World} {R : Value → World → Prop} (h : F_ravelinref09_SameSectors ap al ac bp bl bc w R) : CallV Try.prog 45 #[.slice ap al ac, .slice bp bl bc] w R := by
  exact calls_of_F (args := [.slice ap al ac, .slice bp bl bc]) (mkAnn [(4, [(5, (.int .i64))])] [] [] [] []) Try_mixed Try.func45 rfl rfl (by kernel_rfl) h
def F_ravelinlaw21_HistoryLasts (start : Array Value) (eventsp : Option Addr) (eventsl : Nat) (eventsc : Nat) (w : World) (R : Value → World → Prop) : Prop :=
  Alc 23 start w fun b w => LdA 16 b 0 (At w) fun cs => CallV Try.prog 43 #[.agg cs, .slice eventsp eventsl eventsc] w fun v w => T2 v fun v1 v2 => OpS v1 fun p l c => OpI
  .i64 v2 fun n => LdA 16 b 0 (At w) fun cs1 => CallV Try.prog 44 #[.agg cs1, .slice eventsp eventsl eventsc] w fun v3 w => T2 v3 fun v4 v5 => OpS v4 fun p1 l1 c1 => OpI
  .i64 v5 fun n1 => CallV Try.prog 14 #[] w fun v6 w => OpB v6 fun g => Cb g (CallV Try.prog 45 #[.slice p l c, .slice p1 l1 c1] w fun v7 w => OpB v7 fun g1 => Req (g1 = g1)
  (Req (g1 = g1) (Req (g1 = g1) (Ret [] (R (.bool (cond g1 (n == n1) false)) w))))) (Req (false = false) (Req (false = false) (Req (false = false) (Ret [] (R (.bool false)
  w)))))
theorem C_ravelinlaw21_HistoryLasts {start : Array Value} {eventsp : Option Addr} {eventsl : Nat} {eventsc : Nat} {w : World} {R : Value → World → Prop} (h : F_ravelinlaw21_HistoryLasts start eventsp eventsl eventsc w R) : CallV Try.prog 8 #[.agg start, .slice eventsp eventsl eventsc] w R := by
  exact calls_of_F (args := [.agg start, .slice eventsp eventsl eventsc]) (mkAnn [] [] [] [] []) Try_mixed Try.func8 rfl rfl (by kernel_rfl) h
end Go.Proofs
