/- PRINTED BY pr.py (own program): what the evaluator of <Name>Ev makes of the code of some functions. -/
import Derived.Test.YtacnieopbkeoiaaChecked
import Derived.Test.YtacnieopbkeoiaaEv
import Derived.Test.YtacnieopbkeoiaaMix
namespace Go.Proofs
open Go.Ev
set_option linter.unusedVariables false
set_option maxRecDepth 100000
def F_ravelinref11_Sorted (listp : Option Addr) (listl : Nat) (listc : Nat) (w : World) (R : Value → World → Prop) : Prop :=
  DoV Try.prog (Instr.buildSlice 37 0 #[]) w fun v w => OpS v fun p l c => DoV Try.prog (Builtin.append_ #[37, 37] 37 #[.slice p l c, .slice listp listl listc]) w fun v1 w
  => OpS v1 fun p1 l1 c1 => LoopC (σ := Int × Unit) (fun _ s1 w K1 => Cb (decide (s1.1 < ((l1 : Nat) : Int))) (LoopC (σ := Int × Unit) (fun _ s2 w K2 => Cb (decide (s2.1 >
  0)) (IdxS p1 l1 s2.1 19 fun b o => LdV b (o + 1) (At w) fun v2 => OpI .u64 v2 fun n => IdxS p1 l1 (IntKind.wrap .i64 (s2.1 - 1)) 19 fun b1 o1 => LdV b1 (o1 + 1) (At w) fun
  v3 => OpI .u64 v3 fun n1 => Cb (decide (n < n1)) (Drw w fun w => HeldR w fun S w => IdxS p1 l1 (IntKind.wrap .i64 (s2.1 - 1)) 19 fun b2 o2 => LdA 19 b2 o2 (At w) fun cs =>
  IdxS p1 l1 s2.1 19 fun b3 o3 => LdA 19 b3 o3 (At w) fun cs1 => IdxS p1 l1 s2.1 19 fun b4 o4 => StA 19 b4 o4 cs w fun w => Hld (S w) (IdxS p1 l1 (IntKind.wrap .i64 (s2.1 -
  1)) 19 fun b5 o5 => StA 19 b5 o5 cs1 w fun w => Hld (S w) (K2 (IntKind.wrap .i64 (s2.1 - 1), ()) w))) (IdxS p1 l1 s2.1 19 fun b6 o6 => LdV b6 (o6 + 1) (At w) fun v4 => OpI
  .u64 v4 fun n2 => IdxS p1 l1 (IntKind.wrap .i64 (s2.1 - 1)) 19 fun b7 o7 => LdV b7 (o7 + 1) (At w) fun v5 => OpI .u64 v5 fun n3 => Cb (n2 == n3) (IdxS p1 l1 s2.1 19 fun b8
  o8 => LdV b8 (o8 + 2) (At w) fun v6 => OpI .i64 v6 fun n4 => IdxS p1 l1 (IntKind.wrap .i64 (s2.1 - 1)) 19 fun b9 o9 => LdV b9 (o9 + 2) (At w) fun v7 => OpI .i64 v7 fun n5
  => Drw w fun w => Cb (decide (n4 < n5)) (HeldR w fun S w => IdxS p1 l1 (IntKind.wrap .i64 (s2.1 - 1)) 19 fun b10 o10 => LdA 19 b10 o10 (At w) fun cs2 => IdxS p1 l1 s2.1 19
  fun b11 o11 => LdA 19 b11 o11 (At w) fun cs3 => IdxS p1 l1 s2.1 19 fun b12 o12 => StA 19 b12 o12 cs2 w fun w => Hld (S w) (IdxS p1 l1 (IntKind.wrap .i64 (s2.1 - 1)) 19 fun
  b13 o13 => StA 19 b13 o13 cs3 w fun w => Hld (S w) (K2 (IntKind.wrap .i64 (s2.1 - 1), ()) w))) (K1 (IntKind.wrap .i64 (s1.1 + 1), ()) w)) (Drw w fun w => K1 (IntKind.wrap
  .i64 (s1.1 + 1), ()) w))) (Drw w fun w => K1 (IntKind.wrap .i64 (s1.1 + 1), ()) w)) (s1.1, ()) w) (Ret [] (R (.slice p1 l1 c1) w))) (1, ()) w
theorem C_ravelinref11_Sorted {listp : Option Addr} {listl : Nat} {listc : Nat} {w : World} {R : Value → World → Prop} (h : F_ravelinref11_Sorted listp listl listc w R) : CallV Try.prog 43 #[.slice listp listl listc] w R := by
  exact calls_of_F (args := [.slice listp listl listc]) (mkAnn [(3, [(4, (.int .i64))]), (6, [(5, (.int .i64))])] [] [] [] []) Try_mixed Try.func43 rfl rfl (by kernel_rfl) h
end Go.Proofs
