/- PRINTED BY pr.py (own program): what the evaluator of <Name>Ev makes of the code of some functions. -/
import Derived.Test.YtdjlmpkjdgmkkaaChecked
import Derived.Test.YtdjlmpkjdgmkkaaEv
import Derived.Test.YtdjlmpkjdgmkkaaMix
namespace Go.Proofs
open Go.Ev
set_option linter.unusedVariables false
set_option maxRecDepth 100000
def F_history_Last (start : Array Value) (eventsp : Option Addr) (eventsl : Nat) (eventsc : Nat) (w : World) (R : Value → World → Prop) : Prop :=
  Alc 23 start w fun b w => CallV Try.prog 15 #[.slice eventsp eventsl eventsc] w fun v w => OpI .i64 v fun n => Cb (n != 0) (Ret [] (R (.tuple #[.slice none 0 0, .int .i64
  n]) w)) (LdA 16 b 0 (At w) fun cs => CallV Try.prog 46 #[.agg cs, .slice eventsp eventsl eventsc] w fun v1 w => OpS v1 fun p l c => LoopC (σ := (Option Addr × Nat × Nat) ×
  Int × Unit) (fun _ s1 w K1 => Cb (decide (s1.2.1 < ((l : Nat) : Int))) (IdxS p l s1.2.1 2 fun b1 o => LdA 2 b1 o (At w) fun cs1 => Alc 93 (zc Try.prog 93) w fun b2 w =>
  StA 2 b2 0 cs1 w fun w => LdA 16 b 0 (At w) fun cs2 => Alc 23 (zc Try.prog 23) w fun b3 w => StA 16 b3 0 cs2 w fun w => LdV b2 1 (At w) fun v2 => OpI .i64 v2 fun n1 => Cb
  (decide (n1 ≥ 0)) (LdV b2 1 (At w) fun v3 => OpI .i64 v3 fun n2 => IdxS eventsp eventsl n2 19 fun b4 o1 => LdA 16 b4 (o1 + 1) (At w) fun cs3 => StA 16 b3 0 cs3 w fun w =>
  LdA 16 b3 0 (At w) fun cs4 => CallV Try.prog 57 #[.slice s1.1.1 s1.1.2.1 s1.1.2.2, .agg cs4] w fun v4 w => OpB v4 fun g => Cb (!g) (LdA 16 b3 0 (At w) fun cs5 => DoV
  Try.prog (Instr.buildSlice 63 1 #[(0, .agg cs5)]) w fun v5 w => OpS v5 fun p1 l1 c1 => DoV Try.prog (Builtin.append_ #[63, 63] 63 #[.slice s1.1.1 s1.1.2.1 s1.1.2.2, .slice
  p1 l1 c1]) w fun v6 w => OpS v6 fun p2 l2 c2 => K1 ((p2, l2, c2), (IntKind.wrap .i64 (s1.2.1 + 1), ())) w) (K1 ((s1.1.1, s1.1.2.1, s1.1.2.2), (IntKind.wrap .i64 (s1.2.1 +
  1), ())) w)) (LdA 16 b3 0 (At w) fun cs6 => CallV Try.prog 57 #[.slice s1.1.1 s1.1.2.1 s1.1.2.2, .agg cs6] w fun v7 w => OpB v7 fun g1 => Cb (!g1) (LdA 16 b3 0 (At w) fun
  cs7 => DoV Try.prog (Instr.buildSlice 63 1 #[(0, .agg cs7)]) w fun v8 w => OpS v8 fun p3 l3 c3 => DoV Try.prog (Builtin.append_ #[63, 63] 63 #[.slice s1.1.1 s1.1.2.1
  s1.1.2.2, .slice p3 l3 c3]) w fun v9 w => OpS v9 fun p4 l4 c4 => K1 ((p4, l4, c4), (IntKind.wrap .i64 (s1.2.1 + 1), ())) w) (K1 ((s1.1.1, s1.1.2.1, s1.1.2.2),
  (IntKind.wrap .i64 (s1.2.1 + 1), ())) w))) (CallV Try.prog 58 #[.slice s1.1.1 s1.1.2.1 s1.1.2.2, .func (.func 59) #[] #[]] w fun v10 w => Ret [] (R (.tuple #[.slice s1.1.1
  s1.1.2.1 s1.1.2.2, .int .i64 0]) w))) ((none, 0, 0), (0, ())) w)
theorem C_history_Last {start : Array Value} {eventsp : Option Addr} {eventsl : Nat} {eventsc : Nat} {w : World} {R : Value → World → Prop} (h : F_history_Last start eventsp eventsl eventsc w R) : CallV Try.prog 43 #[.agg start, .slice eventsp eventsl eventsc] w R := by
  exact calls_of_F (args := [.agg start, .slice eventsp eventsl eventsc]) (mkAnn [(6, [(7, .slice), (20, (.int .i64))])] [] [] [] []) Try_mixed Try.func43 rfl rfl (by kernel_rfl) h
def F_bytes_Compare (ap : Option Addr) (al : Nat) (ac : Nat) (bp : Option Addr) (bl : Nat) (bc : Nat) (w : World) (R : Value → World → Prop) : Prop :=
  DoN Try.prog (callFunc 69 #[.slice ap al ac, .slice bp bl bc]) w fun v w => OpI .i64 v fun n => Ret [] (R (.int .i64 n) w)
theorem C_bytes_Compare {ap : Option Addr} {al : Nat} {ac : Nat} {bp : Option Addr} {bl : Nat} {bc : Nat} {w : World} {R : Value → World → Prop} (h : F_bytes_Compare ap al ac bp bl bc w R) : CallV Try.prog 60 #[.slice ap al ac, .slice bp bl bc] w R := by
  exact calls_of_F (args := [.slice ap al ac, .slice bp bl bc]) (mkAnn [] [] [] [] []) Try_mixed Try.func60 rfl rfl (by kernel_rfl) h
def F_LastCmp (a : Array Value) (b : Array Value) (w : World) (R : Value → World → Prop) : Prop :=
  Alc 23 a w fun b1 w => Alc 23 b w fun b2 w => HeldD w fun S w => Slc 16 16 none none none fun l h m => Slc 16 16 none none none fun l1 h1 m1 => CallV Try.prog 60 #[.slice
  (slcP 1 l m (some ⟨b1, 0, none⟩)) (h - l) (m - l), .slice (slcP 1 l1 m1 (some ⟨b2, 0, none⟩)) (h1 - l1) (m1 - l1)] w fun v w => OpI .i64 v fun n => Hld (S w) (Ret [] (R
  (.int .i64 n) w))
theorem C_LastCmp {a : Array Value} {b : Array Value} {w : World} {R : Value → World → Prop} (h : F_LastCmp a b w R) : CallV Try.prog 59 #[.agg a, .agg b] w R := by
  exact calls_of_F (args := [.agg a, .agg b]) (mkAnnF [] [] [] [] [7] [(7, 0)]) Try_mixed Try.func59 rfl rfl (by kernel_rfl) h
def F_slices_Contains_Sector (sp : Option Addr) (sl : Nat) (sc : Nat) (v : Array Value) (w : World) (R : Value → World → Prop) : Prop :=
  Alc 23 v w fun b w => LdA 16 b 0 (At w) fun cs => CallV Try.prog 66 #[.slice sp sl sc, .agg cs] w fun v1 w => OpI .i64 v1 fun n => Ret [] (R (.bool (decide (n ≥ 0))) w)
theorem C_slices_Contains_Sector {sp : Option Addr} {sl : Nat} {sc : Nat} {v : Array Value} {w : World} {R : Value → World → Prop} (h : F_slices_Contains_Sector sp sl sc v w R) : CallV Try.prog 57 #[.slice sp sl sc, .agg v] w R := by
  exact calls_of_F (args := [.slice sp sl sc, .agg v]) (mkAnn [] [] [] [] []) Try_mixed Try.func57 rfl rfl (by kernel_rfl) h
def F_slices_Index_Sector (sp : Option Addr) (sl : Nat) (sc : Nat) (v : Array Value) (w : World) (R : Value → World → Prop) : Prop :=
  Alc 23 v w fun b w => LoopC (σ := Int × Unit) (fun _ s1 w K1 => Cb (decide (s1.1 < ((sl : Nat) : Int))) (LdA 16 b 0 (At w) fun cs => IdxS sp sl s1.1 16 fun b1 o => LdA 16
  b1 o (At w) fun cs1 => EqB Try.prog .eql 23 (.tmp 11) (.tmp 15) (.agg cs : Value) (.agg cs1 : Value) (At w) fun g => Drw w fun w => Cb g (Ret [] (R (.int .i64 s1.1) w))
  (K1 (IntKind.wrap .i64 (s1.1 + 1), ()) w)) (Ret [] (R (.int .i64 (-1)) w))) (0, ()) w
theorem C_slices_Index_Sector {sp : Option Addr} {sl : Nat} {sc : Nat} {v : Array Value} {w : World} {R : Value → World → Prop} (h : F_slices_Index_Sector sp sl sc v w R) : CallV Try.prog 66 #[.slice sp sl sc, .agg v] w R := by
  exact calls_of_F (args := [.slice sp sl sc, .agg v]) (mkAnn [(2, [(8, (.int .i64))])] [] [] [] []) Try_mixed Try.func66 rfl rfl (by kernel_rfl) h
end Go.Proofs
