/- PRINTED BY pr.py (own program): what the evaluator of <Name>Ev makes of the code of some functions. -/
import Derived.Test.YtacnieopbkeoiaaChecked
import Derived.Test.YtacnieopbkeoiaaEv
import Derived.Test.YtacnieopbkeoiaaMix
namespace Go.Proofs
open Go.Ev
set_option linter.unusedVariables false
set_option maxRecDepth 100000
def F_Valid1 (x : Array Value) (fb : Nat) (w : World) (R : Value → World → Prop) : Prop :=
  Alc 42 x w fun b w => LdV b 0 (At w) fun v => OpI .i64 v fun n => Cb (n == 6) (LdV b 1 (At w) fun v1 => OpI .u64 v1 fun n1 => LdV fb 0 (At w) fun v2 => OpI .u32 v2 fun n2
  => Ret [] (R (.bool (n1 == (IntKind.wrap .u64 n2))) w)) (Ret [] (R (.bool false) w))
theorem C_Valid1 {x : Array Value} {fb : Nat} {w : World} {R : Value → World → Prop} (h : F_Valid1 x fb w R) : CallV Try.prog 48 #[.agg x, .pointer (some ⟨fb, 0, none⟩)] w R := by
  exact calls_of_F (args := [.agg x, .pointer (some ⟨fb, 0, none⟩)]) (mkAnn [] [] [] [] []) Try_mixed Try.func48 rfl rfl (by kernel_rfl) h
def F_ContV (sp : Option Addr) (sl : Nat) (sc : Nat) (fb : Nat) (w : World) (R : Value → World → Prop) : Prop :=
  CallV Try.prog 54 #[.slice sp sl sc, .func (.func 48) #[] #[.pointer (some ⟨fb, 0, none⟩)]] w fun v w => OpI .i64 v fun n => Ret [] (R (.bool (decide (n ≥ 0))) w)
theorem C_ContV {sp : Option Addr} {sl : Nat} {sc : Nat} {fb : Nat} {w : World} {R : Value → World → Prop} (h : F_ContV sp sl sc fb w R) : CallV Try.prog 47 #[.slice sp sl sc, .func (.func 48) #[] #[.pointer (some ⟨fb, 0, none⟩)]] w R := by
  exact calls_of_F (args := [.slice sp sl sc, .func (.func 48) #[] #[.pointer (some ⟨fb, 0, none⟩)]]) (mkAnn [] [] [] [] []) Try_mixed Try.func47 rfl rfl (by kernel_rfl) h
def F_IdxV (sp : Option Addr) (sl : Nat) (sc : Nat) (fb : Nat) (w : World) (R : Value → World → Prop) : Prop :=
  LoopC (σ := Int × Unit) (fun _ s1 w K1 => Cb (decide (s1.1 < ((sl : Nat) : Int))) (IdxS sp sl s1.1 19 fun b o => LdA 19 b o (At w) fun cs => CallV Try.prog 48 #[.agg cs,
  .pointer (some ⟨fb, 0, none⟩)] w fun v w => OpB v fun g => Cb g (Ret [] (R (.int .i64 s1.1) w)) (K1 (IntKind.wrap .i64 (s1.1 + 1), ()) w)) (Ret [] (R (.int .i64 (-1)) w)))
  (0, ()) w
theorem C_IdxV {sp : Option Addr} {sl : Nat} {sc : Nat} {fb : Nat} {w : World} {R : Value → World → Prop} (h : F_IdxV sp sl sc fb w R) : CallV Try.prog 54 #[.slice sp sl sc, .func (.func 48) #[] #[.pointer (some ⟨fb, 0, none⟩)]] w R := by
  exact calls_of_F (args := [.slice sp sl sc, .func (.func 48) #[] #[.pointer (some ⟨fb, 0, none⟩)]]) (mkAnn [(2, [(8, (.int .i64))])] [] [] [] []) Try_mixed Try.func54 rfl rfl (by kernel_rfl) h
def F_merge_Valid (listp : Option Addr) (listl : Nat) (listc : Nat) (epoch : Int) (w : World) (R : Value → World → Prop) : Prop :=
  Alc 50 #[.int .u32 epoch] w fun b w => LdV b 0 (At w) fun v => OpI .u32 v fun n => Cb (n == 0) (Ret [] (R (.bool true) w)) (CallV Try.prog 47 #[.slice listp listl listc,
  .func (.func 48) #[] #[.pointer (some ⟨b, 0, none⟩)]] w fun v1 w => OpB v1 fun g => Ret [] (R (.bool g) w))
theorem C_merge_Valid {listp : Option Addr} {listl : Nat} {listc : Nat} {epoch : Int} {w : World} {R : Value → World → Prop} (h : F_merge_Valid listp listl listc epoch w R) : CallV Try.prog 34 #[.slice listp listl listc, .int .u32 epoch] w R := by
  exact calls_of_F (args := [.slice listp listl listc, .int .u32 epoch]) (mkAnn [] [] [] [] []) Try_mixed Try.func34 rfl rfl (by kernel_rfl) h
def F_ravelinref13_After (epoch : Int) (side : Int) (w : World) (R : Value → World → Prop) : Prop :=
  Req ((side != 0) = (side != 0)) (Req ((side != 0) = (side != 0)) (Cb (cond (side != 0) (side != 1) false) (Ret [] (R (.tuple #[.int .u32 0, .int .i64 2]) w)) (LoopC (σ :=
  Int × Unit) (fun _ s1 w K1 => Cb (decide (s1.1 ≤ 2)) (Req ((2 : Int) ≠ 0) (Req ((Int.tmod (IntKind.wrap .u64 ((IntKind.wrap .u64 epoch) + s1.1)) 2 == (IntKind.wrap .u64
  side)) = (Int.tmod (IntKind.wrap .u64 ((IntKind.wrap .u64 epoch) + s1.1)) 2 == (IntKind.wrap .u64 side))) (Req ((Int.tmod (IntKind.wrap .u64 ((IntKind.wrap .u64 epoch) +
  s1.1)) 2 == (IntKind.wrap .u64 side)) = (Int.tmod (IntKind.wrap .u64 ((IntKind.wrap .u64 epoch) + s1.1)) 2 == (IntKind.wrap .u64 side))) (Cb (cond (Int.tmod (IntKind.wrap
  .u64 ((IntKind.wrap .u64 epoch) + s1.1)) 2 == (IntKind.wrap .u64 side)) (decide (IntKind.wrap .u64 ((IntKind.wrap .u64 epoch) + s1.1) ≤ 4294967295)) false) (Ret [] (R
  (.tuple #[.int .u32 (IntKind.wrap .u32 (IntKind.wrap .u64 ((IntKind.wrap .u64 epoch) + s1.1))), .int .i64 0]) w)) (K1 (IntKind.wrap .u64 (s1.1 + 1), ()) w))))) (Ret [] (R
  (.tuple #[.int .u32 0, .int .i64 14]) w))) (1, ()) w)))
theorem C_ravelinref13_After {epoch : Int} {side : Int} {w : World} {R : Value → World → Prop} (h : F_ravelinref13_After epoch side w R) : CallV Try.prog 33 #[.int .u32 epoch, .int .i64 side] w R := by
  exact calls_of_F (args := [.int .u32 epoch, .int .i64 side]) (mkAnn [(4, [(6, (.int .u64))])] [] [] [] []) Try_mixed Try.func33 rfl rfl (by kernel_rfl) h
def F_ravelinref13_Valid (listp : Option Addr) (listl : Nat) (listc : Nat) (epoch : Int) (w : World) (R : Value → World → Prop) : Prop :=
  LoopC (σ := Int × Unit) (fun _ s1 w K1 => Cb (decide (s1.1 < ((listl : Nat) : Int))) (IdxS listp listl s1.1 19 fun b o => LdV b o (At w) fun v => OpI .i64 v fun n => Cb (n
  == 6) (IdxS listp listl s1.1 19 fun b1 o1 => LdV b1 (o1 + 1) (At w) fun v1 => OpI .u64 v1 fun n1 => Cb (n1 == (IntKind.wrap .u64 epoch)) (Ret [] (R (.bool true) w)) (K1
  (IntKind.wrap .i64 (s1.1 + 1), ()) w)) (K1 (IntKind.wrap .i64 (s1.1 + 1), ()) w)) (Ret [] (R (.bool (epoch == 0)) w))) (0, ()) w
theorem C_ravelinref13_Valid {listp : Option Addr} {listl : Nat} {listc : Nat} {epoch : Int} {w : World} {R : Value → World → Prop} (h : F_ravelinref13_Valid listp listl listc epoch w R) : CallV Try.prog 35 #[.slice listp listl listc, .int .u32 epoch] w R := by
  exact calls_of_F (args := [.slice listp listl listc, .int .u32 epoch]) (mkAnn [(2, [(5, (.int .i64))])] [] [] [] []) Try_mixed Try.func35 rfl rfl (by kernel_rfl) h
def F_ravelinlaw13_MergeEpochs (listp : Option Addr) (listl : Nat) (listc : Nat) (epoch : Int) (side : Int) (w : World) (R : Value → World → Prop) : Prop :=
  CallV Try.prog 26 #[.int .u32 epoch, .int .i64 side] w fun v w => T2 v fun v1 v2 => OpI .u32 v1 fun n => OpI .i64 v2 fun n1 => CallV Try.prog 33 #[.int .u32 epoch, .int
  .i64 side] w fun v3 w => T2 v3 fun v4 v5 => OpI .u32 v4 fun n2 => OpI .i64 v5 fun n3 => CallV Try.prog 18 #[] w fun v6 w => OpB v6 fun g => Cb g (CallV Try.prog 34
  #[.slice listp listl listc, .int .u32 epoch] w fun v7 w => OpB v7 fun g1 => CallV Try.prog 35 #[.slice listp listl listc, .int .u32 epoch] w fun v8 w => OpB v8 fun g2 =>
  Req ((g1 == g2) = (g1 == g2)) (Req ((g1 == g2) = (g1 == g2)) (Req ((g1 == g2) = (g1 == g2)) (Req ((cond (g1 == g2) (n == n2) false) = (cond (g1 == g2) (n == n2) false))
  (Req ((cond (g1 == g2) (n == n2) false) = (cond (g1 == g2) (n == n2) false)) (Req ((cond (g1 == g2) (n == n2) false) = (cond (g1 == g2) (n == n2) false)) (Ret [] (R (.bool
  (cond (cond (g1 == g2) (n == n2) false) (n1 == n3) false)) w)))))))) (Req (false = false) (Req (false = false) (Req (false = false) (Req (false = false) (Req (false =
  false) (Req (false = false) (Ret [] (R (.bool false) w))))))))
theorem C_ravelinlaw13_MergeEpochs {listp : Option Addr} {listl : Nat} {listc : Nat} {epoch : Int} {side : Int} {w : World} {R : Value → World → Prop} (h : F_ravelinlaw13_MergeEpochs listp listl listc epoch side w R) : CallV Try.prog 11 #[.slice listp listl listc, .int .u32 epoch, .int .i64 side] w R := by
  exact calls_of_F (args := [.slice listp listl listc, .int .u32 epoch, .int .i64 side]) (mkAnn [] [] [] [] []) Try_mixed Try.func11 rfl rfl (by kernel_rfl) h
end Go.Proofs
