/- PRINTED BY pr.py (own program): what the evaluator of <Name>Ev makes of the code of some functions. -/
import Derived.Test.YthhimblbnnafkaaGreatChecked
import Derived.Test.YthhimblbnnafkaaGreatEv
import Derived.Test.YthhimblbnnafkaaGreatMix
namespace Go.Proofs
open Go.Ev
set_option linter.unusedVariables false
set_option maxRecDepth 100000
def F_sum_step (c : Int) (w : World) (R : Value → World → Prop) : Prop :=
  LoopC (σ := Int × Int × Unit) (fun _ s1 w K1 => Cb (decide (s1.2.1 < 8)) (Cb (ibits .and .u32 s1.1 1 == 1) (Req (0 ≤ (1 : Int)) (K1 (ibits .xor .u32 (ishr .u32 s1.1 1)
  3988292384, (IntKind.wrap .i64 (s1.2.1 + 1), ())) w)) (Req (0 ≤ (1 : Int)) (K1 (ishr .u32 s1.1 1, (IntKind.wrap .i64 (s1.2.1 + 1), ())) w))) (Ret [] (R (.int .u32 s1.1)
  w))) (c, (0, ())) w
theorem C_sum_step {c : Int} {w : World} {R : Value → World → Prop} (h : F_sum_step c w R) : CallV Tryz.prog 271 #[.int .u32 c] w R := by
  exact calls_of_F (args := [.int .u32 c]) (mkAnn [(2, [(0, (.int .u32)), (3, (.int .i64))])] [] [] [] []) Tryz_mixed Tryz.func271 rfl rfl (by kernel_rfl) h
def F_sum_More (crc : Int) (datap : Option Addr) (datal : Nat) (datac : Nat) (w : World) (R : Value → World → Prop) : Prop :=
  LoopC (σ := Int × Int × Unit) (fun _ s1 w K1 => Cb (decide (s1.2.1 < ((datal : Nat) : Int))) (IdxS datap datal s1.2.1 1 fun b o => LdV b o (At w) fun v => OpI .u8 v fun n
  => CallV Tryz.prog 271 #[.int .u32 (ibits .xor .u32 s1.1 (IntKind.wrap .u32 n))] w fun v1 w => OpI .u32 v1 fun n1 => K1 (n1, (IntKind.wrap .i64 (s1.2.1 + 1), ())) w) (Ret
  [] (R (.int .u32 (ibits .xor .u32 (cond (IntKind.signed .u32) (-1) (IntKind.max .u32)) s1.1)) w))) (ibits .xor .u32 (cond (IntKind.signed .u32) (-1) (IntKind.max .u32))
  crc, (0, ())) w
theorem C_sum_More {crc : Int} {datap : Option Addr} {datal : Nat} {datac : Nat} {w : World} {R : Value → World → Prop} (h : F_sum_More crc datap datal datac w R) : CallV Tryz.prog 245 #[.int .u32 crc, .slice datap datal datac] w R := by
  exact calls_of_F (args := [.int .u32 crc, .slice datap datal datac]) (mkAnn [(3, [(5, (.int .u32)), (12, (.int .i64))])] [] [] [] []) Tryz_mixed Tryz.func245 rfl rfl (by kernel_rfl) h
def F_sum_Crc (datap : Option Addr) (datal : Nat) (datac : Nat) (w : World) (R : Value → World → Prop) : Prop :=
  CallV Tryz.prog 245 #[.int .u32 0, .slice datap datal datac] w fun v w => OpI .u32 v fun n => Ret [] (R (.int .u32 n) w)
theorem C_sum_Crc {datap : Option Addr} {datal : Nat} {datac : Nat} {w : World} {R : Value → World → Prop} (h : F_sum_Crc datap datal datac w R) : CallV Tryz.prog 193 #[.slice datap datal datac] w R := by
  exact calls_of_F (args := [.slice datap datal datac]) (mkAnn [] [] [] [] []) Tryz_mixed Tryz.func193 rfl rfl (by kernel_rfl) h
def F_sum_Seal (at_ : Int) (s : Array Value) (w : World) (R : Value → World → Prop) : Prop :=
  Alc 37 s w fun b w => Alc 86 (zc Tryz.prog 86) w fun b1 w => Alc 285 (zc Tryz.prog 285) w fun b2 w => LoopC (σ := Int × Unit) (fun _ s1 w K1 => Cb (decide (s1.1 < 8)) (Req
  (0 ≤ IntKind.wrap .i64 (56 - (IntKind.wrap .i64 (8 * s1.1)))) (Req (0 ≤ s1.1 ∧ s1.1 < 24) (StV b2 (0 + Int.toNat s1.1 * 1) (.int .u8 (IntKind.wrap .u8 (ishr .i64 at_
  (IntKind.wrap .i64 (56 - (IntKind.wrap .i64 (8 * s1.1))))))) w fun w => K1 (IntKind.wrap .i64 (s1.1 + 1), ()) w))) (Dr1 w fun w => Slc 24 24 (some 8) none none fun l h m
  => Slc 16 16 none none none fun l1 h1 m1 => DoV Tryz.prog (Builtin.copy_ #[22, 22] 3 #[.slice (slcP 1 l m (some ⟨b2, 0, none⟩)) (h - l) (m - l), .slice (slcP 1 l1 m1 (some
  ⟨b, 0, none⟩)) (h1 - l1) (m1 - l1)]) w fun v w => OpI .i64 v fun n => Dr1 w fun w => LdA 16 b 0 (At w) fun cs => Slc 24 24 none none none fun l2 h2 m2 => CallS Tryz.prog
  193 #[.slice (slcP 1 l2 m2 (some ⟨b2, 0, none⟩)) (h2 - l2) (m2 - l2)] w fun v1 => OpI .u32 v1 fun n1 => DoQ Tryz.prog (Instr.build 86 #[(0, .agg cs), (1, .int .u32 n1)])
  (At w) fun v2 => OpA 17 v2 fun cs1 => StA 17 b1 0 cs1 w fun w => LdA 17 b1 0 (At w) fun cs2 => Ret [] (R (.agg cs2) w))) (0, ()) w
theorem C_sum_Seal {at_ : Int} {s : Array Value} {w : World} {R : Value → World → Prop} (h : F_sum_Seal at_ s w R) : CallV Tryz.prog 116 #[.int .i64 at_, .agg s] w R := by
  exact calls_of_F (args := [.int .i64 at_, .agg s]) (mkAnn [(3, [(7, (.int .i64))])] [] [] [] []) Tryz_mixed Tryz.func116 rfl rfl (by kernel_rfl) h
def F_sum_Good (at_ : Int) (c : Array Value) (w : World) (R : Value → World → Prop) : Prop :=
  Alc 86 c w fun b w => HeldR w fun S w => LdA 16 b 0 (At w) fun cs => LdA 17 b 0 S fun cs1 => CallV Tryz.prog 116 #[.int .i64 at_, .agg cs] w fun v w => OpA 17 v fun cs2 =>
  Hld (S w) (EqB Tryz.prog .eql 86 (.tmp 8) (.tmp 9) (.agg cs2 : Value) (.agg cs1 : Value) (At w) fun g => Ret [] (R (.bool g) w))
theorem C_sum_Good {at_ : Int} {c : Array Value} {w : World} {R : Value → World → Prop} (h : F_sum_Good at_ c w R) : CallV Tryz.prog 176 #[.int .i64 at_, .agg c] w R := by
  exact calls_of_F (args := [.int .i64 at_, .agg c]) (mkAnn [] [] [] [] [8]) Tryz_mixed Tryz.func176 rfl rfl (by kernel_rfl) h
end Go.Proofs
