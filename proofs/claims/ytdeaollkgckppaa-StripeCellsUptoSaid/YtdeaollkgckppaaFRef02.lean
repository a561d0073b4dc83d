/- PRINTED BY pr.py (own program): what the evaluator of <Name>Ev makes of the code of some functions. -/
import Derived.Test.YtdeaollkgckppaaChecked
import Derived.Test.YtdeaollkgckppaaEv
import Derived.Test.YtdeaollkgckppaaMix
namespace Go.Proofs
open Go.Ev
set_option linter.unusedVariables false
set_option maxRecDepth 100000
def F_ravelinref02_bit (c : Int) (b : Int) (w : World) (R : Value → World → Prop) : Prop :=
  Req (0 ≤ (1 : Int)) (Cb (ibits .and .u32 (ibits .xor .u32 c b) 1 == 1) (Ret [] (R (.int .u32 (ibits .xor .u32 (ishr .u32 c 1) 3988292384)) w)) (Ret [] (R (.int .u32 (ishr
  .u32 c 1)) w)))
theorem C_ravelinref02_bit {c : Int} {b : Int} {w : World} {R : Value → World → Prop} (h : F_ravelinref02_bit c b w R) : CallV Try.prog 109 #[.int .u32 c, .int .u32 b] w R := by
  exact calls_of_F (args := [.int .u32 c, .int .u32 b]) (mkAnn [] [] [] [] []) Try_mixed Try.func109 rfl rfl (by kernel_rfl) h
def F_ravelinref02_More (crc : Int) (datap : Option Addr) (datal : Nat) (datac : Nat) (w : World) (R : Value → World → Prop) : Prop :=
  LoopC (σ := Int × Int × Unit) (fun _ s1 w K1 => Cb (decide (s1.2.1 < ((datal : Nat) : Int))) (LoopC (σ := Int × Int × Unit) (fun _ s2 w K2 => Cb (decide (s2.2.1 < 8))
  (IdxS datap datal s1.2.1 1 fun b o => LdV b o (At w) fun v => OpI .u8 v fun n => Req (0 ≤ s2.2.1) (CallV Try.prog 109 #[.int .u32 s2.1, .int .u32 (IntKind.wrap .u32 (ibits
  .and .u8 (ishr .u8 n s2.2.1) 1))] w fun v1 w => OpI .u32 v1 fun n1 => K2 (n1, (IntKind.wrap .i64 (s2.2.1 + 1), ())) w)) (K1 (s2.1, (IntKind.wrap .i64 (s1.2.1 + 1), ()))
  w)) (s1.1, (0, ())) w) (Ret [] (R (.int .u32 (ibits .xor .u32 (cond (IntKind.signed .u32) (-1) (IntKind.max .u32)) s1.1)) w))) (ibits .xor .u32 (cond (IntKind.signed .u32)
  (-1) (IntKind.max .u32)) crc, (0, ())) w
theorem C_ravelinref02_More {crc : Int} {datap : Option Addr} {datal : Nat} {datac : Nat} {w : World} {R : Value → World → Prop} (h : F_ravelinref02_More crc datap datal datac w R) : CallV Try.prog 105 #[.int .u32 crc, .slice datap datal datac] w R := by
  exact calls_of_F (args := [.int .u32 crc, .slice datap datal datac]) (mkAnn [(3, [(5, (.int .u32)), (6, (.int .i64))]), (6, [(5, (.int .u32)), (7, (.int .i64))])] [] [] [] []) Try_mixed Try.func105 rfl rfl (by kernel_rfl) h
def F_ravelinref02_Crc (datap : Option Addr) (datal : Nat) (datac : Nat) (w : World) (R : Value → World → Prop) : Prop :=
  CallV Try.prog 105 #[.int .u32 0, .slice datap datal datac] w fun v w => OpI .u32 v fun n => Ret [] (R (.int .u32 n) w)
theorem C_ravelinref02_Crc {datap : Option Addr} {datal : Nat} {datac : Nat} {w : World} {R : Value → World → Prop} (h : F_ravelinref02_Crc datap datal datac w R) : CallV Try.prog 94 #[.slice datap datal datac] w R := by
  exact calls_of_F (args := [.slice datap datal datac]) (mkAnn [] [] [] [] []) Try_mixed Try.func94 rfl rfl (by kernel_rfl) h
def F_ravelinref02_Seal (at_ : Int) (s : Array Value) (w : World) (R : Value → World → Prop) : Prop :=
  Alc 23 s w fun b w => Alc 57 (zc Try.prog 57) w fun b1 w => DoV Try.prog (Instr.buildSlice 72 0 #[]) w fun v w => OpS v fun p l c => LoopC (σ := (Option Addr × Nat × Nat)
  × Int × Unit) (fun _ s1 w K1 => Cb (decide (s1.2.1 ≥ 0)) (Req (0 ≤ IntKind.wrap .i64 (8 * s1.2.1)) (DoV Try.prog (Instr.buildSlice 72 1 #[(0, .int .u8 (IntKind.wrap .u8
  (ishr .u64 (IntKind.wrap .u64 at_) (IntKind.wrap .i64 (8 * s1.2.1)))))]) w fun v1 w => OpS v1 fun p1 l1 c1 => DoV Try.prog (Builtin.append_ #[72, 72] 72 #[.slice s1.1.1
  s1.1.2.1 s1.1.2.2, .slice p1 l1 c1]) w fun v2 w => OpS v2 fun p2 l2 c2 => K1 ((p2, l2, c2), (IntKind.wrap .i64 (s1.2.1 - 1), ())) w)) (LoopC (σ := (Option Addr × Nat ×
  Nat) × Int × Unit) (fun _ s2 w K2 => Cb (decide (s2.2.1 < 16)) (Req (0 ≤ s2.2.1 ∧ s2.2.1 < 16) (LdV b (0 + Int.toNat s2.2.1 * 1) (At w) fun v3 => OpI .u8 v3 fun n => DoV
  Try.prog (Instr.buildSlice 72 1 #[(0, .int .u8 n)]) w fun v4 w => OpS v4 fun p3 l3 c3 => DoV Try.prog (Builtin.append_ #[72, 72] 72 #[.slice s2.1.1 s2.1.2.1 s2.1.2.2,
  .slice p3 l3 c3]) w fun v5 w => OpS v5 fun p4 l4 c4 => K2 ((p4, l4, c4), (IntKind.wrap .i64 (s2.2.1 + 1), ())) w)) (Dr1 w fun w => LdA 16 b 0 (At w) fun cs => CallS
  Try.prog 94 #[.slice s2.1.1 s2.1.2.1 s2.1.2.2] w fun v6 => OpI .u32 v6 fun n1 => DoQ Try.prog (Instr.build 57 #[(0, .agg cs), (1, .int .u32 n1)]) (At w) fun v7 => OpA 17
  v7 fun cs1 => StA 17 b1 0 cs1 w fun w => LdA 17 b1 0 (At w) fun cs2 => Ret [] (R (.agg cs2) w))) ((s1.1.1, s1.1.2.1, s1.1.2.2), (0, ())) w)) ((p, l, c), (7, ())) w
theorem C_ravelinref02_Seal {at_ : Int} {s : Array Value} {w : World} {R : Value → World → Prop} (h : F_ravelinref02_Seal at_ s w R) : CallV Try.prog 75 #[.int .i64 at_, .agg s] w R := by
  exact calls_of_F (args := [.int .i64 at_, .agg s]) (mkAnn [(3, [(5, .slice), (6, (.int .i64))]), (7, [(5, .slice), (7, (.int .i64))])] [] [] [] []) Try_mixed Try.func75 rfl rfl (by kernel_rfl) h
end Go.Proofs
