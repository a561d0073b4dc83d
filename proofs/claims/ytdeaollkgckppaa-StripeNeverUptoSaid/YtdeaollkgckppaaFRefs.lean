/- PRINTED BY pr.py (own program): what the evaluator of <Name>Ev makes of the code of some functions. -/
import Derived.Test.YtdeaollkgckppaaChecked
import Derived.Test.YtdeaollkgckppaaEv
import Derived.Test.YtdeaollkgckppaaMix
namespace Go.Proofs
open Go.Ev
set_option linter.unusedVariables false
set_option maxRecDepth 100000
def F_ravelinref03_Check (g : Array Value) (w : World) (R : Value → World → Prop) : Prop :=
  Alc 25 g w fun b w => LdV b 0 (At w) fun v => OpI .i64 v fun n => Cb (decide (n < 4)) (Ret [] (R (.int .i64 1) w)) (LdV b 0 (At w) fun v1 => OpI .i64 v1 fun n1 => Cb
  (decide (n1 > 32)) (Ret [] (R (.int .i64 1) w)) (LdV b 1 (At w) fun v2 => OpI .i64 v2 fun n2 => Cb (decide (n2 < 1)) (Ret [] (R (.int .i64 1) w)) (LdV b 1 (At w) fun v3 =>
  OpI .i64 v3 fun n3 => Cb (decide (n3 > 8)) (Ret [] (R (.int .i64 1) w)) (LdV b 2 (At w) fun v4 => OpI .i64 v4 fun n4 => Cb (decide (n4 < 1)) (Ret [] (R (.int .i64 1) w))
  (LdV b 2 (At w) fun v5 => OpI .i64 v5 fun n5 => Cb (decide (n5 > 64)) (Ret [] (R (.int .i64 1) w)) (Ret [] (R (.int .i64 0) w)))))))
theorem C_ravelinref03_Check {g : Array Value} {w : World} {R : Value → World → Prop} (h : F_ravelinref03_Check g w R) : CallV Try.prog 32 #[.agg g] w R := by
  exact calls_of_F (args := [.agg g]) (mkAnn [] [] [] [] []) Try_mixed Try.func32 rfl rfl (by kernel_rfl) h
def F_ravelinref03_Size (g : Array Value) (w : World) (R : Value → World → Prop) : Prop :=
  Alc 25 g w fun b w => LdA 3 b 0 (At w) fun cs => CallV Try.prog 32 #[.agg cs] w fun v w => OpI .i64 v fun n => Cb (n != 0) (Ret [] (R (.tuple #[.int .i64 0, .int .i64 1])
  w)) (LdV b 1 (At w) fun v1 => OpI .i64 v1 fun n1 => LdV b 2 (At w) fun v2 => OpI .i64 v2 fun n2 => Ret [] (R (.tuple #[.int .i64 (IntKind.wrap .i64 (n1 * n2)), .int .i64
  0]) w))
theorem C_ravelinref03_Size {g : Array Value} {w : World} {R : Value → World → Prop} (h : F_ravelinref03_Size g w R) : CallV Try.prog 54 #[.agg g] w R := by
  exact calls_of_F (args := [.agg g]) (mkAnn [] [] [] [] []) Try_mixed Try.func54 rfl rfl (by kernel_rfl) h
def F_ravelinref03_Capacity (g : Array Value) (w : World) (R : Value → World → Prop) : Prop :=
  Alc 25 g w fun b w => LdA 3 b 0 (At w) fun cs => CallV Try.prog 32 #[.agg cs] w fun v w => OpI .i64 v fun n => Cb (n != 0) (Ret [] (R (.tuple #[.int .i64 0, .int .i64 1])
  w)) (LdV b 0 (At w) fun v1 => OpI .i64 v1 fun n1 => LdV b 1 (At w) fun v2 => OpI .i64 v2 fun n2 => LdV b 2 (At w) fun v3 => OpI .i64 v3 fun n3 => Ret [] (R (.tuple #[.int
  .i64 (IntKind.wrap .i64 ((IntKind.wrap .i64 ((IntKind.wrap .i64 (n1 - 2)) * n2)) * n3)), .int .i64 0]) w))
theorem C_ravelinref03_Capacity {g : Array Value} {w : World} {R : Value → World → Prop} (h : F_ravelinref03_Capacity g w R) : CallV Try.prog 15 #[.agg g] w R := by
  exact calls_of_F (args := [.agg g]) (mkAnn [] [] [] [] []) Try_mixed Try.func15 rfl rfl (by kernel_rfl) h
def F_ravelinref03_Column (g : Array Value) (stripe : Int) (col : Int) (w : World) (R : Value → World → Prop) : Prop :=
  Alc 25 g w fun b w => LdV b 0 (At w) fun v => OpI .i64 v fun n => LdV b 0 (At w) fun v1 => OpI .i64 v1 fun n1 => Req (n1 ≠ 0) (Drw w fun w => LdV b 0 (At w) fun v2 => OpI
  .i64 v2 fun n2 => Cb (col == (IntKind.wrap .i64 (n2 - 2))) (Ret [] (R (.int .i64 (IntKind.wrap .i64 ((IntKind.wrap .i64 (n - 1)) - (Int.tmod stripe n1)))) w)) (LdV b 0 (At
  w) fun v3 => OpI .i64 v3 fun n3 => Req (n3 ≠ 0) (LdV b 0 (At w) fun v4 => OpI .i64 v4 fun n4 => Cb (col == (IntKind.wrap .i64 (n4 - 1))) (Ret [] (R (.int .i64 (Int.tmod
  (IntKind.wrap .i64 ((IntKind.wrap .i64 ((IntKind.wrap .i64 (n - 1)) - (Int.tmod stripe n1))) + 1)) n3)) w)) (LdV b 0 (At w) fun v5 => OpI .i64 v5 fun n5 => Req (n5 ≠ 0)
  (Ret [] (R (.int .i64 (Int.tmod (IntKind.wrap .i64 ((IntKind.wrap .i64 ((Int.tmod (IntKind.wrap .i64 ((IntKind.wrap .i64 ((IntKind.wrap .i64 (n - 1)) - (Int.tmod stripe
  n1))) + 1)) n3) + 1)) + col)) n5)) w))))))
theorem C_ravelinref03_Column {g : Array Value} {stripe : Int} {col : Int} {w : World} {R : Value → World → Prop} (h : F_ravelinref03_Column g stripe col w R) : CallV Try.prog 27 #[.agg g, .int .i64 stripe, .int .i64 col] w R := by
  exact calls_of_F (args := [.agg g, .int .i64 stripe, .int .i64 col]) (mkAnn [] [] [] [] []) Try_mixed Try.func27 rfl rfl (by kernel_rfl) h
def F_ravelinref03_Map (g : Array Value) (lba : Int) (w : World) (R : Value → World → Prop) : Prop :=
  Alc 25 g w fun b w => Alc 51 (zc Try.prog 51) w fun b1 w => Alc 53 (zc Try.prog 53) w fun b2 w => LdA 3 b 0 (At w) fun cs => CallV Try.prog 15 #[.agg cs] w fun v w => T2 v
  fun v1 v2 => OpI .i64 v1 fun n => OpI .i64 v2 fun n1 => Cb (n1 != 0) (DoQ Try.prog (Instr.build 51 #[]) (At w) fun v3 => OpA 3 v3 fun cs1 => DoQ Try.prog (Instr.build 53
  #[]) (At w) fun v4 => OpA 2 v4 fun cs2 => StA 3 b1 0 cs1 w fun w => StA 2 b2 0 cs2 w fun w => LdA 3 b1 0 (At w) fun cs3 => LdA 2 b2 0 (At w) fun cs4 => Ret [] (R (.tuple
  #[.agg cs3, .agg cs4, .int .i64 n1]) w)) (Req ((decide (lba < 0)) = (decide (lba < 0))) (Req ((decide (lba < 0)) = (decide (lba < 0))) (Req ((decide (lba < 0)) = (decide
  (lba < 0))) (Cb (cond (decide (lba < 0)) true (decide (lba ≥ n))) (DoQ Try.prog (Instr.build 51 #[]) (At w) fun v5 => OpA 3 v5 fun cs5 => DoQ Try.prog (Instr.build 53 #[])
  (At w) fun v6 => OpA 2 v6 fun cs6 => StA 3 b1 0 cs5 w fun w => StA 2 b2 0 cs6 w fun w => LdA 3 b1 0 (At w) fun cs7 => LdA 2 b2 0 (At w) fun cs8 => Ret [] (R (.tuple #[.agg
  cs7, .agg cs8, .int .i64 2]) w)) (DoQ Try.prog (Instr.build 51 #[]) (At w) fun v7 => OpA 3 v7 fun cs9 => Alc 51 (zc Try.prog 51) w fun b3 w => StA 3 b3 0 cs9 w fun w =>
  LoopC (σ := Int × Unit) (fun _ s1 w K1 => Cb (decide (s1.1 < lba)) (LdV b3 2 (At w) fun v8 => OpI .i64 v8 fun n2 => StV b3 2 (.int .i64 (IntKind.wrap .i64 (n2 + 1))) w fun
  w => LdV b3 2 (At w) fun v9 => OpI .i64 v9 fun n3 => LdV b 1 (At w) fun v10 => OpI .i64 v10 fun n4 => Cb (n3 == n4) (StV b3 2 (.int .i64 0) w fun w => LdV b3 1 (At w) fun
  v11 => OpI .i64 v11 fun n5 => StV b3 1 (.int .i64 (IntKind.wrap .i64 (n5 + 1))) w fun w => LdV b3 1 (At w) fun v12 => OpI .i64 v12 fun n6 => LdV b 0 (At w) fun v13 => OpI
  .i64 v13 fun n7 => Cb (n6 == (IntKind.wrap .i64 (n7 - 2))) (StV b3 1 (.int .i64 0) w fun w => LdV b3 0 (At w) fun v14 => OpI .i64 v14 fun n8 => StV b3 0 (.int .i64
  (IntKind.wrap .i64 (n8 + 1))) w fun w => K1 (IntKind.wrap .i64 (s1.1 + 1), ()) w) (K1 (IntKind.wrap .i64 (s1.1 + 1), ()) w)) (LdV b3 1 (At w) fun v15 => OpI .i64 v15 fun
  n9 => LdV b 0 (At w) fun v16 => OpI .i64 v16 fun n10 => Cb (n9 == (IntKind.wrap .i64 (n10 - 2))) (StV b3 1 (.int .i64 0) w fun w => LdV b3 0 (At w) fun v17 => OpI .i64 v17
  fun n11 => StV b3 0 (.int .i64 (IntKind.wrap .i64 (n11 + 1))) w fun w => K1 (IntKind.wrap .i64 (s1.1 + 1), ()) w) (K1 (IntKind.wrap .i64 (s1.1 + 1), ()) w))) (HeldR w fun
  S w => LdA 3 b3 0 S fun cs10 => LdA 3 b 0 S fun cs11 => LdV b3 0 S fun v18 => OpI .i64 v18 fun n12 => LdV b3 1 S fun v19 => OpI .i64 v19 fun n13 => LdV b3 0 S fun v20 =>
  OpI .i64 v20 fun n14 => LdV b 1 S fun v21 => OpI .i64 v21 fun n15 => LdV b3 2 S fun v22 => OpI .i64 v22 fun n16 => CallV Try.prog 27 #[.agg cs11, .int .i64 n12, .int .i64
  n13] w fun v23 w => OpI .i64 v23 fun n17 => Hld (S w) (DoQ Try.prog (Instr.build 53 #[(0, .int .i64 n17), (1, .int .i64 (IntKind.wrap .i64 ((IntKind.wrap .i64 (n14 * n15))
  + n16)))]) S fun v24 => OpA 2 v24 fun cs12 => StA 3 b1 0 cs10 w fun w => Hld (S w) (StA 2 b2 0 cs12 w fun w => Hld (S w) (LdA 3 b1 0 (At w) fun cs13 => LdA 2 b2 0 (At w)
  fun cs14 => Ret [] (R (.tuple #[.agg cs13, .agg cs14, .int .i64 0]) w)))))) (0, ()) w)))))
theorem C_ravelinref03_Map {g : Array Value} {lba : Int} {w : World} {R : Value → World → Prop} (h : F_ravelinref03_Map g lba w R) : CallV Try.prog 20 #[.agg g, .int .i64 lba] w R := by
  exact calls_of_F (args := [.agg g, .int .i64 lba]) (mkAnn [(8, [(10, (.int .i64))])] [] [] [] [67]) Try_mixed Try.func20 rfl rfl (by kernel_rfl) h
def F_ravelinref03_Back (g : Array Value) (p : Array Value) (w : World) (R : Value → World → Prop) : Prop :=
  Alc 25 g w fun b w => Alc 53 p w fun b1 w => LdA 3 b 0 (At w) fun cs => CallV Try.prog 54 #[.agg cs] w fun v w => T2 v fun v1 v2 => OpI .i64 v1 fun n => OpI .i64 v2 fun n1
  => Cb (n1 != 0) (Ret [] (R (.tuple #[.int .i64 0, .int .i64 0, .int .i64 n1]) w)) (LdV b1 0 (At w) fun v3 => OpI .i64 v3 fun n2 => Cb (decide (n2 < 0)) (Ret [] (R (.tuple
  #[.int .i64 0, .int .i64 0, .int .i64 2]) w)) (LdV b1 0 (At w) fun v4 => OpI .i64 v4 fun n3 => LdV b 0 (At w) fun v5 => OpI .i64 v5 fun n4 => Cb (decide (n3 ≥ n4)) (Ret []
  (R (.tuple #[.int .i64 0, .int .i64 0, .int .i64 2]) w)) (LdV b1 1 (At w) fun v6 => OpI .i64 v6 fun n5 => Cb (decide (n5 < 0)) (Ret [] (R (.tuple #[.int .i64 0, .int .i64
  0, .int .i64 2]) w)) (LdV b1 1 (At w) fun v7 => OpI .i64 v7 fun n6 => Cb (decide (n6 ≥ n)) (Ret [] (R (.tuple #[.int .i64 0, .int .i64 0, .int .i64 2]) w)) (LdV b1 1 (At
  w) fun v8 => OpI .i64 v8 fun n7 => LdV b 1 (At w) fun v9 => OpI .i64 v9 fun n8 => Req (n8 ≠ 0) (LdV b1 1 (At w) fun v10 => OpI .i64 v10 fun n9 => LdV b 1 (At w) fun v11 =>
  OpI .i64 v11 fun n10 => Req (n10 ≠ 0) (Drw w fun w => LoopC (σ := Int × Unit) (fun _ s1 w K1 => LdV b 0 (At w) fun v12 => OpI .i64 v12 fun n11 => Cb (decide (s1.1 < n11))
  (HeldR w fun S w => LdA 3 b 0 (At w) fun cs1 => LdV b1 0 S fun v13 => OpI .i64 v13 fun n12 => CallV Try.prog 27 #[.agg cs1, .int .i64 (IntKind.wrap .i64 (Int.tdiv n7 n8)),
  .int .i64 s1.1] w fun v14 w => OpI .i64 v14 fun n13 => Hld (S w) (Cb (n13 != n12) (K1 (IntKind.wrap .i64 (s1.1 + 1), ()) w) (LdV b 0 (At w) fun v15 => OpI .i64 v15 fun n14
  => Cb (decide (s1.1 ≥ IntKind.wrap .i64 (n14 - 2))) (Ret [] (R (.tuple #[.int .i64 (-1), .int .i64 s1.1, .int .i64 0]) w)) (LdV b 0 (At w) fun v16 => OpI .i64 v16 fun n15
  => LdV b 1 (At w) fun v17 => OpI .i64 v17 fun n16 => LdV b 1 (At w) fun v18 => OpI .i64 v18 fun n17 => Ret [] (R (.tuple #[.int .i64 (IntKind.wrap .i64 ((IntKind.wrap .i64
  ((IntKind.wrap .i64 ((IntKind.wrap .i64 ((IntKind.wrap .i64 (Int.tdiv n7 n8)) * (IntKind.wrap .i64 (n15 - 2)))) * n16)) + (IntKind.wrap .i64 (s1.1 * n17)))) + (Int.tmod n9
  n10))), .int .i64 s1.1, .int .i64 0]) w))))) (Ret [] (R (.tuple #[.int .i64 0, .int .i64 0, .int .i64 2]) w))) (0, ()) w)))))))
theorem C_ravelinref03_Back {g : Array Value} {p : Array Value} {w : World} {R : Value → World → Prop} (h : F_ravelinref03_Back g p w R) : CallV Try.prog 22 #[.agg g, .agg p] w R := by
  exact calls_of_F (args := [.agg g, .agg p]) (mkAnn [(8, [(11, (.int .i64))])] [] [] [] [60]) Try_mixed Try.func22 rfl rfl (by kernel_rfl) h
def F_ravelinref02_bit (c : Int) (b : Int) (w : World) (R : Value → World → Prop) : Prop :=
  Req (0 ≤ (1 : Int)) (Cb (ibits .and .u32 (ibits .xor .u32 c b) 1 == 1) (Ret [] (R (.int .u32 (ibits .xor .u32 (ishr .u32 c 1) 3988292384)) w)) (Ret [] (R (.int .u32 (ishr
  .u32 c 1)) w)))
theorem C_ravelinref02_bit {c : Int} {b : Int} {w : World} {R : Value → World → Prop} (h : F_ravelinref02_bit c b w R) : CallV Try.prog 109 #[.int .u32 c, .int .u32 b] w R := by
  exact calls_of_F (args := [.int .u32 c, .int .u32 b]) (mkAnn [] [] [] [] []) Try_mixed Try.func109 rfl rfl (by kernel_rfl) h
def F_ravelinref02_More (crc : Int) (datap : Option Addr) (datal : Nat) (datac : Nat) (w : World) (R : Value → World → Prop) : Prop :=
  LoopC (σ := Int × Int × Unit) (fun _ s1 w K1 => Cb (decide (s1.2.1 < ((datal : Nat) : Int))) (LoopC (σ := Int × Int × Unit) (fun _ s2 w K2 => Cb (decide (s2.2.1 < 8))
  (IdxS datap datal s1.2.1 1 fun b o => LdV b o (At w) fun v => OpI .u8 v fun n => Req (0 ≤ s2.2.1) (CallV Try.prog 109 #[.int .u32 s2.1, .int .u32 (IntKind.wrap .u32 (ibits
  .and .u8 (ishr .u8 n s2.2.1) 1))] w fun v1 w => OpI .u32 v1 fun n1 => K2 (n1, (IntKind.wrap .i64 (s2.2.1 + 1), ())) w)) (K1 (s2.1, (IntKind.wrap .i64 (s1.2.1 + 1), ()))
  w)) (s1.1, (0, ())) w) (Ret [] (R (.int .u32 (ibits .xor .u32 (cond (IntKind.signed .u32) (-1) (IntKind.max .u32)) s1.1)) w))) (ibits .xor .u32 (cond (IntKind.signed .u32)
  (-1) (IntKind.max .u32)) crc, (0, ())) w
theorem C_ravelinref02_More {crc : Int} {datap : Option Addr} {datal : Nat} {datac : Nat} {w : World} {R : Value → World → Prop} (h : F_ravelinref02_More crc datap datal datac w R) : CallV Try.prog 105 #[.int .u32 crc, .slice datap datal datac] w R := by
  exact calls_of_F (args := [.int .u32 crc, .slice datap datal datac]) (mkAnn [(3, [(5, (.int .u32)), (6, (.int .i64))]), (6, [(5, (.int .u32)), (7, (.int .i64))])] [] [] [] []) Try_mixed Try.func105 rfl rfl (by kernel_rfl) h
def F_ravelinref02_Crc (datap : Option Addr) (datal : Nat) (datac : Nat) (w : World) (R : Value → World → Prop) : Prop :=
  CallV Try.prog 105 #[.int .u32 0, .slice datap datal datac] w fun v w => OpI .u32 v fun n => Ret [] (R (.int .u32 n) w)
theorem C_ravelinref02_Crc {datap : Option Addr} {datal : Nat} {datac : Nat} {w : World} {R : Value → World → Prop} (h : F_ravelinref02_Crc datap datal datac w R) : CallV Try.prog 94 #[.slice datap datal datac] w R := by
  exact calls_of_F (args := [.slice datap datal datac]) (mkAnn [] [] [] [] []) Try_mixed Try.func94 rfl rfl (by kernel_rfl) h
def F_ravelinref02_Seal (at_ : Int) (s : Array Value) (w : World) (R : Value → World → Prop) : Prop :=
  Alc 23 s w fun b w => Alc 57 (zc Try.prog 57) w fun b1 w => DoV Try.prog (Instr.buildSlice 72 0 #[]) w fun v w => OpS v fun p l c => LoopC (σ := (Option Addr × Nat × Nat)
  × Int × Unit) (fun _ s1 w K1 => Cb (decide (s1.2.1 ≥ 0)) (Req (0 ≤ IntKind.wrap .i64 (8 * s1.2.1)) (DoV Try.prog (Instr.buildSlice 72 1 #[(0, .int .u8 (IntKind.wrap .u8
  (ishr .u64 (IntKind.wrap .u64 at_) (IntKind.wrap .i64 (8 * s1.2.1)))))]) w fun v1 w => OpS v1 fun p1 l1 c1 => DoV Try.prog (Builtin.append_ #[72, 72] 72 #[.slice s1.1.1
  s1.1.2.1 s1.1.2.2, .slice p1 l1 c1]) w fun v2 w => OpS v2 fun p2 l2 c2 => K1 ((p2, l2, c2), (IntKind.wrap .i64 (s1.2.1 - 1), ())) w)) (LoopC (σ := (Option Addr × Nat ×
  Nat) × Int × Unit) (fun _ s2 w K2 => Cb (decide (s2.2.1 < 16)) (Req (0 ≤ s2.2.1 ∧ s2.2.1 < 16) (LdV b (0 + Int.toNat s2.2.1 * 1) (At w) fun v3 => OpI .u8 v3 fun n => DoV
  Try.prog (Instr.buildSlice 72 1 #[(0, .int .u8 n)]) w fun v4 w => OpS v4 fun p3 l3 c3 => DoV Try.prog (Builtin.append_ #[72, 72] 72 #[.slice s2.1.1 s2.1.2.1 s2.1.2.2,
  .slice p3 l3 c3]) w fun v5 w => OpS v5 fun p4 l4 c4 => K2 ((p4, l4, c4), (IntKind.wrap .i64 (s2.2.1 + 1), ())) w)) (Dr1 w fun w => LdA 16 b 0 (At w) fun cs => CallS
  Try.prog 94 #[.slice s2.1.1 s2.1.2.1 s2.1.2.2] w fun v6 => OpI .u32 v6 fun n1 => DoQ Try.prog (Instr.build 57 #[(0, .agg cs), (1, .int .u32 n1)]) (At w) fun v7 => OpA 17
  v7 fun cs1 => StA 17 b1 0 cs1 w fun w => LdA 17 b1 0 (At w) fun cs2 => Ret [] (R (.agg cs2) w))) ((s1.1.1, s1.1.2.1, s1.1.2.2), (0, ())) w)) ((p, l, c), (7, ())) w
theorem C_ravelinref02_Seal {at_ : Int} {s : Array Value} {w : World} {R : Value → World → Prop} (h : F_ravelinref02_Seal at_ s w R) : CallV Try.prog 75 #[.int .i64 at_, .agg s] w R := by
  exact calls_of_F (args := [.int .i64 at_, .agg s]) (mkAnn [(3, [(5, .slice), (6, (.int .i64))]), (7, [(5, .slice), (7, (.int .i64))])] [] [] [] []) Try_mixed Try.func75 rfl rfl (by kernel_rfl) h
def F_ravelinref06_On  (w : World) (R : Value → World → Prop) : Prop :=
  Alc 32 (zc Try.prog 32) w fun b w => DoQ Try.prog (Instr.build 32 #[(1, .int .i64 (-1))]) (At w) fun v => OpA 3 v fun cs => StA 3 b 0 cs w fun w => LdA 3 b 0 (At w) fun
  cs1 => Ret [] (R (.agg cs1) w)
theorem C_ravelinref06_On  {w : World} {R : Value → World → Prop} (h : F_ravelinref06_On  w R) : CallV Try.prog 43 #[] w R := by
  exact calls_of_F (args := []) (mkAnn [] [] [] [] []) Try_mixed Try.func43 rfl rfl (by kernel_rfl) h
def F_ravelinref06_New (n : Int) (w : World) (R : Value → World → Prop) : Prop :=
  Alc 66 (zc Try.prog 66) w fun b w => HeldR w fun S w => (DoV Try.prog (Instr.makeSlice 63 (.int .i64 n) (.int .i64 n)) w fun v w => OpS v fun p l c => Hld (S w) (DoV
  Try.prog (Instr.makeSlice 64 (.int .i64 n) (.int .i64 n)) w fun v1 w => OpS v1 fun p1 l1 c1 => Hld (S w) (DoQ Try.prog (Instr.build 66 #[(0, .slice p l c), (1, .slice p1
  l1 c1), (2, .int .u32 0), (3, .bool false)]) (At w) fun v2 => OpA 4 v2 fun cs => StA 4 b 0 cs w fun w => Hld (S w) (LdA 4 b 0 (At w) fun cs1 => Ret [] (R (.agg cs1) w)))))
  ∧ (DoV Try.prog (Instr.makeSlice 64 (.int .i64 n) (.int .i64 n)) w fun v3 w => OpS v3 fun p2 l2 c2 => Hld (S w) (DoV Try.prog (Instr.makeSlice 63 (.int .i64 n) (.int .i64
  n)) w fun v4 w => OpS v4 fun p3 l3 c3 => Hld (S w) (DoQ Try.prog (Instr.build 66 #[(0, .slice p3 l3 c3), (1, .slice p2 l2 c2), (2, .int .u32 0), (3, .bool false)]) (At w)
  fun v5 => OpA 4 v5 fun cs2 => StA 4 b 0 cs2 w fun w => Hld (S w) (LdA 4 b 0 (At w) fun cs3 => Ret [] (R (.agg cs3) w)))))
theorem C_ravelinref06_New {n : Int} {w : World} {R : Value → World → Prop} (h : F_ravelinref06_New n w R) : CallV Try.prog 66 #[.int .i64 n] w R := by
  exact calls_of_F (args := [.int .i64 n]) (mkAnn [] [] [] [] []) Try_mixed Try.func66 rfl rfl (by kernel_rfl) h
def F_ravelinref09_New (g : Array Value) (p : Array Value) (w : World) (R : Value → World → Prop) : Prop :=
  Alc 25 g w fun b w => Alc 32 p w fun b1 w => Alc 34 (zc Try.prog 34) w fun b2 w => LdA 3 b 0 (At w) fun cs => LdA 3 b1 0 (At w) fun cs1 => DoQ Try.prog (Instr.build 34
  #[(0, .agg cs), (2, .agg cs1)]) (At w) fun v => OpA 7 v fun cs2 => Alc 34 (zc Try.prog 34) w fun b3 w => StA 7 b3 0 cs2 w fun w => LdA 3 b 0 (At w) fun cs3 => CallV
  Try.prog 54 #[.agg cs3] w fun v1 w => T2 v1 fun v2 v3 => OpI .i64 v2 fun n => OpI .i64 v3 fun n1 => LoopC (σ := Int × Unit) (fun _ s1 w K1 => LdV b 0 (At w) fun v4 => OpI
  .i64 v4 fun n2 => Cb (decide (s1.1 < n2)) (CallV Try.prog 66 #[.int .i64 n] w fun v5 w => OpA 4 v5 fun cs4 => Alc 66 (zc Try.prog 66) w fun b4 w => StA 4 b4 0 cs4 w fun w
  => LoopC (σ := Int × Unit) (fun _ s2 w K2 => Cb (decide (s2.1 < n)) (HeldR w fun S w => LdV b4 0 S fun v6 => OpS v6 fun p1 l c => DoQ Try.prog (Instr.build 23 #[]) (At w)
  fun v7 => OpA 16 v7 fun cs5 => CallV Try.prog 75 #[.int .i64 s2.1, .agg cs5] w fun v8 w => OpA 17 v8 fun cs6 => Hld (S w) (IdxS p1 l s2.1 17 fun b5 o => StA 17 b5 o cs6 w
  fun w => Hld (S w) (LdV b4 1 (At w) fun v9 => OpS v9 fun p2 l1 c1 => IdxS p2 l1 s2.1 1 fun b6 o1 => StV b6 o1 (.bool true) w fun w => K2 (IntKind.wrap .i64 (s2.1 + 1), ())
  w))) (LdV b3 3 (At w) fun v10 => OpS v10 fun p3 l2 c2 => LdA 4 b4 0 (At w) fun cs7 => DoV Try.prog (Instr.buildSlice 30 1 #[(0, .agg cs7)]) w fun v11 w => OpS v11 fun p4
  l3 c3 => DoV Try.prog (Builtin.append_ #[30, 30] 30 #[.slice p3 l2 c2, .slice p4 l3 c3]) w fun v12 w => OpS v12 fun p5 l4 c4 => StV b3 3 (.slice p5 l4 c4) w fun w => K1
  (IntKind.wrap .i64 (s1.1 + 1), ()) w)) (0, ()) w) (LdA 7 b3 0 (At w) fun cs8 => StA 7 b2 0 cs8 w fun w => LdA 7 b2 0 (At w) fun cs9 => Ret [] (R (.agg cs9) w))) (0, ()) w
theorem C_ravelinref09_New {g : Array Value} {p : Array Value} {w : World} {R : Value → World → Prop} (h : F_ravelinref09_New g p w R) : CallV Try.prog 42 #[.agg g, .agg p] w R := by
  exact calls_of_F (args := [.agg g, .agg p]) (mkAnn [(4, [(8, (.int .i64))]), (8, [(10, (.int .i64))])] [] [] [] [37]) Try_mixed Try.func42 rfl rfl (by kernel_rfl) h
end Go.Proofs
