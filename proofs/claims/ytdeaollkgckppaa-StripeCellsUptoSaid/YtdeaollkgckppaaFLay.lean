/- PRINTED BY pr.py (own program): what the evaluator of <Name>Ev makes of the code of some functions. -/
import Derived.Test.YtdeaollkgckppaaChecked
import Derived.Test.YtdeaollkgckppaaEv
import Derived.Test.YtdeaollkgckppaaMix
namespace Go.Proofs
open Go.Ev
set_option linter.unusedVariables false
set_option maxRecDepth 100000
def F_layout_Check (g : Array Value) (w : World) (R : Value → World → Prop) : Prop :=
  Alc 25 g w fun b w => LdV b 0 (At w) fun v => OpI .i64 v fun n => Cb (decide (n < 4)) (Ret [] (R (.int .i64 1) w)) (LdV b 0 (At w) fun v1 => OpI .i64 v1 fun n1 => Cb
  (decide (n1 > 32)) (Ret [] (R (.int .i64 1) w)) (LdV b 1 (At w) fun v2 => OpI .i64 v2 fun n2 => Cb (decide (n2 < 1)) (Ret [] (R (.int .i64 1) w)) (LdV b 1 (At w) fun v3 =>
  OpI .i64 v3 fun n3 => Cb (decide (n3 > 8)) (Ret [] (R (.int .i64 1) w)) (LdV b 2 (At w) fun v4 => OpI .i64 v4 fun n4 => Cb (decide (n4 < 1)) (Ret [] (R (.int .i64 1) w))
  (LdV b 2 (At w) fun v5 => OpI .i64 v5 fun n5 => Cb (decide (n5 > 64)) (Ret [] (R (.int .i64 1) w)) (Ret [] (R (.int .i64 0) w)))))))
theorem C_layout_Check {g : Array Value} {w : World} {R : Value → World → Prop} (h : F_layout_Check g w R) : CallV Try.prog 80 #[.agg g] w R := by
  exact calls_of_F (args := [.agg g]) (mkAnn [] [] [] [] []) Try_mixed Try.func80 rfl rfl (by kernel_rfl) h
def F_layout_Size (g : Array Value) (w : World) (R : Value → World → Prop) : Prop :=
  Alc 25 g w fun b w => LdA 3 b 0 (At w) fun cs => CallV Try.prog 80 #[.agg cs] w fun v w => OpI .i64 v fun n => Cb (n != 0) (Ret [] (R (.tuple #[.int .i64 0, .int .i64 n])
  w)) (LdV b 1 (At w) fun v1 => OpI .i64 v1 fun n1 => LdV b 2 (At w) fun v2 => OpI .i64 v2 fun n2 => Ret [] (R (.tuple #[.int .i64 (IntKind.wrap .i64 (n1 * n2)), .int .i64
  0]) w))
theorem C_layout_Size {g : Array Value} {w : World} {R : Value → World → Prop} (h : F_layout_Size g w R) : CallV Try.prog 59 #[.agg g] w R := by
  exact calls_of_F (args := [.agg g]) (mkAnn [] [] [] [] []) Try_mixed Try.func59 rfl rfl (by kernel_rfl) h
def F_layout_Capacity (g : Array Value) (w : World) (R : Value → World → Prop) : Prop :=
  Alc 25 g w fun b w => LdA 3 b 0 (At w) fun cs => CallV Try.prog 80 #[.agg cs] w fun v w => OpI .i64 v fun n => Cb (n != 0) (Ret [] (R (.tuple #[.int .i64 0, .int .i64 n])
  w)) (LdV b 0 (At w) fun v1 => OpI .i64 v1 fun n1 => LdV b 1 (At w) fun v2 => OpI .i64 v2 fun n2 => LdV b 2 (At w) fun v3 => OpI .i64 v3 fun n3 => Ret [] (R (.tuple #[.int
  .i64 (IntKind.wrap .i64 ((IntKind.wrap .i64 ((IntKind.wrap .i64 (n1 - 2)) * n2)) * n3)), .int .i64 0]) w))
theorem C_layout_Capacity {g : Array Value} {w : World} {R : Value → World → Prop} (h : F_layout_Capacity g w R) : CallV Try.prog 76 #[.agg g] w R := by
  exact calls_of_F (args := [.agg g]) (mkAnn [] [] [] [] []) Try_mixed Try.func76 rfl rfl (by kernel_rfl) h
def F_layout_first (g : Array Value) (stripe : Int) (w : World) (R : Value → World → Prop) : Prop :=
  Alc 25 g w fun b w => LdV b 0 (At w) fun v => OpI .i64 v fun n => LdV b 0 (At w) fun v1 => OpI .i64 v1 fun n1 => Req (n1 ≠ 0) (LdV b 0 (At w) fun v2 => OpI .i64 v2 fun n2
  => Req (n2 ≠ 0) (Drw w fun w => Ret [] (R (.int .i64 (Int.tmod (IntKind.wrap .i64 ((IntKind.wrap .i64 ((IntKind.wrap .i64 (2 * n)) + 1)) - (Int.tmod stripe n1))) n2)) w)))
theorem C_layout_first {g : Array Value} {stripe : Int} {w : World} {R : Value → World → Prop} (h : F_layout_first g stripe w R) : CallV Try.prog 77 #[.agg g, .int .i64 stripe] w R := by
  exact calls_of_F (args := [.agg g, .int .i64 stripe]) (mkAnn [] [] [] [] []) Try_mixed Try.func77 rfl rfl (by kernel_rfl) h
def F_layout_Map (g : Array Value) (lba : Int) (w : World) (R : Value → World → Prop) : Prop :=
  Alc 25 g w fun b w => Alc 51 (zc Try.prog 51) w fun b1 w => Alc 53 (zc Try.prog 53) w fun b2 w => LdA 3 b 0 (At w) fun cs => CallV Try.prog 76 #[.agg cs] w fun v w => T2 v
  fun v1 v2 => OpI .i64 v1 fun n => OpI .i64 v2 fun n1 => Cb (n1 != 0) (DoQ Try.prog (Instr.build 51 #[]) (At w) fun v3 => OpA 3 v3 fun cs1 => DoQ Try.prog (Instr.build 53
  #[]) (At w) fun v4 => OpA 2 v4 fun cs2 => StA 3 b1 0 cs1 w fun w => StA 2 b2 0 cs2 w fun w => LdA 3 b1 0 (At w) fun cs3 => LdA 2 b2 0 (At w) fun cs4 => Ret [] (R (.tuple
  #[.agg cs3, .agg cs4, .int .i64 n1]) w)) (Req ((decide (lba < 0)) = (decide (lba < 0))) (Req ((decide (lba < 0)) = (decide (lba < 0))) (Req ((decide (lba < 0)) = (decide
  (lba < 0))) (Cb (cond (decide (lba < 0)) true (decide (lba ≥ n))) (DoQ Try.prog (Instr.build 51 #[]) (At w) fun v5 => OpA 3 v5 fun cs5 => DoQ Try.prog (Instr.build 53 #[])
  (At w) fun v6 => OpA 2 v6 fun cs6 => StA 3 b1 0 cs5 w fun w => StA 2 b2 0 cs6 w fun w => LdA 3 b1 0 (At w) fun cs7 => LdA 2 b2 0 (At w) fun cs8 => Ret [] (R (.tuple #[.agg
  cs7, .agg cs8, .int .i64 2]) w)) (LdV b 0 (At w) fun v7 => OpI .i64 v7 fun n2 => HeldR w fun S w => LdV b 1 S fun v8 => OpI .i64 v8 fun n3 => Req (IntKind.wrap .i64
  ((IntKind.wrap .i64 (n2 - 2)) * n3) ≠ 0) (LdV b 1 S fun v9 => OpI .i64 v9 fun n4 => Req (n4 ≠ 0) (Req (IntKind.wrap .i64 (n2 - 2) ≠ 0) (LdV b 1 S fun v10 => OpI .i64 v10
  fun n5 => Req (n5 ≠ 0) (DoQ Try.prog (Instr.build 51 #[(0, .int .i64 (IntKind.wrap .i64 (Int.tdiv lba (IntKind.wrap .i64 ((IntKind.wrap .i64 (n2 - 2)) * n3))))), (1, .int
  .i64 (Int.tmod (IntKind.wrap .i64 (Int.tdiv lba n4)) (IntKind.wrap .i64 (n2 - 2)))), (2, .int .i64 (Int.tmod lba n5))]) S fun v11 => OpA 3 v11 fun cs9 => Alc 51 (zc
  Try.prog 51) w fun b3 w => Hld (S w) (StA 3 b3 0 cs9 w fun w => Hld (S w) (HeldR w fun S w => LdA 3 b3 0 S fun cs10 => LdA 3 b 0 S fun cs11 => LdV b3 0 S fun v12 => OpI
  .i64 v12 fun n6 => LdV b3 1 S fun v13 => OpI .i64 v13 fun n7 => LdV b 0 S fun v14 => OpI .i64 v14 fun n8 => LdV b3 0 S fun v15 => OpI .i64 v15 fun n9 => LdV b 1 S fun v16
  => OpI .i64 v16 fun n10 => LdV b3 2 S fun v17 => OpI .i64 v17 fun n11 => CallV Try.prog 77 #[.agg cs11, .int .i64 n6] w fun v18 w => OpI .i64 v18 fun n12 => Hld (S w) (Req
  (n8 ≠ 0) (DoQ Try.prog (Instr.build 53 #[(0, .int .i64 (Int.tmod (IntKind.wrap .i64 (n12 + n7)) n8)), (1, .int .i64 (IntKind.wrap .i64 ((IntKind.wrap .i64 (n9 * n10)) +
  n11)))]) S fun v19 => OpA 2 v19 fun cs12 => StA 3 b1 0 cs10 w fun w => Hld (S w) (StA 2 b2 0 cs12 w fun w => Hld (S w) (LdA 3 b1 0 (At w) fun cs13 => LdA 2 b2 0 (At w) fun
  cs14 => Ret [] (R (.tuple #[.agg cs13, .agg cs14, .int .i64 0]) w))))))))))))))))
theorem C_layout_Map {g : Array Value} {lba : Int} {w : World} {R : Value → World → Prop} (h : F_layout_Map g lba w R) : CallV Try.prog 44 #[.agg g, .int .i64 lba] w R := by
  exact calls_of_F (args := [.agg g, .int .i64 lba]) (mkAnn [] [] [] [] [54]) Try_mixed Try.func44 rfl rfl (by kernel_rfl) h
def F_layout_Row (g : Array Value) (stripe : Int) (off : Int) (w : World) (R : Value → World → Prop) : Prop :=
  Alc 25 g w fun b w => LdA 3 b 0 (At w) fun cs => CallV Try.prog 80 #[.agg cs] w fun v w => OpI .i64 v fun n => Cb (n != 0) (Ret [] (R (.tuple #[.slice none 0 0, .int .i64
  n]) w)) (Cb (decide (stripe < 0)) (Req (true = true) (Req (true = true) (Ret [] (R (.tuple #[.slice none 0 0, .int .i64 2]) w)))) (LdV b 2 (At w) fun v1 => OpI .i64 v1 fun
  n1 => Req ((decide (stripe ≥ n1)) = (decide (stripe ≥ n1))) (Req ((decide (stripe ≥ n1)) = (decide (stripe ≥ n1))) (Cb (cond (decide (stripe ≥ n1)) true (decide (off <
  0))) (Ret [] (R (.tuple #[.slice none 0 0, .int .i64 2]) w)) (LdV b 1 (At w) fun v2 => OpI .i64 v2 fun n2 => Cb (decide (off ≥ n2)) (Ret [] (R (.tuple #[.slice none 0 0,
  .int .i64 2]) w)) (LdV b 0 (At w) fun v3 => OpI .i64 v3 fun n3 => LoopC (σ := (Option Addr × Nat × Nat) × Int × Unit) (fun _ s1 w K1 => Cb (decide (s1.2.1 < n3)) (HeldR w
  fun S w => LdA 3 b 0 S fun cs1 => LdV b 0 S fun v4 => OpI .i64 v4 fun n4 => LdV b 1 S fun v5 => OpI .i64 v5 fun n5 => CallV Try.prog 77 #[.agg cs1, .int .i64 stripe] w fun
  v6 w => OpI .i64 v6 fun n6 => Hld (S w) (Req (n4 ≠ 0) (DoQ Try.prog (Instr.build 53 #[(0, .int .i64 (Int.tmod (IntKind.wrap .i64 (n6 + s1.2.1)) n4)), (1, .int .i64
  (IntKind.wrap .i64 ((IntKind.wrap .i64 (stripe * n5)) + off)))]) S fun v7 => OpA 2 v7 fun cs2 => DoV Try.prog (Instr.buildSlice 114 1 #[(0, .agg cs2)]) w fun v8 w => OpS
  v8 fun p l c => Hld (S w) (DoV Try.prog (Builtin.append_ #[114, 114] 114 #[.slice s1.1.1 s1.1.2.1 s1.1.2.2, .slice p l c]) w fun v9 w => OpS v9 fun p1 l1 c1 => Hld (S w)
  (K1 ((p1, l1, c1), (IntKind.wrap .i64 (s1.2.1 + 1), ())) w))))) (Ret [] (R (.tuple #[.slice s1.1.1 s1.1.2.1 s1.1.2.2, .int .i64 0]) w))) ((none, 0, 0), (0, ())) w))))))
theorem C_layout_Row {g : Array Value} {stripe : Int} {off : Int} {w : World} {R : Value → World → Prop} (h : F_layout_Row g stripe off w R) : CallV Try.prog 46 #[.agg g, .int .i64 stripe, .int .i64 off] w R := by
  exact calls_of_F (args := [.agg g, .int .i64 stripe, .int .i64 off]) (mkAnn [(8, [(9, .slice), (36, (.int .i64))])] [] [] [] [42]) Try_mixed Try.func46 rfl rfl (by kernel_rfl) h
end Go.Proofs
