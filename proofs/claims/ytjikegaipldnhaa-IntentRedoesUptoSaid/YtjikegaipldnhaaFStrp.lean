/- PRINTED BY pr.py (own program): what the evaluator of <Name>Ev makes of the code of some functions. -/
import Derived.Test.YtjikegaipldnhaaChecked
import Derived.Test.YtjikegaipldnhaaEv
import Derived.Test.YtjikegaipldnhaaMix
namespace Go.Proofs
open Go.Ev
set_option linter.unusedVariables false
set_option maxRecDepth 100000
def F_layout_Check (g : Array Value) (w : World) (R : Value → World → Prop) : Prop :=
  Alc 74 g w fun b w => LdV b 0 (At w) fun v => OpI .i64 v fun n => Cb (decide (n < 4)) (Ret [] (R (.int .i64 1) w)) (LdV b 0 (At w) fun v1 => OpI .i64 v1 fun n1 => Cb
  (decide (n1 > 32)) (Ret [] (R (.int .i64 1) w)) (LdV b 1 (At w) fun v2 => OpI .i64 v2 fun n2 => Cb (decide (n2 < 1)) (Ret [] (R (.int .i64 1) w)) (LdV b 1 (At w) fun v3 =>
  OpI .i64 v3 fun n3 => Cb (decide (n3 > 8)) (Ret [] (R (.int .i64 1) w)) (LdV b 2 (At w) fun v4 => OpI .i64 v4 fun n4 => Cb (decide (n4 < 1)) (Ret [] (R (.int .i64 1) w))
  (LdV b 2 (At w) fun v5 => OpI .i64 v5 fun n5 => Cb (decide (n5 > 64)) (Ret [] (R (.int .i64 1) w)) (Ret [] (R (.int .i64 0) w)))))))
theorem C_layout_Check {g : Array Value} {w : World} {R : Value → World → Prop} (h : F_layout_Check g w R) : CallV Try.prog 93 #[.agg g] w R := by
  exact calls_of_F (args := [.agg g]) (mkAnn [] [] [] [] []) Try_mixed Try.func93 rfl rfl (by kernel_rfl) h
def F_layout_Size (g : Array Value) (w : World) (R : Value → World → Prop) : Prop :=
  Alc 74 g w fun b w => LdA 3 b 0 (At w) fun cs => CallV Try.prog 93 #[.agg cs] w fun v w => OpI .i64 v fun n => Cb (n != 0) (Ret [] (R (.tuple #[.int .i64 0, .int .i64 n])
  w)) (LdV b 1 (At w) fun v1 => OpI .i64 v1 fun n1 => LdV b 2 (At w) fun v2 => OpI .i64 v2 fun n2 => Ret [] (R (.tuple #[.int .i64 (IntKind.wrap .i64 (n1 * n2)), .int .i64
  0]) w))
theorem C_layout_Size {g : Array Value} {w : World} {R : Value → World → Prop} (h : F_layout_Size g w R) : CallV Try.prog 59 #[.agg g] w R := by
  exact calls_of_F (args := [.agg g]) (mkAnn [] [] [] [] []) Try_mixed Try.func59 rfl rfl (by kernel_rfl) h
def F_disk_New (n : Int) (m : Nat) (w : World) (R : Value → World → Prop) : Prop :=
  Req ((decide (n < 1)) = (decide (n < 1))) (Req ((decide (n < 1)) = (decide (n < 1))) (Req ((cond (decide (n < 1)) true (decide (n > 1024))) = (cond (decide (n < 1)) true
  (decide (n > 1024)))) (Req ((cond (decide (n < 1)) true (decide (n > 1024))) = (cond (decide (n < 1)) true (decide (n > 1024)))) (Cb (cond (cond (decide (n < 1)) true
  (decide (n > 1024))) true false) (Ret [] (R (.tuple #[.pointer none, .int .i64 2]) w)) (DoV Try.prog (Instr.makeSlice 140 (.int .i64 n) (.int .i64 n)) w fun v w => OpS v
  fun p l c => DoQ Try.prog (Instr.build 142 #[(0, .pointer (some ⟨m, 0, none⟩)), (1, .slice p l c)]) (At w) fun v1 => OpA 4 v1 fun cs => Alc 142 cs w fun b w => Ret [] (R
  (.tuple #[.pointer (some ⟨b, 0, none⟩), .int .i64 0]) w))))))
theorem C_disk_New {n : Int} {m : Nat} {w : World} {R : Value → World → Prop} (h : F_disk_New n m w R) : CallV Try.prog 60 #[.int .i64 n, .pointer (some ⟨m, 0, none⟩)] w R := by
  exact calls_of_F (args := [.int .i64 n, .pointer (some ⟨m, 0, none⟩)]) (mkAnn [] [] [] [] []) Try_mixed Try.func60 rfl rfl (by kernel_rfl) h
def F_disk_Disk_On (d : Nat) (m : Nat) (w : World) (R : Value → World → Prop) : Prop :=
  StV d 0 (.pointer (some ⟨m, 0, none⟩)) w fun w => Ret [] (R (.pointer (some ⟨d, 0, none⟩)) w)
theorem C_disk_Disk_On {d : Nat} {m : Nat} {w : World} {R : Value → World → Prop} (h : F_disk_Disk_On d m w R) : CallV Try.prog 63 #[.pointer (some ⟨d, 0, none⟩), .pointer (some ⟨m, 0, none⟩)] w R := by
  exact calls_of_F (args := [.pointer (some ⟨d, 0, none⟩), .pointer (some ⟨m, 0, none⟩)]) (mkAnn [] [] [] [] []) Try_mixed Try.func63 rfl rfl (by kernel_rfl) h
def F_disk_Disk_Size (d : Nat) (w : World) (R : Value → World → Prop) : Prop :=
  LdV d 1 (At w) fun v => OpS v fun p l c => Ret [] (R (.int .i64 ((l : Nat) : Int)) w)
theorem C_disk_Disk_Size {d : Nat} {w : World} {R : Value → World → Prop} (h : F_disk_Disk_Size d w R) : CallV Try.prog 95 #[.pointer (some ⟨d, 0, none⟩)] w R := by
  exact calls_of_F (args := [.pointer (some ⟨d, 0, none⟩)]) (mkAnn [] [] [] [] []) Try_mixed Try.func95 rfl rfl (by kernel_rfl) h
def F_disk_Disk_in (d : Nat) (at_ : Int) (w : World) (R : Value → World → Prop) : Prop :=
  Req (true = true) (Req (true = true) (Cb (decide (at_ ≥ 0)) (LdV d 1 (At w) fun v => OpS v fun p l c => Ret [] (R (.bool (decide (at_ < ((l : Nat) : Int)))) w)) (Ret [] (R
  (.bool false) w))))
theorem C_disk_Disk_in {d : Nat} {at_ : Int} {w : World} {R : Value → World → Prop} (h : F_disk_Disk_in d at_ w R) : CallV Try.prog 66 #[.pointer (some ⟨d, 0, none⟩), .int .i64 at_] w R := by
  exact calls_of_F (args := [.pointer (some ⟨d, 0, none⟩), .int .i64 at_]) (mkAnn [] [] [] [] []) Try_mixed Try.func66 rfl rfl (by kernel_rfl) h
def F_disk_Disk_Read (d : Nat) (at_ : Int) (w : World) (R : Value → World → Prop) : Prop :=
  Alc 83 (zc Try.prog 83) w fun b w => CallV Try.prog 66 #[.pointer (some ⟨d, 0, none⟩), .int .i64 at_] w fun v w => OpB v fun g => Cb (!g) (DoQ Try.prog (Instr.build 83
  #[]) (At w) fun v1 => OpA 17 v1 fun cs => StA 17 b 0 cs w fun w => LdA 17 b 0 (At w) fun cs1 => Ret [] (R (.tuple #[.agg cs1, .int .i64 2]) w)) (LdV d 0 (At w) fun v2 =>
  OpN v2 fun b1 o => CallV Try.prog 67 #[.pointer (some ⟨b1, o, none⟩)] w fun v3 w => OpB v3 fun g1 => Cb (!g1) (DoQ Try.prog (Instr.build 83 #[]) (At w) fun v4 => OpA 17 v4
  fun cs2 => StA 17 b 0 cs2 w fun w => LdA 17 b 0 (At w) fun cs3 => Ret [] (R (.tuple #[.agg cs3, .int .i64 4]) w)) (LdV d 3 (At w) fun v5 => OpB v5 fun g2 => Cb g2 (DoQ
  Try.prog (Instr.build 83 #[]) (At w) fun v6 => OpA 17 v6 fun cs4 => StA 17 b 0 cs4 w fun w => LdA 17 b 0 (At w) fun cs5 => Ret [] (R (.tuple #[.agg cs5, .int .i64 5]) w))
  (LdV d 1 (At w) fun v7 => OpS v7 fun p l c => IdxS p l at_ 18 fun b2 o1 => LdV b2 (o1 + 17) (At w) fun v8 => OpB v8 fun g3 => Cb (!g3) (DoQ Try.prog (Instr.build 83 #[])
  (At w) fun v9 => OpA 17 v9 fun cs6 => StA 17 b 0 cs6 w fun w => LdA 17 b 0 (At w) fun cs7 => Ret [] (R (.tuple #[.agg cs7, .int .i64 7]) w)) (LdV d 1 (At w) fun v10 => OpS
  v10 fun p1 l1 c1 => IdxS p1 l1 at_ 18 fun b3 o2 => LdA 17 b3 o2 (At w) fun cs8 => StA 17 b 0 cs8 w fun w => LdA 17 b 0 (At w) fun cs9 => Ret [] (R (.tuple #[.agg cs9, .int
  .i64 0]) w)))))
theorem C_disk_Disk_Read {d : Nat} {at_ : Int} {w : World} {R : Value → World → Prop} (h : F_disk_Disk_Read d at_ w R) : CallV Try.prog 35 #[.pointer (some ⟨d, 0, none⟩), .int .i64 at_] w R := by
  exact calls_of_F (args := [.pointer (some ⟨d, 0, none⟩), .int .i64 at_]) (mkAnn [] [] [] [] []) Try_mixed Try.func35 rfl rfl (by kernel_rfl) h
def F_disk_Disk_Write (d : Nat) (at_ : Int) (cellsp : Option Addr) (cellsl : Nat) (cellsc : Nat) (epoch : Int) (w : World) (R : Value → World → Prop) : Prop :=
  Req (false = false) (Req (false = false) (Cb (decide (at_ < 0)) (Ret [] (R (.tuple #[.int .i64 0, .int .i64 2]) w)) (LdV d 1 (At w) fun v => OpS v fun p l c => Cb (decide
  (at_ > ((l : Nat) : Int))) (Ret [] (R (.tuple #[.int .i64 0, .int .i64 2]) w)) (LdV d 1 (At w) fun v1 => OpS v1 fun p1 l1 c1 => Cb (decide (((cellsl : Nat) : Int) >
  IntKind.wrap .i64 (((l1 : Nat) : Int) - at_))) (Ret [] (R (.tuple #[.int .i64 0, .int .i64 2]) w)) (LdV d 0 (At w) fun v2 => OpN v2 fun b o => CallV Try.prog 67 #[.pointer
  (some ⟨b, o, none⟩)] w fun v3 w => OpB v3 fun g => Cb (!g) (Ret [] (R (.tuple #[.int .i64 0, .int .i64 4]) w)) (LdV d 3 (At w) fun v4 => OpB v4 fun g1 => Cb g1 (Ret [] (R
  (.tuple #[.int .i64 0, .int .i64 5]) w)) (LdV d 2 (At w) fun v5 => OpI .u32 v5 fun n => Cb (decide (epoch < n)) (Ret [] (R (.tuple #[.int .i64 0, .int .i64 6]) w)) (LoopC
  (σ := Int × Unit) (fun _ s1 w K1 => Cb (decide (s1.1 < ((cellsl : Nat) : Int))) (IdxS cellsp cellsl s1.1 17 fun b1 o1 => LdA 17 b1 o1 (At w) fun cs => Alc 83 (zc Try.prog
  83) w fun b2 w => StA 17 b2 0 cs w fun w => LdV d 0 (At w) fun v6 => OpN v6 fun b3 o2 => CallV Try.prog 87 #[.pointer (some ⟨b3, o2, none⟩)] w fun v7 w => OpB v7 fun g2 =>
  Cb (!g2) (Ret [] (R (.tuple #[.int .i64 s1.1, .int .i64 4]) w)) (Dr1 w fun w => LdV d 1 (At w) fun v8 => OpS v8 fun p2 l2 c2 => LdA 17 b2 0 (At w) fun cs1 => DoQ Try.prog
  (Instr.build 144 #[(0, .agg cs1), (1, .bool true)]) (At w) fun v9 => OpA 18 v9 fun cs2 => IdxS p2 l2 (IntKind.wrap .i64 (at_ + s1.1)) 18 fun b4 o3 => StA 18 b4 o3 cs2 w
  fun w => K1 (IntKind.wrap .i64 (s1.1 + 1), ()) w)) (Ret [] (R (.tuple #[.int .i64 ((cellsl : Nat) : Int), .int .i64 0]) w))) (0, ()) w))))))))
theorem C_disk_Disk_Write {d : Nat} {at_ : Int} {cellsp : Option Addr} {cellsl : Nat} {cellsc : Nat} {epoch : Int} {w : World} {R : Value → World → Prop} (h : F_disk_Disk_Write d at_ cellsp cellsl cellsc epoch w R) : CallV Try.prog 61 #[.pointer (some ⟨d, 0, none⟩), .int .i64 at_, .slice cellsp cellsl cellsc, .int .u32 epoch] w R := by
  exact calls_of_F (args := [.pointer (some ⟨d, 0, none⟩), .int .i64 at_, .slice cellsp cellsl cellsc, .int .u32 epoch]) (mkAnn [(10, [(61, (.int .i64))])] [] [] [] []) Try_mixed Try.func61 rfl rfl (by kernel_rfl) h
def F_stripe_New (g : Array Value) (m : Nat) (w : World) (R : Value → World → Prop) : Prop :=
  Alc 74 g w fun b w => Alc 77 (zc Try.prog 77) w fun b1 w => LdA 3 b 0 (At w) fun cs => CallV Try.prog 59 #[.agg cs] w fun v w => T2 v fun v1 v2 => OpI .i64 v1 fun n => OpI
  .i64 v2 fun n1 => Cb (n1 != 0) (DoQ Try.prog (Instr.build 77 #[]) (At w) fun v3 => OpA 4 v3 fun cs1 => StA 4 b1 0 cs1 w fun w => LdA 4 b1 0 (At w) fun cs2 => Ret [] (R
  (.tuple #[.agg cs2, .int .i64 n1]) w)) (LdA 3 b 0 (At w) fun cs3 => DoQ Try.prog (Instr.build 77 #[(0, .agg cs3)]) (At w) fun v4 => OpA 4 v4 fun cs4 => Alc 77 (zc Try.prog
  77) w fun b2 w => StA 4 b2 0 cs4 w fun w => CallV Try.prog 10 #[] w fun v5 w => OpN v5 fun b3 o => LdV b 0 (At w) fun v6 => OpI .i64 v6 fun n2 => LoopC (σ := Int × Unit)
  (fun _ s1 w K1 => Cb (decide (s1.1 < n2)) (CallV Try.prog 60 #[.int .i64 n, .pointer (some ⟨b3, o, none⟩)] w fun v7 w => T2 v7 fun v8 v9 => OpN v8 fun b4 o1 => OpI .i64 v9
  fun n3 => LoopC (σ := Int × Unit) (fun _ s2 w K2 => Cb (decide (s2.1 < n)) (DoQ Try.prog (Instr.build 40 #[]) (At w) fun v10 => OpA 16 v10 fun cs5 => CallV Try.prog 62
  #[.int .i64 s2.1, .agg cs5] w fun v11 w => OpA 17 v11 fun cs6 => DoV Try.prog (Instr.buildSlice 136 1 #[(0, .agg cs6)]) w fun v12 w => OpS v12 fun p l c => CallV Try.prog
  61 #[.pointer (some ⟨b4, o1, none⟩), .int .i64 s2.1, .slice p l c, .int .u32 0] w fun v13 w => T2 v13 fun v14 v15 => OpI .i64 v14 fun n4 => OpI .i64 v15 fun n5 => K2
  (IntKind.wrap .i64 (s2.1 + 1), ()) w) (HeldR w fun S w => LdV b2 3 S fun v16 => OpS v16 fun p1 l1 c1 => CallV Try.prog 63 #[.pointer (some ⟨b4, o1, none⟩), .pointer (some
  ⟨m, 0, none⟩)] w fun v17 w => OpN v17 fun b5 o2 => Hld (S w) (DoV Try.prog (Instr.buildSlice 75 1 #[(0, .pointer (some ⟨b5, o2, none⟩))]) w fun v18 w => OpS v18 fun p2 l2
  c2 => Hld (S w) (DoV Try.prog (Builtin.append_ #[75, 75] 75 #[.slice p1 l1 c1, .slice p2 l2 c2]) w fun v19 w => OpS v19 fun p3 l3 c3 => Hld (S w) (StV b2 3 (.slice p3 l3
  c3) w fun w => K1 (IntKind.wrap .i64 (s1.1 + 1), ()) w))))) (0, ()) w) (LdA 4 b2 0 (At w) fun cs7 => StA 4 b1 0 cs7 w fun w => LdA 4 b1 0 (At w) fun cs8 => Ret [] (R
  (.tuple #[.agg cs8, .int .i64 0]) w))) (0, ()) w)
theorem C_stripe_New {g : Array Value} {m : Nat} {w : World} {R : Value → World → Prop} (h : F_stripe_New g m w R) : CallV Try.prog 33 #[.agg g, .pointer (some ⟨m, 0, none⟩)] w R := by
  exact calls_of_F (args := [.agg g, .pointer (some ⟨m, 0, none⟩)]) (mkAnn [(9, [(30, (.int .i64))]), (12, [(39, (.int .i64))])] [] [] [] [54, 100027, 100035, 100054, 300000]) Try_mixed Try.func33 rfl rfl (by kernel_rfl) h
def F_stripe_Check (s : Array Value) (w : World) (R : Value → World → Prop) : Prop :=
  Alc 77 s w fun b w => LdA 3 b 0 (At w) fun cs => CallV Try.prog 59 #[.agg cs] w fun v w => T2 v fun v1 v2 => OpI .i64 v1 fun n => OpI .i64 v2 fun n1 => Cb (n1 != 0) (Ret
  [] (R (.int .i64 1) w)) (LdV b 3 (At w) fun v3 => OpS v3 fun p l c => LdV b 0 (At w) fun v4 => OpI .i64 v4 fun n2 => Cb (((l : Nat) : Int) != n2) (Ret [] (R (.int .i64 1)
  w)) (LdV b 3 (At w) fun v5 => OpS v5 fun p1 l1 c1 => LoopC (σ := Int × Unit) (fun _ s1 w K1 => Cb (decide (s1.1 < ((l1 : Nat) : Int))) (IdxS p1 l1 s1.1 1 fun b1 o => LdV
  b1 o (At w) fun v6 => OpN v6 fun b2 o1 => CallV Try.prog 95 #[.pointer (some ⟨b2, o1, none⟩)] w fun v7 w => OpI .i64 v7 fun n3 => Cb (n3 != n) (Ret [] (R (.int .i64 1) w))
  (LdV b 3 (At w) fun v8 => OpS v8 fun p2 l2 c2 => Slc l2 c2 none (some s1.1) none fun l3 h m => LoopC (σ := Int × Unit) (fun _ s2 w K2 => Cb (decide (s2.1 < ((h - l3 : Nat)
  : Int))) (IdxS (slcP 1 l3 m p2) (h - l3) s2.1 1 fun b3 o2 => LdV b3 o2 (At w) fun v9 => OpN v9 fun b4 o3 => EqB Try.prog .eql 88 (.tmp 51) (.tmp 52) (.pointer (some ⟨b4,
  o3, none⟩) : Value) (.pointer (some ⟨b2, o1, none⟩) : Value) (At w) fun g => Cb g (Ret [] (R (.int .i64 1) w)) (K2 (IntKind.wrap .i64 (s2.1 + 1), ()) w)) (K1 (IntKind.wrap
  .i64 (s1.1 + 1), ()) w)) (0, ()) w)) (Ret [] (R (.int .i64 0) w))) (0, ()) w))
theorem C_stripe_Check {s : Array Value} {w : World} {R : Value → World → Prop} (h : F_stripe_Check s w R) : CallV Try.prog 64 #[.agg s] w R := by
  exact calls_of_F (args := [.agg s]) (mkAnn [(5, [(29, (.int .i64))]), (10, [(47, (.int .i64))])] [] [] [] []) Try_mixed Try.func64 rfl rfl (by kernel_rfl) h
def F_stripe_Apply (s : Array Value) (putsp : Option Addr) (putsl : Nat) (putsc : Nat) (epoch : Int) (w : World) (R : Value → World → Prop) : Prop :=
  Alc 77 s w fun b w => LdA 4 b 0 (At w) fun cs => CallV Try.prog 64 #[.agg cs] w fun v w => OpI .i64 v fun n => Cb (n != 0) (Ret [] (R (.int .i64 n) w)) (LoopC (σ := Int ×
  Unit) (fun _ s1 w K1 => Cb (decide (s1.1 < ((putsl : Nat) : Int))) (IdxS putsp putsl s1.1 19 fun b1 o => LdA 19 b1 o (At w) fun cs1 => Alc 85 (zc Try.prog 85) w fun b2 w
  => StA 19 b2 0 cs1 w fun w => LdV b2 0 (At w) fun v1 => OpI .i64 v1 fun n1 => Cb (decide (n1 < 0)) (Drw w fun w => Ret [] (R (.int .i64 2) w)) (LdV b2 0 (At w) fun v2 =>
  OpI .i64 v2 fun n2 => LdV b 3 (At w) fun v3 => OpS v3 fun p l c => Cb (decide (n2 ≥ ((l : Nat) : Int))) (Drw w fun w => Ret [] (R (.int .i64 2) w)) (LdV b2 1 (At w) fun v4
  => OpI .i64 v4 fun n3 => Cb (decide (n3 < 0)) (Drw w fun w => Ret [] (R (.int .i64 2) w)) (LdV b2 1 (At w) fun v5 => OpI .i64 v5 fun n4 => LdV b 3 (At w) fun v6 => OpS v6
  fun p1 l1 c1 => IdxS p1 l1 0 1 fun b3 o1 => LdV b3 o1 (At w) fun v7 => OpN v7 fun b4 o2 => CallQ Try.prog 95 #[.pointer (some ⟨b4, o2, none⟩)] (At w) fun v8 => OpI .i64 v8
  fun n5 => Drw w fun w => Cb (decide (n4 ≥ n5)) (Ret [] (R (.int .i64 2) w)) (K1 (IntKind.wrap .i64 (s1.1 + 1), ()) w))))) (LoopC (σ := Int × Unit) (fun _ s2 w K2 => Cb
  (decide (s2.1 < ((putsl : Nat) : Int))) (IdxS putsp putsl s2.1 19 fun b5 o3 => LdA 19 b5 o3 (At w) fun cs2 => Alc 85 (zc Try.prog 85) w fun b6 w => StA 19 b6 0 cs2 w fun w
  => HeldR w fun S w => LdV b 3 S fun v9 => OpS v9 fun p2 l2 c2 => LdV b6 0 S fun v10 => OpI .i64 v10 fun n6 => IdxS p2 l2 n6 1 fun b7 o4 => LdV b7 o4 S fun v11 => OpN v11
  fun b8 o5 => LdV b6 1 S fun v12 => OpI .i64 v12 fun n7 => LdA 17 b6 2 S fun cs3 => DoV Try.prog (Instr.buildSlice 136 1 #[(0, .agg cs3)]) w fun v13 w => OpS v13 fun p3 l3
  c3 => Hld (S w) (CallV Try.prog 61 #[.pointer (some ⟨b8, o5, none⟩), .int .i64 n7, .slice p3 l3 c3, .int .u32 epoch] w fun v14 w => T2 v14 fun v15 v16 => OpI .i64 v15 fun
  n8 => OpI .i64 v16 fun n9 => Hld (S w) (Req ((n9 != 0) = (n9 != 0)) (Req ((n9 != 0) = (n9 != 0)) (Cb (cond (n9 != 0) (n9 != 5) false) (Ret [] (R (.int .i64 n9) w)) (K2
  (IntKind.wrap .i64 (s2.1 + 1), ()) w)))))) (Ret [] (R (.int .i64 0) w))) (0, ()) w)) (0, ()) w)
theorem C_stripe_Apply {s : Array Value} {putsp : Option Addr} {putsl : Nat} {putsc : Nat} {epoch : Int} {w : World} {R : Value → World → Prop} (h : F_stripe_Apply s putsp putsl putsc epoch w R) : CallV Try.prog 65 #[.agg s, .slice putsp putsl putsc, .int .u32 epoch] w R := by
  exact calls_of_F (args := [.agg s, .slice putsp putsl putsc, .int .u32 epoch]) (mkAnn [(5, [(21, (.int .i64))]), (11, [(58, (.int .i64))])] [] [] [] [77]) Try_mixed Try.func65 rfl rfl (by kernel_rfl) h
end Go.Proofs
