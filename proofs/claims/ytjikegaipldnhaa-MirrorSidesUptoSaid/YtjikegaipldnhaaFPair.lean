/- PRINTED BY pr.py (own program): what the evaluator of <Name>Ev makes of the code of some functions. -/
import Derived.Test.YtjikegaipldnhaaChecked
import Derived.Test.YtjikegaipldnhaaEv
import Derived.Test.YtjikegaipldnhaaMix
namespace Go.Proofs
open Go.Ev
set_option linter.unusedVariables false
set_option maxRecDepth 100000
def F_mirror_side (n : Int) (w : World) (R : Value → World → Prop) : Prop :=
  Req ((n == 0) = (n == 0)) (Req ((n == 0) = (n == 0)) (Ret [] (R (.bool (cond (n == 0) true (n == 1))) w)))
theorem C_mirror_side {n : Int} {w : World} {R : Value → World → Prop} (h : F_mirror_side n w R) : CallV Try.prog 45 #[.int .i64 n] w R := by
  exact calls_of_F (args := [.int .i64 n]) (mkAnn [] [] [] [] []) Try_mixed Try.func45 rfl rfl (by kernel_rfl) h
def F_mirror_Resume (a : Nat) (b : Nat) (room : Int) (epoch : Int) (last : Int) (dirtyp : Option Addr) (dirtyl : Nat) (dirtyc : Nat) (w : World) (R : Value → World → Prop) : Prop :=
  CallV Try.prog 72 #[.int .i64 room] w fun v w => T2 v fun v1 v2 => OpP v1 (OpI .i64 v2 fun n => Req (false = false) (Req (false = false) (EqB Try.prog .eql 27 (.tmp 35)
  (.tmp 36) (.pointer (some ⟨a, 0, none⟩) : Value) (.pointer (some ⟨b, 0, none⟩) : Value) (At w) fun g => Req (g = g) (Req (g = g) (Cb (cond g true (n != 0)) (Ret [] (R
  (.tuple #[.pointer none, .int .i64 2]) w)) (DoV Try.prog (Instr.makeMap 147 none) w fun v3 w => OpM v3 fun m => LoopC (σ := Int × Unit) (fun _ s1 w K1 => Cb (decide (s1.1
  < ((dirtyl : Nat) : Int))) (IdxS dirtyp dirtyl s1.1 19 fun b1 o => LdA 19 b1 o (At w) fun cs => Alc 46 (zc Try.prog 46) w fun b2 w => StA 19 b2 0 cs w fun w => LdV b2 2
  (At w) fun v4 => OpI .i64 v4 fun n1 => DoQ Try.prog (Instr.lookup 147 (.map m) (.int .i64 n1) true) (At w) fun v5 => T2 v5 fun v6 v7 => OpA 0 v6 fun cs1 => OpB v7 fun g1
  => Alc 100 (zc Try.prog 100) w fun b3 w => StA 0 b3 0 cs1 w fun w => LdV b2 0 (At w) fun v8 => OpI .i64 v8 fun n2 => Cb (n2 != 1) (Req (true = true) (Ret [] (R (.tuple
  #[.pointer none, .int .i64 2]) w))) (LdV b2 2 (At w) fun v9 => OpI .i64 v9 fun n3 => Cb (decide (n3 < 0)) (Req (true = true) (Ret [] (R (.tuple #[.pointer none, .int .i64
  2]) w))) (LdV b2 2 (At w) fun v10 => OpI .i64 v10 fun n4 => Cb (decide (n4 > 2147483647)) (Req (true = true) (Ret [] (R (.tuple #[.pointer none, .int .i64 2]) w))) (LdV b2
  1 (At w) fun v11 => OpI .u64 v11 fun n5 => Req ((decide (n5 > last)) = (decide (n5 > last))) (Cb (cond (decide (n5 > last)) true g1) (Ret [] (R (.tuple #[.pointer none,
  .int .i64 2]) w)) (LdV b2 2 (At w) fun v12 => OpI .i64 v12 fun n6 => DoQ Try.prog (Instr.build 100 #[]) (At w) fun v13 => OpA 0 v13 fun cs2 => DoU Try.prog
  (Instr.mapUpdate 147 (.map m) (.int .i64 n6) (.agg cs2)) w fun w => K1 (IntKind.wrap .i64 (s1.1 + 1), ()) w)))))) (Cb (decide (((dirtyl : Nat) : Int) > room)) (Ret [] (R
  (.tuple #[.pointer none, .int .i64 9]) w)) (LoopC (σ := Int × Unit) (fun _ s2 w K2 => Cb (decide (s2.1 < ((dirtyl : Nat) : Int))) (IdxS dirtyp dirtyl s2.1 19 fun b4 o1 =>
  LdA 19 b4 o1 (At w) fun cs3 => Alc 46 (zc Try.prog 46) w fun b5 w => StA 19 b5 0 cs3 w fun w => LdV b5 2 (At w) fun v14 => OpI .i64 v14 fun n7 => LdA 16 b5 3 (At w) fun
  cs4 => LdV b5 1 (At w) fun v15 => OpI .u64 v15 fun n8 => CallV Try.prog 47 #[.pointer none, .int .i64 n7, .agg cs4, .int .u64 n8] w fun v16 w => OpI .i64 v16 fun n9 => K2
  (IntKind.wrap .i64 (s2.1 + 1), ()) w) (DoQ Try.prog (Instr.build 115 #[(0, .pointer (some ⟨a, 0, none⟩)), (1, .pointer (some ⟨b, 0, none⟩))]) (At w) fun v17 => OpA 2 v17
  fun cs5 => DoQ Try.prog (Instr.build 116 #[(0, .bool true), (1, .bool true)]) (At w) fun v18 => OpA 2 v18 fun cs6 => DoQ Try.prog (Instr.build 118 #[(0, .pointer none),
  (1, .agg cs5), (2, .agg cs6), (3, .int .u32 epoch), (4, .int .u64 last)]) (At w) fun v19 => OpA 7 v19 fun cs7 => Alc 118 cs7 w fun b6 w => Ret [] (R (.tuple #[.pointer
  (some ⟨b6, 0, none⟩), .int .i64 0]) w))) (0, ()) w))) (0, ()) w)))))) fun b7 o2 => OpI .i64 v2 fun n10 => Req (false = false) (Req (false = false) (EqB Try.prog .eql 27
  (.tmp 35) (.tmp 36) (.pointer (some ⟨a, 0, none⟩) : Value) (.pointer (some ⟨b, 0, none⟩) : Value) (At w) fun g2 => Req (g2 = g2) (Req (g2 = g2) (Cb (cond g2 true (n10 !=
  0)) (Ret [] (R (.tuple #[.pointer none, .int .i64 2]) w)) (DoV Try.prog (Instr.makeMap 147 none) w fun v20 w => OpM v20 fun m1 => LoopC (σ := Int × Unit) (fun _ s3 w K3 =>
  Cb (decide (s3.1 < ((dirtyl : Nat) : Int))) (IdxS dirtyp dirtyl s3.1 19 fun b8 o3 => LdA 19 b8 o3 (At w) fun cs8 => Alc 46 (zc Try.prog 46) w fun b9 w => StA 19 b9 0 cs8 w
  fun w => LdV b9 2 (At w) fun v21 => OpI .i64 v21 fun n11 => DoQ Try.prog (Instr.lookup 147 (.map m1) (.int .i64 n11) true) (At w) fun v22 => T2 v22 fun v23 v24 => OpA 0
  v23 fun cs9 => OpB v24 fun g3 => Alc 100 (zc Try.prog 100) w fun b10 w => StA 0 b10 0 cs9 w fun w => LdV b9 0 (At w) fun v25 => OpI .i64 v25 fun n12 => Cb (n12 != 1) (Req
  (true = true) (Ret [] (R (.tuple #[.pointer none, .int .i64 2]) w))) (LdV b9 2 (At w) fun v26 => OpI .i64 v26 fun n13 => Cb (decide (n13 < 0)) (Req (true = true) (Ret []
  (R (.tuple #[.pointer none, .int .i64 2]) w))) (LdV b9 2 (At w) fun v27 => OpI .i64 v27 fun n14 => Cb (decide (n14 > 2147483647)) (Req (true = true) (Ret [] (R (.tuple
  #[.pointer none, .int .i64 2]) w))) (LdV b9 1 (At w) fun v28 => OpI .u64 v28 fun n15 => Req ((decide (n15 > last)) = (decide (n15 > last))) (Cb (cond (decide (n15 > last))
  true g3) (Ret [] (R (.tuple #[.pointer none, .int .i64 2]) w)) (LdV b9 2 (At w) fun v29 => OpI .i64 v29 fun n16 => DoQ Try.prog (Instr.build 100 #[]) (At w) fun v30 => OpA
  0 v30 fun cs10 => DoU Try.prog (Instr.mapUpdate 147 (.map m1) (.int .i64 n16) (.agg cs10)) w fun w => K3 (IntKind.wrap .i64 (s3.1 + 1), ()) w)))))) (Cb (decide (((dirtyl :
  Nat) : Int) > room)) (Ret [] (R (.tuple #[.pointer none, .int .i64 9]) w)) (LoopC (σ := Int × Unit) (fun _ s4 w K4 => Cb (decide (s4.1 < ((dirtyl : Nat) : Int))) (IdxS
  dirtyp dirtyl s4.1 19 fun b11 o4 => LdA 19 b11 o4 (At w) fun cs11 => Alc 46 (zc Try.prog 46) w fun b12 w => StA 19 b12 0 cs11 w fun w => LdV b12 2 (At w) fun v31 => OpI
  .i64 v31 fun n17 => LdA 16 b12 3 (At w) fun cs12 => LdV b12 1 (At w) fun v32 => OpI .u64 v32 fun n18 => CallV Try.prog 47 #[.pointer (some ⟨b7, o2, none⟩), .int .i64 n17,
  .agg cs12, .int .u64 n18] w fun v33 w => OpI .i64 v33 fun n19 => K4 (IntKind.wrap .i64 (s4.1 + 1), ()) w) (DoQ Try.prog (Instr.build 115 #[(0, .pointer (some ⟨a, 0,
  none⟩)), (1, .pointer (some ⟨b, 0, none⟩))]) (At w) fun v34 => OpA 2 v34 fun cs13 => DoQ Try.prog (Instr.build 116 #[(0, .bool true), (1, .bool true)]) (At w) fun v35 =>
  OpA 2 v35 fun cs14 => DoQ Try.prog (Instr.build 118 #[(0, .pointer (some ⟨b7, o2, none⟩)), (1, .agg cs13), (2, .agg cs14), (3, .int .u32 epoch), (4, .int .u64 last)]) (At
  w) fun v36 => OpA 7 v36 fun cs15 => Alc 118 cs15 w fun b13 w => Ret [] (R (.tuple #[.pointer (some ⟨b13, 0, none⟩), .int .i64 0]) w))) (0, ()) w))) (0, ()) w)))))
theorem C_mirror_Resume {a : Nat} {b : Nat} {room : Int} {epoch : Int} {last : Int} {dirtyp : Option Addr} {dirtyl : Nat} {dirtyc : Nat} {w : World} {R : Value → World → Prop} (h : F_mirror_Resume a b room epoch last dirtyp dirtyl dirtyc w R) : CallV Try.prog 42 #[.pointer (some ⟨a, 0, none⟩), .pointer (some ⟨b, 0, none⟩), .int .i64 room, .int .u32 epoch, .int .u64 last, .slice dirtyp dirtyl dirtyc] w R := by
  exact calls_of_F (args := [.pointer (some ⟨a, 0, none⟩), .pointer (some ⟨b, 0, none⟩), .int .i64 room, .int .u32 epoch, .int .u64 last, .slice dirtyp dirtyl dirtyc]) (mkAnn [(6, [(46, (.int .i64))]), (16, [(90, (.int .i64))])] [] [] [] []) Try_mixed Try.func42 rfl rfl (by kernel_rfl) h
def F_mirror_New (a : Nat) (b : Nat) (room : Int) (w : World) (R : Value → World → Prop) : Prop :=
  CallV Try.prog 42 #[.pointer (some ⟨a, 0, none⟩), .pointer (some ⟨b, 0, none⟩), .int .i64 room, .int .u32 0, .int .u64 0, .slice none 0 0] w fun v w => T2 v fun v1 v2 =>
  OpP v1 (OpI .i64 v2 fun n => Ret [] (R (.tuple #[.pointer none, .int .i64 n]) w)) fun b1 o => OpI .i64 v2 fun n1 => Ret [] (R (.tuple #[.pointer (some ⟨b1, o, none⟩), .int
  .i64 n1]) w)
theorem C_mirror_New {a : Nat} {b : Nat} {room : Int} {w : World} {R : Value → World → Prop} (h : F_mirror_New a b room w R) : CallV Try.prog 12 #[.pointer (some ⟨a, 0, none⟩), .pointer (some ⟨b, 0, none⟩), .int .i64 room] w R := by
  exact calls_of_F (args := [.pointer (some ⟨a, 0, none⟩), .pointer (some ⟨b, 0, none⟩), .int .i64 room]) (mkAnn [] [] [] [] []) Try_mixed Try.func12 rfl rfl (by kernel_rfl) h
def F_mirror_Pair_Up (p : Nat) (from_ : Int) (w : World) (R : Value → World → Prop) : Prop :=
  CallV Try.prog 45 #[.int .i64 from_] w fun v w => OpB v fun g => Cb (!g) (Ret [] (R (.slice none 0 0) w)) (DoV Try.prog (Instr.buildSlice 35 2 #[(0, .int .i64 from_), (1,
  .int .i64 (IntKind.wrap .i64 (1 - from_)))]) w fun v1 w => OpS v1 fun p1 l c => LoopC (σ := (Option Addr × Nat × Nat) × Int × Unit) (fun _ s1 w K1 => Cb (decide (s1.2.1 <
  ((l : Nat) : Int))) (IdxS p1 l s1.2.1 1 fun b o => LdV b o (At w) fun v2 => OpI .i64 v2 fun n => Req (0 ≤ n ∧ n < 2) (LdV p (3 + Int.toNat n * 1) (At w) fun v3 => OpB v3
  fun g1 => Cb g1 (Req (0 ≤ n ∧ n < 2) (LdV p (1 + Int.toNat n * 1) (At w) fun v4 => OpN v4 fun b1 o1 => DoV Try.prog (Instr.buildSlice 50 1 #[(0, .pointer (some ⟨b1, o1,
  none⟩))]) w fun v5 w => OpS v5 fun p2 l1 c1 => DoV Try.prog (Builtin.append_ #[50, 50] 50 #[.slice s1.1.1 s1.1.2.1 s1.1.2.2, .slice p2 l1 c1]) w fun v6 w => OpS v6 fun p3
  l2 c2 => K1 ((p3, l2, c2), (IntKind.wrap .i64 (s1.2.1 + 1), ())) w)) (K1 ((s1.1.1, s1.1.2.1, s1.1.2.2), (IntKind.wrap .i64 (s1.2.1 + 1), ())) w))) (Ret [] (R (.slice
  s1.1.1 s1.1.2.1 s1.1.2.2) w))) ((none, 0, 0), (0, ())) w)
theorem C_mirror_Pair_Up {p : Nat} {from_ : Int} {w : World} {R : Value → World → Prop} (h : F_mirror_Pair_Up p from_ w R) : CallV Try.prog 41 #[.pointer (some ⟨p, 0, none⟩), .int .i64 from_] w R := by
  exact calls_of_F (args := [.pointer (some ⟨p, 0, none⟩), .int .i64 from_]) (mkAnn [(5, [(5, .slice), (20, (.int .i64))])] [] [] [] []) Try_mixed Try.func41 rfl rfl (by kernel_rfl) h
def F_mirror_Pair_each (p : Nat) (from_ : Int) (x : Array Value) (w : World) (R : Value → World → Prop) : Prop :=
  Alc 46 x w fun b w => CallV Try.prog 41 #[.pointer (some ⟨p, 0, none⟩), .int .i64 from_] w fun v w => OpS v fun p1 l c => LoopC (σ := Int × Unit) (fun _ s1 w K1 => Cb
  (decide (s1.1 < ((l : Nat) : Int))) (IdxS p1 l s1.1 1 fun b1 o => LdV b1 o (At w) fun v1 => OpN v1 fun b2 o1 => LdA 19 b 0 (At w) fun cs => CallV Try.prog 75 #[.pointer
  (some ⟨b2, o1, none⟩), .agg cs] w fun v2 w => OpI .i64 v2 fun n => Cb (n != 0) (Ret [] (R (.int .i64 n) w)) (K1 (IntKind.wrap .i64 (s1.1 + 1), ()) w)) (Ret [] (R (.int
  .i64 0) w))) (0, ()) w
theorem C_mirror_Pair_each {p : Nat} {from_ : Int} {x : Array Value} {w : World} {R : Value → World → Prop} (h : F_mirror_Pair_each p from_ x w R) : CallV Try.prog 46 #[.pointer (some ⟨p, 0, none⟩), .int .i64 from_, .agg x] w R := by
  exact calls_of_F (args := [.pointer (some ⟨p, 0, none⟩), .int .i64 from_, .agg x]) (mkAnn [(2, [(14, (.int .i64))])] [] [] [] []) Try_mixed Try.func46 rfl rfl (by kernel_rfl) h
def F_mirror_Pair_Take (p : Nat) (w : World) (R : Value → World → Prop) : Prop :=
  LdV p 6 (At w) fun v => OpI .u64 v fun n => StV p 6 (.int .u64 (IntKind.wrap .u64 (n + 1))) w fun w => LdV p 6 (At w) fun v1 => OpI .u64 v1 fun n1 => Ret [] (R (.int .u64
  n1) w)
theorem C_mirror_Pair_Take {p : Nat} {w : World} {R : Value → World → Prop} (h : F_mirror_Pair_Take p w R) : CallV Try.prog 39 #[.pointer (some ⟨p, 0, none⟩)] w R := by
  exact calls_of_F (args := [.pointer (some ⟨p, 0, none⟩)]) (mkAnn [] [] [] [] []) Try_mixed Try.func39 rfl rfl (by kernel_rfl) h
def F_mirror_Pair_Get (p : Nat) (lba : Int) (w : World) (R : Value → World → Prop) : Prop :=
  Alc 40 (zc Try.prog 40) w fun b w => LdV p 0 (At w) fun v => OpN v fun b1 o => CallV Try.prog 68 #[.pointer (some ⟨b1, o, none⟩), .int .i64 lba] w fun v1 w => T3 v1 fun v2
  v3 v4 => OpA 16 v2 fun cs => OpI .u64 v3 fun n => OpI .i64 v4 fun n1 => StA 16 b 0 cs w fun w => LdA 16 b 0 (At w) fun cs1 => Ret [] (R (.tuple #[.agg cs1, .int .u64 n,
  .int .i64 n1]) w)
theorem C_mirror_Pair_Get {p : Nat} {lba : Int} {w : World} {R : Value → World → Prop} (h : F_mirror_Pair_Get p lba w R) : CallV Try.prog 36 #[.pointer (some ⟨p, 0, none⟩), .int .i64 lba] w R := by
  exact calls_of_F (args := [.pointer (some ⟨p, 0, none⟩), .int .i64 lba]) (mkAnn [] [] [] [] []) Try_mixed Try.func36 rfl rfl (by kernel_rfl) h
def F_mirror_Pair_Full (p : Nat) (w : World) (R : Value → World → Prop) : Prop :=
  LdV p 0 (At w) fun v => OpN v fun b o => CallV Try.prog 71 #[.pointer (some ⟨b, o, none⟩)] w fun v1 w => OpB v1 fun g => Ret [] (R (.bool g) w)
theorem C_mirror_Pair_Full {p : Nat} {w : World} {R : Value → World → Prop} (h : F_mirror_Pair_Full p w R) : CallV Try.prog 40 #[.pointer (some ⟨p, 0, none⟩)] w R := by
  exact calls_of_F (args := [.pointer (some ⟨p, 0, none⟩)]) (mkAnn [] [] [] [] []) Try_mixed Try.func40 rfl rfl (by kernel_rfl) h
def F_mirror_Pair_Put (p : Nat) (from_ : Int) (lba : Int) (data : Array Value) (w : World) (R : Value → World → Prop) : Prop :=
  Alc 40 data w fun b w => CallV Try.prog 45 #[.int .i64 from_] w fun v w => OpB v fun g => Req ((!g) = (!g)) (Req ((!g) = (!g)) (Req ((cond (!g) true (decide (lba < 0))) =
  (cond (!g) true (decide (lba < 0)))) (Req ((cond (!g) true (decide (lba < 0))) = (cond (!g) true (decide (lba < 0)))) (Cb (cond (cond (!g) true (decide (lba < 0))) true
  (decide (lba > 2147483647))) (Ret [] (R (.tuple #[.int .u64 0, .int .i64 2]) w)) (Req (0 ≤ from_ ∧ from_ < 2) (LdV p (3 + Int.toNat from_ * 1) (At w) fun v1 => OpB v1 fun
  g1 => Cb (!g1) (Ret [] (R (.tuple #[.int .u64 0, .int .i64 13]) w)) (CallV Try.prog 36 #[.pointer (some ⟨p, 0, none⟩), .int .i64 lba] w fun v2 w => T3 v2 fun v3 v4 v5 =>
  OpA 16 v3 fun cs => OpI .u64 v4 fun n => OpI .i64 v5 fun n1 => Alc 40 (zc Try.prog 40) w fun b1 w => StA 16 b1 0 cs w fun w => Cb (n1 != 0) (CallV Try.prog 40 #[.pointer
  (some ⟨p, 0, none⟩)] w fun v6 w => OpB v6 fun g2 => Cb g2 (Ret [] (R (.tuple #[.int .u64 0, .int .i64 9]) w)) (CallV Try.prog 39 #[.pointer (some ⟨p, 0, none⟩)] w fun v7 w
  => OpI .u64 v7 fun n2 => LdA 16 b 0 (At w) fun cs1 => DoQ Try.prog (Instr.build 46 #[(0, .int .i64 1), (1, .int .u64 n2), (2, .int .i64 lba), (3, .agg cs1)]) (At w) fun v8
  => OpA 19 v8 fun cs2 => CallV Try.prog 46 #[.pointer (some ⟨p, 0, none⟩), .int .i64 from_, .agg cs2] w fun v9 w => OpI .i64 v9 fun n3 => Cb (n3 != 0) (Ret [] (R (.tuple
  #[.int .u64 0, .int .i64 n3]) w)) (HeldR w fun S w => LdV p 0 (At w) fun v10 => OpN v10 fun b2 o => LdA 16 b 0 (At w) fun cs3 => CallV Try.prog 47 #[.pointer (some ⟨b2, o,
  none⟩), .int .i64 lba, .agg cs3, .int .u64 n2] w fun v11 w => OpI .i64 v11 fun n4 => Hld (S w) (Ret [] (R (.tuple #[.int .u64 n2, .int .i64 0]) w))))) (CallV Try.prog 39
  #[.pointer (some ⟨p, 0, none⟩)] w fun v12 w => OpI .u64 v12 fun n5 => LdA 16 b 0 (At w) fun cs4 => DoQ Try.prog (Instr.build 46 #[(0, .int .i64 1), (1, .int .u64 n5), (2,
  .int .i64 lba), (3, .agg cs4)]) (At w) fun v13 => OpA 19 v13 fun cs5 => CallV Try.prog 46 #[.pointer (some ⟨p, 0, none⟩), .int .i64 from_, .agg cs5] w fun v14 w => OpI
  .i64 v14 fun n6 => Cb (n6 != 0) (Ret [] (R (.tuple #[.int .u64 0, .int .i64 n6]) w)) (HeldR w fun S w => LdV p 0 (At w) fun v15 => OpN v15 fun b3 o1 => LdA 16 b 0 (At w)
  fun cs6 => CallV Try.prog 47 #[.pointer (some ⟨b3, o1, none⟩), .int .i64 lba, .agg cs6, .int .u64 n5] w fun v16 w => OpI .i64 v16 fun n7 => Hld (S w) (Ret [] (R (.tuple
  #[.int .u64 n5, .int .i64 0]) w)))))))))))
theorem C_mirror_Pair_Put {p : Nat} {from_ : Int} {lba : Int} {data : Array Value} {w : World} {R : Value → World → Prop} (h : F_mirror_Pair_Put p from_ lba data w R) : CallV Try.prog 14 #[.pointer (some ⟨p, 0, none⟩), .int .i64 from_, .int .i64 lba, .agg data] w R := by
  exact calls_of_F (args := [.pointer (some ⟨p, 0, none⟩), .int .i64 from_, .int .i64 lba, .agg data]) (mkAnn [] [] [] [] [71]) Try_mixed Try.func14 rfl rfl (by kernel_rfl) h
def F_mirror_Pair_Next (p : Nat) (w : World) (R : Value → World → Prop) : Prop :=
  Alc 46 (zc Try.prog 46) w fun b w => LdV p 0 (At w) fun v => OpN v fun b1 o => CallV Try.prog 69 #[.pointer (some ⟨b1, o, none⟩)] w fun v1 w => T2 v1 fun v2 v3 => OpA 19
  v2 fun cs => OpI .i64 v3 fun n => StA 19 b 0 cs w fun w => LdA 19 b 0 (At w) fun cs1 => Ret [] (R (.tuple #[.agg cs1, .int .i64 n]) w)
theorem C_mirror_Pair_Next {p : Nat} {w : World} {R : Value → World → Prop} (h : F_mirror_Pair_Next p w R) : CallV Try.prog 37 #[.pointer (some ⟨p, 0, none⟩)] w R := by
  exact calls_of_F (args := [.pointer (some ⟨p, 0, none⟩)]) (mkAnn [] [] [] [] []) Try_mixed Try.func37 rfl rfl (by kernel_rfl) h
def F_mirror_Pair_Dirty (p : Nat) (w : World) (R : Value → World → Prop) : Prop :=
  LdV p 0 (At w) fun v => OpN v fun b o => CallV Try.prog 58 #[.pointer (some ⟨b, o, none⟩)] w fun v1 w => OpS v1 fun p1 l c => Ret [] (R (.slice p1 l c) w)
theorem C_mirror_Pair_Dirty {p : Nat} {w : World} {R : Value → World → Prop} (h : F_mirror_Pair_Dirty p w R) : CallV Try.prog 32 #[.pointer (some ⟨p, 0, none⟩)] w R := by
  exact calls_of_F (args := [.pointer (some ⟨p, 0, none⟩)]) (mkAnn [] [] [] [] []) Try_mixed Try.func32 rfl rfl (by kernel_rfl) h
def F_mirror_Pair_Flushed (p : Nat) (lba : Int) (version : Int) (w : World) (R : Value → World → Prop) : Prop :=
  CallV Try.prog 36 #[.pointer (some ⟨p, 0, none⟩), .int .i64 lba] w fun v w => T3 v fun v1 v2 v3 => OpA 16 v1 fun cs => OpI .u64 v2 fun n => OpI .i64 v3 fun n1 => Alc 40
  (zc Try.prog 40) w fun b w => StA 16 b 0 cs w fun w => Cb (n1 != 0) (Ret [] (R (.int .i64 n1) w)) (Cb (decide (n > version)) (Ret [] (R (.int .i64 12) w)) (DoQ Try.prog
  (Instr.build 46 #[(0, .int .i64 2), (1, .int .u64 version), (2, .int .i64 lba)]) (At w) fun v4 => OpA 19 v4 fun cs1 => CallV Try.prog 46 #[.pointer (some ⟨p, 0, none⟩),
  .int .i64 0, .agg cs1] w fun v5 w => OpI .i64 v5 fun n2 => Cb (n2 != 0) (Ret [] (R (.int .i64 n2) w)) (LdV p 0 (At w) fun v6 => OpN v6 fun b1 o => CallV Try.prog 70
  #[.pointer (some ⟨b1, o, none⟩), .int .i64 lba, .int .u64 version] w fun v7 w => OpI .i64 v7 fun n3 => Ret [] (R (.int .i64 n3) w))))
theorem C_mirror_Pair_Flushed {p : Nat} {lba : Int} {version : Int} {w : World} {R : Value → World → Prop} (h : F_mirror_Pair_Flushed p lba version w R) : CallV Try.prog 38 #[.pointer (some ⟨p, 0, none⟩), .int .i64 lba, .int .u64 version] w R := by
  exact calls_of_F (args := [.pointer (some ⟨p, 0, none⟩), .int .i64 lba, .int .u64 version]) (mkAnn [] [] [] [] []) Try_mixed Try.func38 rfl rfl (by kernel_rfl) h
def F_mirror_Pair_Stamp (p : Nat) (epoch : Int) (w : World) (R : Value → World → Prop) : Prop :=
  DoQ Try.prog (Instr.build 46 #[(0, .int .i64 6), (1, .int .u64 (IntKind.wrap .u64 epoch))]) (At w) fun v => OpA 19 v fun cs => CallV Try.prog 46 #[.pointer (some ⟨p, 0,
  none⟩), .int .i64 0, .agg cs] w fun v1 w => OpI .i64 v1 fun n => Cb (n != 0) (Ret [] (R (.int .i64 n) w)) (StV p 5 (.int .u32 epoch) w fun w => Ret [] (R (.int .i64 0) w))
theorem C_mirror_Pair_Stamp {p : Nat} {epoch : Int} {w : World} {R : Value → World → Prop} (h : F_mirror_Pair_Stamp p epoch w R) : CallV Try.prog 28 #[.pointer (some ⟨p, 0, none⟩), .int .u32 epoch] w R := by
  exact calls_of_F (args := [.pointer (some ⟨p, 0, none⟩), .int .u32 epoch]) (mkAnn [] [] [] [] []) Try_mixed Try.func28 rfl rfl (by kernel_rfl) h
def F_mirror_Pair_Leave (p : Nat) (n : Int) (w : World) (R : Value → World → Prop) : Prop :=
  CallV Try.prog 45 #[.int .i64 n] w fun v w => OpB v fun g => Cb (!g) (Ret [] (R (.int .i64 2) w)) (Req (0 ≤ (0 : Int) ∧ (0 : Int) < 2) (LdV p (3 + Int.toNat 0 * 1) (At w)
  fun v1 => OpB v1 fun g1 => Cb (!g1) (Ret [] (R (.int .i64 13) w)) (Req (0 ≤ (1 : Int) ∧ (1 : Int) < 2) (LdV p (3 + Int.toNat 1 * 1) (At w) fun v2 => OpB v2 fun g2 => Cb
  (!g2) (Ret [] (R (.int .i64 13) w)) (Req (0 ≤ n ∧ n < 2) (StV p (3 + Int.toNat n * 1) (.bool false) w fun w => Ret [] (R (.int .i64 0) w)))))))
theorem C_mirror_Pair_Leave {p : Nat} {n : Int} {w : World} {R : Value → World → Prop} (h : F_mirror_Pair_Leave p n w R) : CallV Try.prog 29 #[.pointer (some ⟨p, 0, none⟩), .int .i64 n] w R := by
  exact calls_of_F (args := [.pointer (some ⟨p, 0, none⟩), .int .i64 n]) (mkAnn [] [] [] [] []) Try_mixed Try.func29 rfl rfl (by kernel_rfl) h
def F_mirror_Pair_short (p : Nat) (w : World) (R : Value → World → Prop) : Prop :=
  HeldR w fun S w => LdV p 5 S fun v => OpI .u32 v fun n => DoQ Try.prog (Instr.build 46 #[(0, .int .i64 6), (1, .int .u64 (IntKind.wrap .u64 n))]) S fun v1 => OpA 19 v1 fun
  cs => (DoV Try.prog (Instr.buildSlice 41 1 #[(0, .agg cs)]) w fun v2 w => OpS v2 fun p1 l c => Hld (S w) (CallV Try.prog 32 #[.pointer (some ⟨p, 0, none⟩)] w fun v3 w =>
  OpS v3 fun p2 l1 c1 => Hld (S w) (DoV Try.prog (Builtin.append_ #[41, 41] 41 #[.slice p1 l c, .slice p2 l1 c1]) w fun v4 w => OpS v4 fun p3 l2 c2 => Hld (S w) (Ret [] (R
  (.slice p3 l2 c2) w))))) ∧ (CallV Try.prog 32 #[.pointer (some ⟨p, 0, none⟩)] w fun v5 w => OpS v5 fun p4 l3 c3 => Hld (S w) (DoV Try.prog (Instr.buildSlice 41 1 #[(0,
  .agg cs)]) w fun v6 w => OpS v6 fun p5 l4 c4 => Hld (S w) (DoV Try.prog (Builtin.append_ #[41, 41] 41 #[.slice p5 l4 c4, .slice p4 l3 c3]) w fun v7 w => OpS v7 fun p6 l5
  c5 => Hld (S w) (Ret [] (R (.slice p6 l5 c5) w)))))
theorem C_mirror_Pair_short {p : Nat} {w : World} {R : Value → World → Prop} (h : F_mirror_Pair_short p w R) : CallV Try.prog 57 #[.pointer (some ⟨p, 0, none⟩)] w R := by
  exact calls_of_F (args := [.pointer (some ⟨p, 0, none⟩)]) (mkAnn [] [] [] [] [11]) Try_mixed Try.func57 rfl rfl (by kernel_rfl) h
def F_mirror_Pair_Join (p : Nat) (n : Int) (w : World) (R : Value → World → Prop) : Prop :=
  CallV Try.prog 45 #[.int .i64 n] w fun v w => OpB v fun g => Cb (!g) (Ret [] (R (.int .i64 2) w)) (Req (0 ≤ n ∧ n < 2) (LdV p (3 + Int.toNat n * 1) (At w) fun v1 => OpB v1
  fun g1 => Cb g1 (Ret [] (R (.int .i64 11) w)) (HeldR w fun S w => Req (0 ≤ n ∧ n < 2) (LdV p (1 + Int.toNat n * 1) S fun v2 => OpN v2 fun b o => CallV Try.prog 57
  #[.pointer (some ⟨p, 0, none⟩)] w fun v3 w => OpS v3 fun p1 l c => Hld (S w) (CallV Try.prog 56 #[.pointer (some ⟨b, o, none⟩), .slice p1 l c] w fun v4 w => OpI .i64 v4
  fun n1 => Hld (S w) (Cb (n1 != 0) (Ret [] (R (.int .i64 n1) w)) (Req (0 ≤ n ∧ n < 2) (StV p (3 + Int.toNat n * 1) (.bool true) w fun w => Ret [] (R (.int .i64 0)
  w)))))))))
theorem C_mirror_Pair_Join {p : Nat} {n : Int} {w : World} {R : Value → World → Prop} (h : F_mirror_Pair_Join p n w R) : CallV Try.prog 30 #[.pointer (some ⟨p, 0, none⟩), .int .i64 n] w R := by
  exact calls_of_F (args := [.pointer (some ⟨p, 0, none⟩), .int .i64 n]) (mkAnn [] [] [] [] [28, 29]) Try_mixed Try.func30 rfl rfl (by kernel_rfl) h
def F_mirror_Pair_Compact (p : Nat) (w : World) (R : Value → World → Prop) : Prop :=
  CallV Try.prog 41 #[.pointer (some ⟨p, 0, none⟩), .int .i64 0] w fun v w => OpS v fun p1 l c => LoopC (σ := Int × Unit) (fun _ s1 w K1 => Cb (decide (s1.1 < ((l : Nat) :
  Int))) (IdxS p1 l s1.1 1 fun b o => LdV b o (At w) fun v1 => OpN v1 fun b1 o1 => CallV Try.prog 57 #[.pointer (some ⟨p, 0, none⟩)] w fun v2 w => OpS v2 fun p2 l1 c1 =>
  CallV Try.prog 56 #[.pointer (some ⟨b1, o1, none⟩), .slice p2 l1 c1] w fun v3 w => OpI .i64 v3 fun n => Cb (n != 0) (Ret [] (R (.int .i64 n) w)) (K1 (IntKind.wrap .i64
  (s1.1 + 1), ()) w)) (Ret [] (R (.int .i64 0) w))) (0, ()) w
theorem C_mirror_Pair_Compact {p : Nat} {w : World} {R : Value → World → Prop} (h : F_mirror_Pair_Compact p w R) : CallV Try.prog 31 #[.pointer (some ⟨p, 0, none⟩)] w R := by
  exact calls_of_F (args := [.pointer (some ⟨p, 0, none⟩)]) (mkAnn [(4, [(11, (.int .i64))])] [] [] [] []) Try_mixed Try.func31 rfl rfl (by kernel_rfl) h
end Go.Proofs
