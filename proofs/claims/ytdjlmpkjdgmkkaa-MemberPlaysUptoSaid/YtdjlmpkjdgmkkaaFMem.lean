/- PRINTED BY pr.py (own program): what the evaluator of <Name>Ev makes of the code of some functions. -/
import Derived.Test.YtdjlmpkjdgmkkaaChecked
import Derived.Test.YtdjlmpkjdgmkkaaEv
import Derived.Test.YtdjlmpkjdgmkkaaMix
namespace Go.Proofs
open Go.Ev
set_option linter.unusedVariables false
set_option maxRecDepth 100000
def F_member_Club_side (c : Nat) (n : Int) (w : World) (R : Value → World → Prop) : Prop :=
  Req (false = false) (Req (false = false) (Req ((decide (n < 0)) = (decide (n < 0))) (Req ((decide (n < 0)) = (decide (n < 0))) (Cb (cond (decide (n < 0)) true (decide (n >
  1))) (Ret [] (R (.pointer none) w)) (Req (0 ≤ n ∧ n < 2) (Ret [] (R (.pointer (some ⟨c, 0 + Int.toNat n * 3, none⟩)) w)))))))
theorem C_member_Club_side {c : Nat} {n : Int} {w : World} {R : Value → World → Prop} (h : F_member_Club_side c n w R) : CallV Try.prog 48 #[.pointer (some ⟨c, 0, none⟩), .int .i64 n] w R := by
  exact calls_of_F (args := [.pointer (some ⟨c, 0, none⟩), .int .i64 n]) (mkAnn [] [] [] [] []) Try_mixed Try.func48 rfl rfl (by kernel_rfl) h
def F_member_Club_drive (c : Nat) (n : Int) (w : World) (R : Value → World → Prop) : Prop :=
  Req (false = false) (Req (false = false) (Cb (decide (n < 0)) (Ret [] (R (.pointer none) w)) (LdV c 6 (At w) fun v => OpS v fun p l c1 => Cb (decide (n ≥ ((l : Nat) :
  Int))) (Ret [] (R (.pointer none) w)) (LdV c 6 (At w) fun v1 => OpS v1 fun p1 l1 c2 => IdxS p1 l1 n 2 fun b o => Ret [] (R (.pointer (some ⟨b, o, none⟩)) w)))))
theorem C_member_Club_drive {c : Nat} {n : Int} {w : World} {R : Value → World → Prop} (h : F_member_Club_drive c n w R) : CallV Try.prog 55 #[.pointer (some ⟨c, 0, none⟩), .int .i64 n] w R := by
  exact calls_of_F (args := [.pointer (some ⟨c, 0, none⟩), .int .i64 n]) (mkAnn [] [] [] [] []) Try_mixed Try.func55 rfl rfl (by kernel_rfl) h
def F_member_Club_key (c : Nat) (w : World) (R : Value → World → Prop) : Prop :=
  LdV c 6 (At w) fun v => OpS v fun p l c1 => LoopC (σ := Int × Int × Unit) (fun _ s1 w K1 => Cb (decide (s1.2.1 < ((l : Nat) : Int))) (IdxS p l s1.2.1 2 fun b o => LdA 2 b
  o (At w) fun cs => Alc 81 (zc Try.prog 81) w fun b1 w => StA 2 b1 0 cs w fun w => LdV b1 0 (At w) fun v1 => OpB v1 fun g => Cb g (LdV b1 1 (At w) fun v2 => OpI .u32 v2 fun
  n => DoQ Try.prog (Builtin.max_ #[40, 40] 40 #[.int .u32 s1.1, .int .u32 n]) (At w) fun v3 => OpI .u32 v3 fun n1 => K1 (n1, (IntKind.wrap .i64 (s1.2.1 + 1), ())) w) (K1
  (s1.1, (IntKind.wrap .i64 (s1.2.1 + 1), ())) w)) (Ret [] (R (.int .u32 s1.1) w))) (0, (0, ())) w
theorem C_member_Club_key {c : Nat} {w : World} {R : Value → World → Prop} (h : F_member_Club_key c w R) : CallV Try.prog 49 #[.pointer (some ⟨c, 0, none⟩)] w R := by
  exact calls_of_F (args := [.pointer (some ⟨c, 0, none⟩)]) (mkAnn [(3, [(3, (.int .u32)), (11, (.int .i64))])] [] [] [] []) Try_mixed Try.func49 rfl rfl (by kernel_rfl) h
def F_member_New (disks : Int) (w : World) (R : Value → World → Prop) : Prop :=
  Req ((decide (disks < 1)) = (decide (disks < 1))) (Req ((decide (disks < 1)) = (decide (disks < 1))) (Cb (cond (decide (disks < 1)) true (decide (disks > 32))) (Ret [] (R
  (.tuple #[.pointer none, .int .i64 2]) w)) (DoQ Try.prog (Instr.build 75 #[(0, .bool true)]) (At w) fun v => OpA 3 v fun cs => DoQ Try.prog (Instr.build 75 #[(0, .bool
  true)]) (At w) fun v1 => OpA 3 v1 fun cs1 => DoQ Try.prog (Instr.build 76 #[(0, .agg cs), (1, .agg cs1)]) (At w) fun v2 => OpA 6 v2 fun cs2 => DoQ Try.prog (Instr.build 79
  #[(0, .agg cs2)]) (At w) fun v3 => OpA 7 v3 fun cs3 => Alc 79 cs3 w fun b w => LoopC (σ := Int × Unit) (fun _ s1 w K1 => Cb (decide (s1.1 < disks)) (LdV b 6 (At w) fun v4
  => OpS v4 fun p l c => DoQ Try.prog (Instr.build 81 #[(0, .bool true)]) (At w) fun v5 => OpA 2 v5 fun cs4 => DoV Try.prog (Instr.buildSlice 77 1 #[(0, .agg cs4)]) w fun v6
  w => OpS v6 fun p1 l1 c1 => DoV Try.prog (Builtin.append_ #[77, 77] 77 #[.slice p l c, .slice p1 l1 c1]) w fun v7 w => OpS v7 fun p2 l2 c2 => StV b 6 (.slice p2 l2 c2) w
  fun w => K1 (IntKind.wrap .i64 (s1.1 + 1), ()) w) (Ret [] (R (.tuple #[.pointer (some ⟨b, 0, none⟩), .int .i64 0]) w))) (0, ()) w)))
theorem C_member_New {disks : Int} {w : World} {R : Value → World → Prop} (h : F_member_New disks w R) : CallV Try.prog 17 #[.int .i64 disks] w R := by
  exact calls_of_F (args := [.int .i64 disks]) (mkAnn [(5, [(17, (.int .i64))])] [] [] [] []) Try_mixed Try.func17 rfl rfl (by kernel_rfl) h
def F_member_Club_Tick (c : Nat) (n : Int) (w : World) (R : Value → World → Prop) : Prop :=
  CallV Try.prog 48 #[.pointer (some ⟨c, 0, none⟩), .int .i64 n] w fun v w => OpP v (Ret [] (R (.int .i64 2) w)) fun b o => LdV b o (At w) fun v1 => OpB v1 fun g => Cb (!g)
  (Ret [] (R (.int .i64 13) w)) (LdV b (o + 2) (At w) fun v2 => OpI .i64 v2 fun n1 => StV b (o + 2) (.int .i64 (IntKind.wrap .i64 (n1 + 1))) w fun w => Ret [] (R (.int .i64
  0) w))
theorem C_member_Club_Tick {c : Nat} {n : Int} {w : World} {R : Value → World → Prop} (h : F_member_Club_Tick c n w R) : CallV Try.prog 23 #[.pointer (some ⟨c, 0, none⟩), .int .i64 n] w R := by
  exact calls_of_F (args := [.pointer (some ⟨c, 0, none⟩), .int .i64 n]) (mkAnn [] [] [] [] []) Try_mixed Try.func23 rfl rfl (by kernel_rfl) h
def F_member_Club_Beat (c : Nat) (n : Int) (w : World) (R : Value → World → Prop) : Prop :=
  CallV Try.prog 48 #[.pointer (some ⟨c, 0, none⟩), .int .i64 n] w fun v w => OpP v (Ret [] (R (.int .i64 2) w)) fun b o => LdV b o (At w) fun v1 => OpB v1 fun g => Cb (!g)
  (Ret [] (R (.int .i64 13) w)) (CallV Try.prog 48 #[.pointer (some ⟨c, 0, none⟩), .int .i64 (IntKind.wrap .i64 (1 - n))] w fun v2 w => OpP v2 (False) fun b1 o1 => LdV b1 o1
  (At w) fun v3 => OpB v3 fun g1 => Cb (!g1) (Ret [] (R (.int .i64 13) w)) (CallV Try.prog 48 #[.pointer (some ⟨c, 0, none⟩), .int .i64 (IntKind.wrap .i64 (1 - n))] w fun v4
  w => OpP v4 (False) fun b2 o2 => StV b2 (o2 + 2) (.int .i64 0) w fun w => Ret [] (R (.int .i64 0) w)))
theorem C_member_Club_Beat {c : Nat} {n : Int} {w : World} {R : Value → World → Prop} (h : F_member_Club_Beat c n w R) : CallV Try.prog 21 #[.pointer (some ⟨c, 0, none⟩), .int .i64 n] w R := by
  exact calls_of_F (args := [.pointer (some ⟨c, 0, none⟩), .int .i64 n]) (mkAnn [] [] [] [] []) Try_mixed Try.func21 rfl rfl (by kernel_rfl) h
def F_member_Club_Suspects (c : Nat) (n : Int) (w : World) (R : Value → World → Prop) : Prop :=
  CallV Try.prog 48 #[.pointer (some ⟨c, 0, none⟩), .int .i64 n] w fun v w => OpP v (Ret [] (R (.bool false) w)) fun b o => LdV b o (At w) fun v1 => OpB v1 fun g => Cb g
  (LdV b (o + 2) (At w) fun v2 => OpI .i64 v2 fun n1 => Ret [] (R (.bool (decide (n1 ≥ 3))) w)) (Ret [] (R (.bool false) w))
theorem C_member_Club_Suspects {c : Nat} {n : Int} {w : World} {R : Value → World → Prop} (h : F_member_Club_Suspects c n w R) : CallV Try.prog 26 #[.pointer (some ⟨c, 0, none⟩), .int .i64 n] w R := by
  exact calls_of_F (args := [.pointer (some ⟨c, 0, none⟩), .int .i64 n]) (mkAnn [] [] [] [] []) Try_mixed Try.func26 rfl rfl (by kernel_rfl) h
def F_member_Club_Ready (c : Nat) (n : Int) (w : World) (R : Value → World → Prop) : Prop :=
  CallV Try.prog 48 #[.pointer (some ⟨c, 0, none⟩), .int .i64 n] w fun v w => OpP v (HeldR w fun S w => Hld (S w) (Ret [] (R (.bool false) w))) fun b o => HeldR w fun S w =>
  LdV b o S fun v1 => OpB v1 fun g => Cb g (LdV b (o + 1) S fun v2 => OpI .u32 v2 fun n1 => CallV Try.prog 49 #[.pointer (some ⟨c, 0, none⟩)] w fun v3 w => OpI .u32 v3 fun
  n2 => Hld (S w) (Ret [] (R (.bool (decide (n1 ≥ n2))) w))) (Hld (S w) (Ret [] (R (.bool false) w)))
theorem C_member_Club_Ready {c : Nat} {n : Int} {w : World} {R : Value → World → Prop} (h : F_member_Club_Ready c n w R) : CallV Try.prog 20 #[.pointer (some ⟨c, 0, none⟩), .int .i64 n] w R := by
  exact calls_of_F (args := [.pointer (some ⟨c, 0, none⟩), .int .i64 n]) (mkAnn [] [] [] [] [23]) Try_mixed Try.func20 rfl rfl (by kernel_rfl) h
def F_member_Club_Claim (c : Nat) (n : Int) (w : World) (R : Value → World → Prop) : Prop :=
  CallV Try.prog 48 #[.pointer (some ⟨c, 0, none⟩), .int .i64 n] w fun v w => OpP v (Ret [] (R (.tuple #[.int .u32 0, .int .i64 2]) w)) fun b o => CallV Try.prog 20
  #[.pointer (some ⟨c, 0, none⟩), .int .i64 n] w fun v1 w => OpB v1 fun g => Cb (!g) (Ret [] (R (.tuple #[.int .u32 0, .int .i64 13]) w)) (CallV Try.prog 26 #[.pointer (some
  ⟨c, 0, none⟩), .int .i64 n] w fun v2 w => OpB v2 fun g1 => Cb (!g1) (Ret [] (R (.tuple #[.int .u32 0, .int .i64 12]) w)) (HeldR w fun S w => LdV b (o + 1) S fun v3 => OpI
  .u32 v3 fun n1 => CallV Try.prog 49 #[.pointer (some ⟨c, 0, none⟩)] w fun v4 w => OpI .u32 v4 fun n2 => Hld (S w) (DoQ Try.prog (Builtin.max_ #[40, 40] 40 #[.int .u32 n1,
  .int .u32 n2]) (At w) fun v5 => OpI .u32 v5 fun n3 => CallV Try.prog 50 #[.int .u32 n3, .int .i64 n] w fun v6 w => T2 v6 fun v7 v8 => OpI .u32 v7 fun n4 => OpI .i64 v8 fun
  n5 => Hld (S w) (Cb (n5 != 0) (Ret [] (R (.tuple #[.int .u32 0, .int .i64 n5]) w)) (StV b (o + 1) (.int .u32 n4) w fun w => StV b (o + 2) (.int .i64 0) w fun w => LdV c 6
  (At w) fun v9 => OpS v9 fun p l c1 => LoopC (σ := Int × Unit) (fun _ s1 w K1 => Cb (decide (s1.1 < ((l : Nat) : Int))) (LdV c 6 (At w) fun v10 => OpS v10 fun p1 l1 c2 =>
  IdxS p1 l1 s1.1 2 fun b1 o1 => LdV b1 o1 (At w) fun v11 => OpB v11 fun g2 => Cb g2 (LdV c 6 (At w) fun v12 => OpS v12 fun p2 l2 c3 => IdxS p2 l2 s1.1 2 fun b2 o2 => StV b2
  (o2 + 1) (.int .u32 n4) w fun w => K1 (IntKind.wrap .i64 (s1.1 + 1), ()) w) (K1 (IntKind.wrap .i64 (s1.1 + 1), ()) w)) (Ret [] (R (.tuple #[.int .u32 n4, .int .i64 0])
  w))) (0, ()) w)))))
theorem C_member_Club_Claim {c : Nat} {n : Int} {w : World} {R : Value → World → Prop} (h : F_member_Club_Claim c n w R) : CallV Try.prog 24 #[.pointer (some ⟨c, 0, none⟩), .int .i64 n] w R := by
  exact calls_of_F (args := [.pointer (some ⟨c, 0, none⟩), .int .i64 n]) (mkAnn [(13, [(53, (.int .i64))])] [] [] [] [32]) Try_mixed Try.func24 rfl rfl (by kernel_rfl) h
def F_member_Club_Join (c : Nat) (n : Int) (w : World) (R : Value → World → Prop) : Prop :=
  CallV Try.prog 48 #[.pointer (some ⟨c, 0, none⟩), .int .i64 n] w fun v w => OpP v (Ret [] (R (.int .i64 2) w)) fun b o => LdV b o (At w) fun v1 => OpB v1 fun g => Cb (!g)
  (Ret [] (R (.int .i64 13) w)) (CallV Try.prog 20 #[.pointer (some ⟨c, 0, none⟩), .int .i64 (IntKind.wrap .i64 (1 - n))] w fun v2 w => OpB v2 fun g1 => Cb (!g1) (Ret [] (R
  (.int .i64 13) w)) (CallV Try.prog 48 #[.pointer (some ⟨c, 0, none⟩), .int .i64 (IntKind.wrap .i64 (1 - n))] w fun v3 w => OpP v3 (HeldR w fun S w => CallV Try.prog 20
  #[.pointer (some ⟨c, 0, none⟩), .int .i64 n] w fun v4 w => OpB v4 fun g2 => Hld (S w) (Cb g2 (LdV b (o + 1) (At w) fun v5 => OpI .u32 v5 fun n1 => False) (CallV Try.prog
  20 #[.pointer (some ⟨c, 0, none⟩), .int .i64 n] w fun v6 w => OpB v6 fun g3 => Cb g3 (Ret [] (R (.int .i64 12) w)) (False)))) fun b1 o1 => HeldR w fun S w => CallV
  Try.prog 20 #[.pointer (some ⟨c, 0, none⟩), .int .i64 n] w fun v7 w => OpB v7 fun g4 => Hld (S w) (Cb g4 (LdV b (o + 1) (At w) fun v8 => OpI .u32 v8 fun n2 => LdV b1 (o1 +
  1) (At w) fun v9 => OpI .u32 v9 fun n3 => Cb (n2 == n3) (Ret [] (R (.int .i64 11) w)) (CallV Try.prog 20 #[.pointer (some ⟨c, 0, none⟩), .int .i64 n] w fun v10 w => OpB
  v10 fun g5 => Cb g5 (Ret [] (R (.int .i64 12) w)) (LdV b1 (o1 + 1) (At w) fun v11 => OpI .u32 v11 fun n4 => StV b (o + 1) (.int .u32 n4) w fun w => StV b (o + 2) (.int
  .i64 0) w fun w => StV b1 (o1 + 2) (.int .i64 0) w fun w => Ret [] (R (.int .i64 0) w)))) (CallV Try.prog 20 #[.pointer (some ⟨c, 0, none⟩), .int .i64 n] w fun v12 w =>
  OpB v12 fun g6 => Cb g6 (Ret [] (R (.int .i64 12) w)) (LdV b1 (o1 + 1) (At w) fun v13 => OpI .u32 v13 fun n5 => StV b (o + 1) (.int .u32 n5) w fun w => StV b (o + 2) (.int
  .i64 0) w fun w => StV b1 (o1 + 2) (.int .i64 0) w fun w => Ret [] (R (.int .i64 0) w))))))
theorem C_member_Club_Join {c : Nat} {n : Int} {w : World} {R : Value → World → Prop} (h : F_member_Club_Join c n w R) : CallV Try.prog 22 #[.pointer (some ⟨c, 0, none⟩), .int .i64 n] w R := by
  exact calls_of_F (args := [.pointer (some ⟨c, 0, none⟩), .int .i64 n]) (mkAnn [] [] [] [] [33]) Try_mixed Try.func22 rfl rfl (by kernel_rfl) h
def F_member_Club_Write (c : Nat) (n : Int) (disk : Int) (w : World) (R : Value → World → Prop) : Prop :=
  CallV Try.prog 48 #[.pointer (some ⟨c, 0, none⟩), .int .i64 n] w fun v w => OpP v (CallV Try.prog 55 #[.pointer (some ⟨c, 0, none⟩), .int .i64 disk] w fun v1 w => OpP v1
  (Req (true = true) (Req (true = true) (Ret [] (R (.int .i64 2) w)))) fun b o => Req (true = true) (Req (true = true) (Ret [] (R (.int .i64 2) w)))) fun b1 o1 => CallV
  Try.prog 55 #[.pointer (some ⟨c, 0, none⟩), .int .i64 disk] w fun v2 w => OpP v2 (Req (false = false) (Req (false = false) (Ret [] (R (.int .i64 2) w)))) fun b2 o2 => Req
  (false = false) (Req (false = false) (LdV b1 o1 (At w) fun v3 => OpB v3 fun g => Cb (!g) (Ret [] (R (.int .i64 13) w)) (LdV b2 o2 (At w) fun v4 => OpB v4 fun g1 => Cb
  (!g1) (Ret [] (R (.int .i64 5) w)) (LdV b1 (o1 + 1) (At w) fun v5 => OpI .u32 v5 fun n1 => LdV b2 (o2 + 1) (At w) fun v6 => OpI .u32 v6 fun n2 => Drw w fun w => Cb (decide
  (n1 < n2)) (Ret [] (R (.int .i64 6) w)) (Ret [] (R (.int .i64 0) w))))))
theorem C_member_Club_Write {c : Nat} {n : Int} {disk : Int} {w : World} {R : Value → World → Prop} (h : F_member_Club_Write c n disk w R) : CallV Try.prog 32 #[.pointer (some ⟨c, 0, none⟩), .int .i64 n, .int .i64 disk] w R := by
  exact calls_of_F (args := [.pointer (some ⟨c, 0, none⟩), .int .i64 n, .int .i64 disk]) (mkAnn [] [] [] [] []) Try_mixed Try.func32 rfl rfl (by kernel_rfl) h
def F_member_Club_Crash (c : Nat) (n : Int) (w : World) (R : Value → World → Prop) : Prop :=
  CallV Try.prog 48 #[.pointer (some ⟨c, 0, none⟩), .int .i64 n] w fun v w => OpP v (Ret [] (R (.int .i64 2) w)) fun b o => LdV b o (At w) fun v1 => OpB v1 fun g => Cb (!g)
  (Ret [] (R (.int .i64 13) w)) (StV b o (.bool false) w fun w => Ret [] (R (.int .i64 0) w))
theorem C_member_Club_Crash {c : Nat} {n : Int} {w : World} {R : Value → World → Prop} (h : F_member_Club_Crash c n w R) : CallV Try.prog 19 #[.pointer (some ⟨c, 0, none⟩), .int .i64 n] w R := by
  exact calls_of_F (args := [.pointer (some ⟨c, 0, none⟩), .int .i64 n]) (mkAnn [] [] [] [] []) Try_mixed Try.func19 rfl rfl (by kernel_rfl) h
def F_member_Club_Restart (c : Nat) (n : Int) (w : World) (R : Value → World → Prop) : Prop :=
  CallV Try.prog 48 #[.pointer (some ⟨c, 0, none⟩), .int .i64 n] w fun v w => OpP v (Ret [] (R (.int .i64 2) w)) fun b o => LdV b o (At w) fun v1 => OpB v1 fun g => Cb g
  (Ret [] (R (.int .i64 11) w)) (StV b o (.bool true) w fun w => StV b (o + 2) (.int .i64 0) w fun w => Ret [] (R (.int .i64 0) w))
theorem C_member_Club_Restart {c : Nat} {n : Int} {w : World} {R : Value → World → Prop} (h : F_member_Club_Restart c n w R) : CallV Try.prog 25 #[.pointer (some ⟨c, 0, none⟩), .int .i64 n] w R := by
  exact calls_of_F (args := [.pointer (some ⟨c, 0, none⟩), .int .i64 n]) (mkAnn [] [] [] [] []) Try_mixed Try.func25 rfl rfl (by kernel_rfl) h
def F_member_Club_Lose (c : Nat) (disk : Int) (w : World) (R : Value → World → Prop) : Prop :=
  CallV Try.prog 55 #[.pointer (some ⟨c, 0, none⟩), .int .i64 disk] w fun v w => OpP v (Ret [] (R (.int .i64 2) w)) fun b o => LdV b o (At w) fun v1 => OpB v1 fun g => Cb
  (!g) (Ret [] (R (.int .i64 5) w)) (StV b o (.bool false) w fun w => Ret [] (R (.int .i64 0) w))
theorem C_member_Club_Lose {c : Nat} {disk : Int} {w : World} {R : Value → World → Prop} (h : F_member_Club_Lose c disk w R) : CallV Try.prog 36 #[.pointer (some ⟨c, 0, none⟩), .int .i64 disk] w R := by
  exact calls_of_F (args := [.pointer (some ⟨c, 0, none⟩), .int .i64 disk]) (mkAnn [] [] [] [] []) Try_mixed Try.func36 rfl rfl (by kernel_rfl) h
def F_member_Club_Renew (c : Nat) (disk : Int) (w : World) (R : Value → World → Prop) : Prop :=
  CallV Try.prog 55 #[.pointer (some ⟨c, 0, none⟩), .int .i64 disk] w fun v w => OpP v (Ret [] (R (.int .i64 2) w)) fun b o => LdV b o (At w) fun v1 => OpB v1 fun g => Cb g
  (Ret [] (R (.int .i64 11) w)) (CallV Try.prog 49 #[.pointer (some ⟨c, 0, none⟩)] w fun v2 w => OpI .u32 v2 fun n => StV b (o + 1) (.int .u32 n) w fun w => StV b o (.bool
  true) w fun w => Ret [] (R (.int .i64 0) w))
theorem C_member_Club_Renew {c : Nat} {disk : Int} {w : World} {R : Value → World → Prop} (h : F_member_Club_Renew c disk w R) : CallV Try.prog 38 #[.pointer (some ⟨c, 0, none⟩), .int .i64 disk] w R := by
  exact calls_of_F (args := [.pointer (some ⟨c, 0, none⟩), .int .i64 disk]) (mkAnn [] [] [] [] []) Try_mixed Try.func38 rfl rfl (by kernel_rfl) h
def F_member_Club_Epoch (c : Nat) (n : Int) (w : World) (R : Value → World → Prop) : Prop :=
  CallV Try.prog 48 #[.pointer (some ⟨c, 0, none⟩), .int .i64 n] w fun v w => OpP v (Ret [] (R (.tuple #[.int .u32 0, .int .i64 2]) w)) fun b o => LdV b (o + 1) (At w) fun
  v1 => OpI .u32 v1 fun n1 => Ret [] (R (.tuple #[.int .u32 n1, .int .i64 0]) w)
theorem C_member_Club_Epoch {c : Nat} {n : Int} {w : World} {R : Value → World → Prop} (h : F_member_Club_Epoch c n w R) : CallV Try.prog 40 #[.pointer (some ⟨c, 0, none⟩), .int .i64 n] w R := by
  exact calls_of_F (args := [.pointer (some ⟨c, 0, none⟩), .int .i64 n]) (mkAnn [] [] [] [] []) Try_mixed Try.func40 rfl rfl (by kernel_rfl) h
end Go.Proofs
