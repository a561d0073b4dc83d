/- PRINTED BY pr.py (own program): what the evaluator of <Name>Ev makes of the code of some functions. -/
import Derived.Test.YthhimblbnnafkaaGreatChecked
import Derived.Test.YthhimblbnnafkaaGreatEv
import Derived.Test.YthhimblbnnafkaaGreatMix
namespace Go.Proofs
open Go.Ev
set_option linter.unusedVariables false
set_option maxRecDepth 100000
def F_nvram_New (size : Int) (m : Nat) (w : World) (R : Value → World → Prop) : Prop :=
  Req ((decide (size < 37)) = (decide (size < 37))) (Req ((decide (size < 37)) = (decide (size < 37))) (Req ((cond (decide (size < 37)) true (decide (size > 65536))) = (cond
  (decide (size < 37)) true (decide (size > 65536)))) (Req ((cond (decide (size < 37)) true (decide (size > 65536))) = (cond (decide (size < 37)) true (decide (size >
  65536)))) (Cb (cond (cond (decide (size < 37)) true (decide (size > 65536))) true false) (Ret [] (R (.tuple #[.pointer none, .int .i64 2]) w)) (DoQ Tryz.prog (Instr.build
  214 #[(0, .pointer (some ⟨m, 0, none⟩)), (1, .int .i64 size)]) (At w) fun v => OpA 3 v fun cs => Alc 214 cs w fun b w => Ret [] (R (.tuple #[.pointer (some ⟨b, 0, none⟩),
  .int .i64 0]) w))))))
theorem C_nvram_New {size : Int} {m : Nat} {w : World} {R : Value → World → Prop} (h : F_nvram_New size m w R) : CallV Tryz.prog 54 #[.int .i64 size, .pointer (some ⟨m, 0, none⟩)] w R := by
  exact calls_of_F (args := [.int .i64 size, .pointer (some ⟨m, 0, none⟩)]) (mkAnn [] [] [] [] []) Tryz_mixed Tryz.func54 rfl rfl (by kernel_rfl) h
def F_nvram_Ram_Append (r : Nat) (x : Array Value) (w : World) (R : Value → World → Prop) : Prop :=
  Alc 246 x w fun b w => LdA 19 b 0 (At w) fun cs => CallV Tryz.prog 230 #[.agg cs] w fun v w => T2 v fun v1 v2 => OpS v1 fun p l c => OpI .i64 v2 fun n => Cb (n != 0) (Ret
  [] (R (.int .i64 n) w)) (LdV r 0 (At w) fun v3 => OpN v3 fun b1 o => CallV Tryz.prog 44 #[.pointer (some ⟨b1, o, none⟩)] w fun v4 w => OpB v4 fun g => Cb (!g) (Ret [] (R
  (.int .i64 4) w)) (CallV Tryz.prog 221 #[.pointer (some ⟨r, 0, none⟩)] w fun v5 w => OpI .i64 v5 fun n1 => Cb (decide (n1 < 1)) (Ret [] (R (.int .i64 9) w)) (LdV r 0 (At
  w) fun v6 => OpN v6 fun b2 o1 => CallV Tryz.prog 195 #[.pointer (some ⟨b2, o1, none⟩)] w fun v7 w => OpB v7 fun g1 => Cb (!g1) (HeldR w fun S w => LdV r 2 (At w) fun v8 =>
  OpS v8 fun p1 l1 c1 => Slc l c none (some 18) none fun l2 h m => DoV Tryz.prog (Builtin.append_ #[22, 22] 22 #[.slice p1 l1 c1, .slice (slcP 1 l2 m p) (h - l2) (m - l2)])
  w fun v9 w => OpS v9 fun p2 l3 c2 => Hld (S w) (StV r 2 (.slice p2 l3 c2) w fun w => Hld (S w) (Ret [] (R (.int .i64 4) w)))) (LdV r 2 (At w) fun v10 => OpS v10 fun p3 l4
  c3 => DoV Tryz.prog (Builtin.append_ #[22, 22] 22 #[.slice p3 l4 c3, .slice p l c]) w fun v11 w => OpS v11 fun p4 l5 c4 => StV r 2 (.slice p4 l5 c4) w fun w => Ret [] (R
  (.int .i64 0) w)))))
theorem C_nvram_Ram_Append {r : Nat} {x : Array Value} {w : World} {R : Value → World → Prop} (h : F_nvram_Ram_Append r x w R) : CallV Tryz.prog 165 #[.pointer (some ⟨r, 0, none⟩), .agg x] w R := by
  exact calls_of_F (args := [.pointer (some ⟨r, 0, none⟩), .agg x]) (mkAnn [] [] [] [] []) Tryz_mixed Tryz.func165 rfl rfl (by kernel_rfl) h
def F_nvram_Ram_Load (r : Nat) (listp : Option Addr) (listl : Nat) (listc : Nat) (w : World) (R : Value → World → Prop) : Prop :=
  LoopC (σ := (Option Addr × Nat × Nat) × Int × Unit) (fun _ s1 w K1 => Cb (decide (s1.2.1 < ((listl : Nat) : Int))) (IdxS listp listl s1.2.1 19 fun b o => LdA 19 b o (At w)
  fun cs => Alc 246 (zc Tryz.prog 246) w fun b1 w => StA 19 b1 0 cs w fun w => LdA 19 b1 0 (At w) fun cs1 => CallV Tryz.prog 230 #[.agg cs1] w fun v w => T2 v fun v1 v2 =>
  OpS v1 fun p l c => OpI .i64 v2 fun n => Cb (n != 0) (Ret [] (R (.int .i64 n) w)) (LdV r 1 (At w) fun v3 => OpI .i64 v3 fun n1 => Cb (decide (((s1.1.2.1 : Nat) : Int) ≤
  n1)) (DoV Tryz.prog (Builtin.append_ #[22, 22] 22 #[.slice s1.1.1 s1.1.2.1 s1.1.2.2, .slice p l c]) w fun v4 w => OpS v4 fun p1 l1 c1 => K1 ((p1, l1, c1), (IntKind.wrap
  .i64 (s1.2.1 + 1), ())) w) (K1 ((s1.1.1, s1.1.2.1, s1.1.2.2), (IntKind.wrap .i64 (s1.2.1 + 1), ())) w))) (LdV r 0 (At w) fun v5 => OpN v5 fun b2 o1 => CallV Tryz.prog 44
  #[.pointer (some ⟨b2, o1, none⟩)] w fun v6 w => OpB v6 fun g => Cb (!g) (Ret [] (R (.int .i64 4) w)) (LdV r 1 (At w) fun v7 => OpI .i64 v7 fun n2 => Cb (decide (((s1.1.2.1
  : Nat) : Int) > n2)) (Ret [] (R (.int .i64 9) w)) (LdV r 0 (At w) fun v8 => OpN v8 fun b3 o2 => CallV Tryz.prog 195 #[.pointer (some ⟨b3, o2, none⟩)] w fun v9 w => OpB v9
  fun g1 => Cb (!g1) (Ret [] (R (.int .i64 4) w)) (StV r 2 (.slice s1.1.1 s1.1.2.1 s1.1.2.2) w fun w => Ret [] (R (.int .i64 0) w)))))) ((none, 0, 0), (0, ())) w
theorem C_nvram_Ram_Load {r : Nat} {listp : Option Addr} {listl : Nat} {listc : Nat} {w : World} {R : Value → World → Prop} (h : F_nvram_Ram_Load r listp listl listc w R) : CallV Tryz.prog 170 #[.pointer (some ⟨r, 0, none⟩), .slice listp listl listc] w R := by
  exact calls_of_F (args := [.pointer (some ⟨r, 0, none⟩), .slice listp listl listc]) (mkAnn [(5, [(5, .slice), (14, (.int .i64))])] [] [] [] []) Tryz_mixed Tryz.func170 rfl rfl (by kernel_rfl) h
def F_nvram_Ram_Records (r : Nat) (w : World) (R : Value → World → Prop) : Prop :=
  LdV r 2 (At w) fun v => OpS v fun p l c => CallV Tryz.prog 136 #[.slice p l c] w fun v1 w => T2 v1 fun v2 v3 => OpS v2 fun p1 l1 c1 => OpI .i64 v3 fun n => Ret [] (R
  (.slice p1 l1 c1) w)
theorem C_nvram_Ram_Records {r : Nat} {w : World} {R : Value → World → Prop} (h : F_nvram_Ram_Records r w R) : CallV Tryz.prog 62 #[.pointer (some ⟨r, 0, none⟩)] w R := by
  exact calls_of_F (args := [.pointer (some ⟨r, 0, none⟩)]) (mkAnn [] [] [] [] []) Tryz_mixed Tryz.func62 rfl rfl (by kernel_rfl) h
def F_nvram_Ram_Room (r : Nat) (w : World) (R : Value → World → Prop) : Prop :=
  LdV r 1 (At w) fun v => OpI .i64 v fun n => LdV r 2 (At w) fun v1 => OpS v1 fun p l c => Req ((37 : Int) ≠ 0) (Drw w fun w => Ret [] (R (.int .i64 (IntKind.wrap .i64
  (Int.tdiv (IntKind.wrap .i64 (n - ((l : Nat) : Int))) 37))) w))
theorem C_nvram_Ram_Room {r : Nat} {w : World} {R : Value → World → Prop} (h : F_nvram_Ram_Room r w R) : CallV Tryz.prog 221 #[.pointer (some ⟨r, 0, none⟩)] w R := by
  exact calls_of_F (args := [.pointer (some ⟨r, 0, none⟩)]) (mkAnn [] [] [] [] []) Tryz_mixed Tryz.func221 rfl rfl (by kernel_rfl) h
end Go.Proofs
