/- PRINTED BY pr.py (own program): what the evaluator of <Name>Ev makes of the code of some functions. -/
import Derived.Test.YthhimblbnnafkaaGreatChecked
import Derived.Test.YthhimblbnnafkaaGreatEv
import Derived.Test.YthhimblbnnafkaaGreatMix
namespace Go.Proofs
open Go.Ev
set_option linter.unusedVariables false
set_option maxRecDepth 100000
def F_bytes_Equal (ap : Option Addr) (al : Nat) (ac : Nat) (bp : Option Addr) (bl : Nat) (bc : Nat) (w : World) (R : Value → World → Prop) : Prop :=
  DoQ Tryz.prog (convert 22 9 (.slice ap al ac)) (At w) fun v => OpT v fun s => DoQ Tryz.prog (convert 22 9 (.slice bp bl bc)) (At w) fun v1 => OpT v1 fun s1 => EqB
  Tryz.prog .eql 9 (.tmp 6) (.tmp 8) (.string s : Value) (.string s1 : Value) (At w) fun g => Ret [] (R (.bool g) w)
theorem C_bytes_Equal {ap : Option Addr} {al : Nat} {ac : Nat} {bp : Option Addr} {bl : Nat} {bc : Nat} {w : World} {R : Value → World → Prop} (h : F_bytes_Equal ap al ac bp bl bc w R) : CallV Tryz.prog 253 #[.slice ap al ac, .slice bp bl bc] w R := by
  exact calls_of_F (args := [.slice ap al ac, .slice bp bl bc]) (mkAnn [] [] [] [] []) Tryz_mixed Tryz.func253 rfl rfl (by kernel_rfl) h
def F_codec_number (bp : Option Addr) (bl : Nat) (bc : Nat) (n : Int) (w : World) (R : Value → World → Prop) : Prop :=
  LoopC (σ := Int × Unit) (fun _ s1 w K1 => Cb (decide (s1.1 < ((bl : Nat) : Int))) (Req (0 ≤ IntKind.wrap .i64 (8 * s1.1)) (IdxS bp bl (IntKind.wrap .i64 ((IntKind.wrap
  .i64 (((bl : Nat) : Int) - 1)) - s1.1)) 1 fun b o => StV b o (.int .u8 (IntKind.wrap .u8 (ishr .u64 n (IntKind.wrap .i64 (8 * s1.1))))) w fun w => K1 (IntKind.wrap .i64
  (s1.1 + 1), ()) w)) (Ret [] (R (.tuple #[]) w))) (0, ()) w
theorem C_codec_number {bp : Option Addr} {bl : Nat} {bc : Nat} {n : Int} {w : World} {R : Value → World → Prop} (h : F_codec_number bp bl bc n w R) : CallV Tryz.prog 263 #[.slice bp bl bc, .int .u64 n] w R := by
  exact calls_of_F (args := [.slice bp bl bc, .int .u64 n]) (mkAnn [(1, [(7, (.int .i64))])] [] [] [] []) Tryz_mixed Tryz.func263 rfl rfl (by kernel_rfl) h
def F_codec_read (bp : Option Addr) (bl : Nat) (bc : Nat) (w : World) (R : Value → World → Prop) : Prop :=
  LoopC (σ := Int × Int × Unit) (fun _ s1 w K1 => Cb (decide (s1.2.1 < ((bl : Nat) : Int))) (IdxS bp bl s1.2.1 1 fun b o => LdV b o (At w) fun v => OpI .u8 v fun n => Req (0
  ≤ (8 : Int)) (K1 (ibits .or .u64 (ishl .u64 s1.1 8) (IntKind.wrap .u64 n), (IntKind.wrap .i64 (s1.2.1 + 1), ())) w)) (Ret [] (R (.int .u64 s1.1) w))) (0, (0, ())) w
theorem C_codec_read {bp : Option Addr} {bl : Nat} {bc : Nat} {w : World} {R : Value → World → Prop} (h : F_codec_read bp bl bc w R) : CallV Tryz.prog 252 #[.slice bp bl bc] w R := by
  exact calls_of_F (args := [.slice bp bl bc]) (mkAnn [(3, [(3, (.int .u64)), (8, (.int .i64))])] [] [] [] []) Tryz_mixed Tryz.func252 rfl rfl (by kernel_rfl) h
def F_codec_seal (bp : Option Addr) (bl : Nat) (bc : Nat) (w : World) (R : Value → World → Prop) : Prop :=
  Alc 378 (zc Tryz.prog 378) w fun b w => HeldR w fun S w => Slc 4 4 none none none fun l h m => CallV Tryz.prog 193 #[.slice bp bl bc] w fun v w => OpI .u32 v fun n => Hld
  (S w) (CallV Tryz.prog 263 #[.slice (slcP 1 l m (some ⟨b, 0, none⟩)) (h - l) (m - l), .int .u64 (IntKind.wrap .u64 n)] w fun v1 w => Hld (S w) (Slc 4 4 none none none fun
  l1 h1 m1 => DoV Tryz.prog (Builtin.append_ #[22, 22] 22 #[.slice bp bl bc, .slice (slcP 1 l1 m1 (some ⟨b, 0, none⟩)) (h1 - l1) (m1 - l1)]) w fun v2 w => OpS v2 fun p l2 c
  => Ret [] (R (.slice p l2 c) w)))
theorem C_codec_seal {bp : Option Addr} {bl : Nat} {bc : Nat} {w : World} {R : Value → World → Prop} (h : F_codec_seal bp bl bc w R) : CallV Tryz.prog 264 #[.slice bp bl bc] w R := by
  exact calls_of_F (args := [.slice bp bl bc]) (mkAnn [] [] [] [] [8]) Tryz_mixed Tryz.func264 rfl rfl (by kernel_rfl) h
def F_codec_Pack (r : Array Value) (w : World) (R : Value → World → Prop) : Prop :=
  Alc 246 r w fun b w => LdV b 0 (At w) fun v => OpI .i64 v fun n => Cb (decide (n < 1)) (Ret [] (R (.tuple #[.slice none 0 0, .int .i64 2]) w)) (LdV b 0 (At w) fun v1 =>
  OpI .i64 v1 fun n1 => Cb (decide (n1 > 6)) (Ret [] (R (.tuple #[.slice none 0 0, .int .i64 2]) w)) (LdV b 2 (At w) fun v2 => OpI .i64 v2 fun n2 => Cb (decide (n2 < 0))
  (Ret [] (R (.tuple #[.slice none 0 0, .int .i64 2]) w)) (LdV b 2 (At w) fun v3 => OpI .i64 v3 fun n3 => Cb (decide (n3 > 2147483647)) (Ret [] (R (.tuple #[.slice none 0 0,
  .int .i64 2]) w)) (DoV Tryz.prog (Instr.makeSlice 22 (.int .i64 33) (.int .i64 37)) w fun v4 w => OpS v4 fun p l c => LdV b 0 (At w) fun v5 => OpI .i64 v5 fun n4 => IdxS p
  l 0 1 fun b1 o => StV b1 o (.int .u8 (IntKind.wrap .u8 n4)) w fun w => HeldR w fun S w => Slc l c (some 1) (some 9) none fun l1 h m => LdV b 1 (At w) fun v6 => OpI .u64 v6
  fun n5 => CallV Tryz.prog 263 #[.slice (slcP 1 l1 m p) (h - l1) (m - l1), .int .u64 n5] w fun v7 w => Hld (S w) (HeldR w fun S w => Slc l c (some 9) (some 17) none fun l2
  h1 m1 => LdV b 2 S fun v8 => OpI .i64 v8 fun n6 => CallV Tryz.prog 263 #[.slice (slcP 1 l2 m1 p) (h1 - l2) (m1 - l2), .int .u64 (IntKind.wrap .u64 n6)] w fun v9 w => Hld
  (S w) (Dr1 w fun w => Slc l c (some 17) none none fun l3 h2 m2 => Slc 16 16 none none none fun l4 h3 m3 => DoV Tryz.prog (Builtin.copy_ #[22, 22] 3 #[.slice (slcP 1 l3 m2
  p) (h2 - l3) (m2 - l3), .slice (slcP 1 l4 m3 (some ⟨b, 3, none⟩)) (h3 - l4) (m3 - l4)]) w fun v10 w => OpI .i64 v10 fun n7 => CallV Tryz.prog 264 #[.slice p l c] w fun v11
  w => OpS v11 fun p1 l5 c1 => Ret [] (R (.tuple #[.slice p1 l5 c1, .int .i64 0]) w)))))))
theorem C_codec_Pack {r : Array Value} {w : World} {R : Value → World → Prop} (h : F_codec_Pack r w R) : CallV Tryz.prog 230 #[.agg r] w R := by
  exact calls_of_F (args := [.agg r]) (mkAnn [] [] [] [] [33, 39]) Tryz_mixed Tryz.func230 rfl rfl (by kernel_rfl) h
def F_codec_Unpack (bp : Option Addr) (bl : Nat) (bc : Nat) (w : World) (R : Value → World → Prop) : Prop :=
  Alc 246 (zc Tryz.prog 246) w fun b w => Cb (decide (((bl : Nat) : Int) < 37)) (DoQ Tryz.prog (Instr.build 246 #[]) (At w) fun v => OpA 19 v fun cs => StA 19 b 0 cs w fun w
  => LdA 19 b 0 (At w) fun cs1 => Ret [] (R (.tuple #[.agg cs1, .int .i64 1]) w)) (HeldR w fun S w => IdxS bp bl 0 1 fun b1 o => LdV b1 o S fun v1 => OpI .u8 v1 fun n => Slc
  bl bc (some 1) (some 9) none fun l h m => Slc bl bc (some 9) (some 17) none fun l1 h1 m1 => Slc bl bc (some 17) (some 33) none fun l2 h2 m2 => SlArr (slcP 1 l2 m2 bp) (h2
  - l2) 16 fun b2 o1 => LdA 16 b2 o1 S fun cs2 => (CallV Tryz.prog 252 #[.slice (slcP 1 l m bp) (h - l) (m - l)] w fun v2 w => OpI .u64 v2 fun n1 => Hld (S w) ((CallV
  Tryz.prog 252 #[.slice (slcP 1 l1 m1 bp) (h1 - l1) (m1 - l1)] w fun v3 w => OpI .u64 v3 fun n2 => Hld (S w) (DoQ Tryz.prog (Instr.build 246 #[(0, .int .i64 (IntKind.wrap
  .i64 n)), (1, .int .u64 n1), (2, .int .i64 (IntKind.wrap .i64 n2)), (3, .agg cs2)]) S fun v4 => OpA 19 v4 fun cs3 => Alc 246 (zc Tryz.prog 246) w fun b3 w => Hld (S w)
  (StA 19 b3 0 cs3 w fun w => Hld (S w) (LdA 19 b3 0 (At w) fun cs4 => CallV Tryz.prog 230 #[.agg cs4] w fun v5 w => T2 v5 fun v6 v7 => OpS v6 fun p l3 c => OpI .i64 v7 fun
  n3 => Cb (n3 != 0) (DoQ Tryz.prog (Instr.build 246 #[]) (At w) fun v8 => OpA 19 v8 fun cs5 => StA 19 b 0 cs5 w fun w => LdA 19 b 0 (At w) fun cs6 => Ret [] (R (.tuple
  #[.agg cs6, .int .i64 7]) w)) (Slc bl bc none (some 37) none fun l4 h3 m3 => CallV Tryz.prog 253 #[.slice p l3 c, .slice (slcP 1 l4 m3 bp) (h3 - l4) (m3 - l4)] w fun v9 w
  => OpB v9 fun g => Cb (!g) (DoQ Tryz.prog (Instr.build 246 #[]) (At w) fun v10 => OpA 19 v10 fun cs7 => StA 19 b 0 cs7 w fun w => LdA 19 b 0 (At w) fun cs8 => Ret [] (R
  (.tuple #[.agg cs8, .int .i64 7]) w)) (LdA 19 b3 0 (At w) fun cs9 => StA 19 b 0 cs9 w fun w => LdA 19 b 0 (At w) fun cs10 => Ret [] (R (.tuple #[.agg cs10, .int .i64 0])
  w))))))) ∧ (Alc 246 (zc Tryz.prog 246) w fun b4 w => Hld (S w) (CallV Tryz.prog 252 #[.slice (slcP 1 l1 m1 bp) (h1 - l1) (m1 - l1)] w fun v11 w => OpI .u64 v11 fun n4 =>
  Hld (S w) (DoQ Tryz.prog (Instr.build 246 #[(0, .int .i64 (IntKind.wrap .i64 n)), (1, .int .u64 n1), (2, .int .i64 (IntKind.wrap .i64 n4)), (3, .agg cs2)]) (At w) fun v12
  => OpA 19 v12 fun cs11 => StA 19 b4 0 cs11 w fun w => Hld (S w) (LdA 19 b4 0 (At w) fun cs12 => CallV Tryz.prog 230 #[.agg cs12] w fun v13 w => T2 v13 fun v14 v15 => OpS
  v14 fun p1 l5 c1 => OpI .i64 v15 fun n5 => Cb (n5 != 0) (DoQ Tryz.prog (Instr.build 246 #[]) (At w) fun v16 => OpA 19 v16 fun cs13 => StA 19 b 0 cs13 w fun w => LdA 19 b 0
  (At w) fun cs14 => Ret [] (R (.tuple #[.agg cs14, .int .i64 7]) w)) (Slc bl bc none (some 37) none fun l6 h4 m4 => CallV Tryz.prog 253 #[.slice p1 l5 c1, .slice (slcP 1 l6
  m4 bp) (h4 - l6) (m4 - l6)] w fun v17 w => OpB v17 fun g1 => Cb (!g1) (DoQ Tryz.prog (Instr.build 246 #[]) (At w) fun v18 => OpA 19 v18 fun cs15 => StA 19 b 0 cs15 w fun w
  => LdA 19 b 0 (At w) fun cs16 => Ret [] (R (.tuple #[.agg cs16, .int .i64 7]) w)) (LdA 19 b4 0 (At w) fun cs17 => StA 19 b 0 cs17 w fun w => LdA 19 b 0 (At w) fun cs18 =>
  Ret [] (R (.tuple #[.agg cs18, .int .i64 0]) w))))))))) ∧ (Alc 246 (zc Tryz.prog 246) w fun b5 w => Hld (S w) (CallV Tryz.prog 252 #[.slice (slcP 1 l m bp) (h - l) (m -
  l)] w fun v19 w => OpI .u64 v19 fun n6 => Hld (S w) (CallV Tryz.prog 252 #[.slice (slcP 1 l1 m1 bp) (h1 - l1) (m1 - l1)] w fun v20 w => OpI .u64 v20 fun n7 => Hld (S w)
  (DoQ Tryz.prog (Instr.build 246 #[(0, .int .i64 (IntKind.wrap .i64 n)), (1, .int .u64 n6), (2, .int .i64 (IntKind.wrap .i64 n7)), (3, .agg cs2)]) (At w) fun v21 => OpA 19
  v21 fun cs19 => StA 19 b5 0 cs19 w fun w => Hld (S w) (LdA 19 b5 0 (At w) fun cs20 => CallV Tryz.prog 230 #[.agg cs20] w fun v22 w => T2 v22 fun v23 v24 => OpS v23 fun p2
  l7 c2 => OpI .i64 v24 fun n8 => Cb (n8 != 0) (DoQ Tryz.prog (Instr.build 246 #[]) (At w) fun v25 => OpA 19 v25 fun cs21 => StA 19 b 0 cs21 w fun w => LdA 19 b 0 (At w) fun
  cs22 => Ret [] (R (.tuple #[.agg cs22, .int .i64 7]) w)) (Slc bl bc none (some 37) none fun l8 h5 m5 => CallV Tryz.prog 253 #[.slice p2 l7 c2, .slice (slcP 1 l8 m5 bp) (h5
  - l8) (m5 - l8)] w fun v26 w => OpB v26 fun g2 => Cb (!g2) (DoQ Tryz.prog (Instr.build 246 #[]) (At w) fun v27 => OpA 19 v27 fun cs23 => StA 19 b 0 cs23 w fun w => LdA 19
  b 0 (At w) fun cs24 => Ret [] (R (.tuple #[.agg cs24, .int .i64 7]) w)) (LdA 19 b5 0 (At w) fun cs25 => StA 19 b 0 cs25 w fun w => LdA 19 b 0 (At w) fun cs26 => Ret [] (R
  (.tuple #[.agg cs26, .int .i64 0]) w)))))))))
theorem C_codec_Unpack {bp : Option Addr} {bl : Nat} {bc : Nat} {w : World} {R : Value → World → Prop} (h : F_codec_Unpack bp bl bc w R) : CallV Tryz.prog 207 #[.slice bp bl bc] w R := by
  exact calls_of_F (args := [.slice bp bl bc]) (mkAnn [] [] [] [] []) Tryz_mixed Tryz.func207 rfl rfl (by kernel_rfl) h
def F_codec_Scan (bp : Option Addr) (bl : Nat) (bc : Nat) (w : World) (R : Value → World → Prop) : Prop :=
  LoopC (σ := (Option Addr × Nat × Nat) × Int × Unit) (fun _ s1 w K1 => Slc bl bc (some s1.2.1) none none fun l h m => CallV Tryz.prog 207 #[.slice (slcP 1 l m bp) (h - l)
  (m - l)] w fun v w => T2 v fun v1 v2 => OpA 19 v1 fun cs => OpI .i64 v2 fun n => Alc 246 (zc Tryz.prog 246) w fun b w => StA 19 b 0 cs w fun w => Cb (n != 0) (Ret [] (R
  (.tuple #[.slice s1.1.1 s1.1.2.1 s1.1.2.2, .int .i64 s1.2.1]) w)) (LdA 19 b 0 (At w) fun cs1 => DoV Tryz.prog (Instr.buildSlice 113 1 #[(0, .agg cs1)]) w fun v3 w => OpS
  v3 fun p l1 c => DoV Tryz.prog (Builtin.append_ #[113, 113] 113 #[.slice s1.1.1 s1.1.2.1 s1.1.2.2, .slice p l1 c]) w fun v4 w => OpS v4 fun p1 l2 c1 => K1 ((p1, l2, c1),
  (IntKind.wrap .i64 (s1.2.1 + 37), ())) w)) ((none, 0, 0), (0, ())) w
theorem C_codec_Scan {bp : Option Addr} {bl : Nat} {bc : Nat} {w : World} {R : Value → World → Prop} (h : F_codec_Scan bp bl bc w R) : CallV Tryz.prog 136 #[.slice bp bl bc] w R := by
  exact calls_of_F (args := [.slice bp bl bc]) (mkAnn [(3, [(4, .slice), (5, (.int .i64))])] [] [] [] []) Tryz_mixed Tryz.func136 rfl rfl (by kernel_rfl) h
end Go.Proofs
