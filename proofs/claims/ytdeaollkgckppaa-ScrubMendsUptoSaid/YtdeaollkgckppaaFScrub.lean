/- PRINTED BY pr.py (own program): what the evaluator of <Name>Ev makes of the code of some functions. -/
import Derived.Test.YtdeaollkgckppaaChecked
import Derived.Test.YtdeaollkgckppaaEv
import Derived.Test.YtdeaollkgckppaaMix
namespace Go.Proofs
open Go.Ev
set_option linter.unusedVariables false
set_option maxRecDepth 100000
def F_scrub_look (s : Array Value) (number : Int) (off : Int) (w : World) (R : Value → World → Prop) : Prop :=
  Alc 29 s w fun b w => Alc 154 (zc Try.prog 154) w fun b1 w => LdA 4 b 0 (At w) fun cs => CallV Try.prog 23 #[.agg cs, .int .i64 number, .int .i64 off] w fun v w => T3 v
  fun v1 v2 v3 => OpS v1 fun p l c => OpS v2 fun p1 l1 c1 => OpI .i64 v3 fun n => Cb (n != 0) (DoQ Try.prog (Instr.build 154 #[]) (At w) fun v4 => OpA 3 v4 fun cs1 => StA 3
  b1 0 cs1 w fun w => LdA 3 b1 0 (At w) fun cs2 => Ret [] (R (.tuple #[.agg cs2, .int .i64 n]) w)) (LdA 3 b 0 (At w) fun cs3 => CallV Try.prog 46 #[.agg cs3, .int .i64
  number, .int .i64 off] w fun v5 w => T2 v5 fun v6 v7 => OpS v6 fun p2 l2 c2 => OpI .i64 v7 fun n1 => LoopC (σ := (Option Addr × Nat × Nat) × Int × Unit) (fun _ s1 w K1 =>
  Cb (decide (s1.2.1 < IntKind.wrap .i64 (((l : Nat) : Int) - 2))) (IdxS p l s1.2.1 16 fun b2 o => Slc 16 16 none none none fun l3 h m => DoV Try.prog (Instr.buildSlice 111
  1 #[(0, .slice (slcP 1 l3 m (some ⟨b2, o, none⟩)) (h - l3) (m - l3))]) w fun v8 w => OpS v8 fun p3 l4 c3 => DoV Try.prog (Builtin.append_ #[111, 111] 111 #[.slice s1.1.1
  s1.1.2.1 s1.1.2.2, .slice p3 l4 c3]) w fun v9 w => OpS v9 fun p4 l5 c4 => K1 ((p4, l5, c4), (IntKind.wrap .i64 (s1.2.1 + 1), ())) w) (CallV Try.prog 45 #[.slice s1.1.1
  s1.1.2.1 s1.1.2.2] w fun v10 w => T3 v10 fun v11 v12 v13 => OpS v11 fun p5 l6 c5 => OpS v12 fun p6 l7 c6 => OpI .i64 v13 fun n2 => DoQ Try.prog (Instr.build 154 #[(0,
  .slice p2 l2 c2)]) (At w) fun v14 => OpA 3 v14 fun cs4 => Alc 154 (zc Try.prog 154) w fun b3 w => StA 3 b3 0 cs4 w fun w => DoV Try.prog (Instr.makeMap 192 none) w fun v15
  w => OpM v15 fun m1 => LoopC (σ := Int × Unit) (fun _ s2 w K2 => Cb (decide (s2.1 < ((l1 : Nat) : Int))) (IdxS p1 l1 s2.1 1 fun b4 o1 => LdV b4 o1 (At w) fun v16 => OpI
  .i64 v16 fun n3 => DoQ Try.prog (Instr.build 119 #[]) (At w) fun v17 => OpA 0 v17 fun cs5 => DoU Try.prog (Instr.mapUpdate 192 (.map m1) (.int .i64 n3) (.agg cs5)) w fun w
  => K2 (IntKind.wrap .i64 (s2.1 + 1), ()) w) (JoinC (σ := (Option Addr × Nat × Nat) × Unit) (fun J3 => HeldR w fun S w => Slc l c none (some (IntKind.wrap .i64 (((l : Nat)
  : Int) - 2))) none fun l8 h1 m2 => SlArr p5 l6 16 fun b5 o2 => LdA 16 b5 o2 S fun cs6 => SlArr p6 l7 16 fun b6 o3 => LdA 16 b6 o3 S fun cs7 => (DoV Try.prog
  (Instr.buildSlice 67 0 #[]) w fun v18 w => OpS v18 fun p7 l9 c7 => Hld (S w) ((DoV Try.prog (Builtin.append_ #[67, 67] 67 #[.slice p7 l9 c7, .slice (slcP 16 l8 m2 p) (h1 -
  l8) (m2 - l8)]) w fun v19 w => OpS v19 fun p8 l10 c8 => Hld (S w) (DoV Try.prog (Instr.buildSlice 67 2 #[(0, .agg cs6), (1, .agg cs7)]) w fun v20 w => OpS v20 fun p9 l11
  c9 => Hld (S w) (DoV Try.prog (Builtin.append_ #[67, 67] 67 #[.slice p8 l10 c8, .slice p9 l11 c9]) w fun v21 w => OpS v21 fun p10 l12 c10 => Hld (S w) (J3 ((p10, l12,
  c10), ()) w)))) ∧ (DoV Try.prog (Instr.buildSlice 67 2 #[(0, .agg cs6), (1, .agg cs7)]) w fun v22 w => OpS v22 fun p11 l13 c11 => Hld (S w) (DoV Try.prog (Builtin.append_
  #[67, 67] 67 #[.slice p7 l9 c7, .slice (slcP 16 l8 m2 p) (h1 - l8) (m2 - l8)]) w fun v23 w => OpS v23 fun p12 l14 c12 => Hld (S w) (DoV Try.prog (Builtin.append_ #[67, 67]
  67 #[.slice p12 l14 c12, .slice p11 l13 c11]) w fun v24 w => OpS v24 fun p13 l15 c13 => Hld (S w) (J3 ((p13, l15, c13), ()) w)))))) ∧ (DoV Try.prog (Instr.buildSlice 67 2
  #[(0, .agg cs6), (1, .agg cs7)]) w fun v25 w => OpS v25 fun p14 l16 c14 => Hld (S w) (DoV Try.prog (Instr.buildSlice 67 0 #[]) w fun v26 w => OpS v26 fun p15 l17 c15 =>
  Hld (S w) (DoV Try.prog (Builtin.append_ #[67, 67] 67 #[.slice p15 l17 c15, .slice (slcP 16 l8 m2 p) (h1 - l8) (m2 - l8)]) w fun v27 w => OpS v27 fun p16 l18 c16 => Hld (S
  w) (DoV Try.prog (Builtin.append_ #[67, 67] 67 #[.slice p16 l18 c16, .slice p14 l16 c14]) w fun v28 w => OpS v28 fun p17 l19 c17 => Hld (S w) (J3 ((p17, l19, c17), ())
  w)))))) (fun _ s3 w => LoopC (σ := Int × Unit) (fun _ s4 w K4 => Cb (decide (s4.1 < ((s3.1.2.1 : Nat) : Int))) (IdxS s3.1.1 s3.1.2.1 s4.1 16 fun b7 o4 => LdA 16 b7 o4 (At
  w) fun cs8 => Alc 23 (zc Try.prog 23) w fun b8 w => StA 16 b8 0 cs8 w fun w => DoQ Try.prog (Instr.lookup 192 (.map m1) (.int .i64 s4.1) true) (At w) fun v29 => T2 v29 fun
  v30 v31 => OpA 0 v30 fun cs9 => OpB v31 fun g => Alc 119 (zc Try.prog 119) w fun b9 w => StA 0 b9 0 cs9 w fun w => JoinC (σ := Bool × Unit) (fun J5 => Cb g (LdV b 3 (At w)
  fun v32 => OpS v32 fun p18 l20 c18 => IdxS p2 l2 s4.1 2 fun b10 o5 => LdV b10 o5 (At w) fun v33 => OpI .i64 v33 fun n4 => IdxS p18 l20 n4 1 fun b11 o6 => LdV b11 o6 (At w)
  fun v34 => OpN v34 fun b12 o7 => CallQ Try.prog 47 #[.pointer (some ⟨b12, o7, none⟩)] (At w) fun v35 => OpB v35 fun g1 => Drw w fun w => J5 (g1, ()) w) (LdA 16 b8 0 (At w)
  fun cs10 => IdxS p l s4.1 16 fun b13 o8 => LdA 16 b13 o8 (At w) fun cs11 => EqB Try.prog .neq 23 (.tmp 110) (.tmp 114) (.agg cs10 : Value) (.agg cs11 : Value) (At w) fun
  g2 => Cb g2 (LdV b 3 (At w) fun v36 => OpS v36 fun p19 l21 c19 => IdxS p2 l2 s4.1 2 fun b14 o9 => LdV b14 o9 (At w) fun v37 => OpI .i64 v37 fun n5 => IdxS p19 l21 n5 1 fun
  b15 o10 => LdV b15 o10 (At w) fun v38 => OpN v38 fun b16 o11 => CallQ Try.prog 47 #[.pointer (some ⟨b16, o11, none⟩)] (At w) fun v39 => OpB v39 fun g3 => Drw w fun w => J5
  (g3, ()) w) (Drw w fun w => J5 (false, ()) w))) (fun _ s5 w => Cb s5.1 (LdV b3 2 (At w) fun v40 => OpS v40 fun p20 l22 c20 => DoV Try.prog (Instr.buildSlice 68 1 #[(0,
  .int .i64 s4.1)]) w fun v41 w => OpS v41 fun p21 l23 c21 => DoV Try.prog (Builtin.append_ #[68, 68] 68 #[.slice p20 l22 c20, .slice p21 l23 c21]) w fun v42 w => OpS v42
  fun p22 l24 c22 => StV b3 2 (.slice p22 l24 c22) w fun w => K4 (IntKind.wrap .i64 (s4.1 + 1), ()) w) (K4 (IntKind.wrap .i64 (s4.1 + 1), ()) w))) (StV b3 1 (.slice s3.1.1
  s3.1.2.1 s3.1.2.2) w fun w => LdA 3 b3 0 (At w) fun cs12 => StA 3 b1 0 cs12 w fun w => LdA 3 b1 0 (At w) fun cs13 => Ret [] (R (.tuple #[.agg cs13, .int .i64 0]) w))) (0,
  ()) w))) (0, ()) w)) ((none, 0, 0), (0, ())) w)
theorem C_scrub_look {s : Array Value} {number : Int} {off : Int} {w : World} {R : Value → World → Prop} (h : F_scrub_look s number off w R) : CallV Try.prog 93 #[.agg s, .int .i64 number, .int .i64 off] w R := by
  exact calls_of_F (args := [.agg s, .int .i64 number, .int .i64 off]) (mkAnnR [(8, [(14, .slice), (52, (.int .i64))]), (16, [(74, (.int .i64))]), (22, [(97, (.int .i64))])] [] [] [] [] [] [(20, [(23, .slice)]), (25, [(128, .bool)])]) Try_mixed Try.func93 rfl rfl (by kernel_rfl) h
def F_Scrub1 (r : Array Value) (e : Int) (bo : Nat) (bs : Nat) (be : Nat) (w : World) (R : Value → World → Prop) : Prop :=
  Alc 154 r w fun b w => Cb (e == 0) (LdV bo 0 (At w) fun v => OpI .i64 v fun n => StV bo 0 (.int .i64 (IntKind.wrap .i64 (n + 1))) w fun w => LdV bo 1 (At w) fun v1 => OpI
  .i64 v1 fun n1 => LdV b 2 (At w) fun v2 => OpS v2 fun p l c => StV bo 1 (.int .i64 (IntKind.wrap .i64 (n1 + ((l : Nat) : Int)))) w fun w => LdV b 2 (At w) fun v3 => OpS v3
  fun p1 l1 c1 => LoopC (σ := Int × Unit) (fun _ s1 w K1 => Cb (decide (s1.1 < ((l1 : Nat) : Int))) (IdxS p1 l1 s1.1 1 fun b1 o => LdV b1 o (At w) fun v4 => OpI .i64 v4 fun
  n2 => LdV b 0 (At w) fun v5 => OpS v5 fun p2 l2 c2 => IdxS p2 l2 n2 2 fun b2 o1 => LdA 2 b2 o1 (At w) fun cs => Alc 53 (zc Try.prog 53) w fun b3 w => StA 2 b3 0 cs w fun w
  => HeldR w fun S w => LdA 4 bs 0 S fun cs1 => LdA 2 b3 0 S fun cs2 => LdV b3 1 S fun v6 => OpI .i64 v6 fun n3 => LdV b 1 S fun v7 => OpS v7 fun p3 l3 c3 => IdxS p3 l3 n2
  16 fun b4 o2 => LdA 16 b4 o2 S fun cs3 => LdV be 0 S fun v8 => OpI .u32 v8 fun n4 => CallV Try.prog 48 #[.int .i64 n3, .agg cs3] w fun v9 w => OpA 17 v9 fun cs4 => Hld (S
  w) (DoQ Try.prog (Instr.build 110 #[(0, .agg cs2), (1, .agg cs4)]) S fun v10 => OpA 19 v10 fun cs5 => DoV Try.prog (Instr.buildSlice 44 1 #[(0, .agg cs5)]) w fun v11 w =>
  OpS v11 fun p4 l4 c4 => Hld (S w) (CallV Try.prog 18 #[.agg cs1, .slice p4 l4 c4, .int .u32 n4] w fun v12 w => OpI .i64 v12 fun n5 => Hld (S w) (Cb (n5 != 0) (Ret [] (R
  (.int .i64 n5) w)) (LdV bo 2 (At w) fun v13 => OpI .i64 v13 fun n6 => StV bo 2 (.int .i64 (IntKind.wrap .i64 (n6 + 1))) w fun w => K1 (IntKind.wrap .i64 (s1.1 + 1), ())
  w))))) (Ret [] (R (.int .i64 0) w))) (0, ()) w) (Cb (e == 8) (LdV bo 0 (At w) fun v14 => OpI .i64 v14 fun n7 => StV bo 0 (.int .i64 (IntKind.wrap .i64 (n7 + 1))) w fun w
  => LdV bo 3 (At w) fun v15 => OpI .i64 v15 fun n8 => StV bo 3 (.int .i64 (IntKind.wrap .i64 (n8 + 1))) w fun w => Ret [] (R (.int .i64 0) w)) (Ret [] (R (.int .i64 e) w)))
theorem C_Scrub1 {r : Array Value} {e : Int} {bo : Nat} {bs : Nat} {be : Nat} {w : World} {R : Value → World → Prop} (h : F_Scrub1 r e bo bs be w R) : CallV Try.prog 71 #[.agg r, .int .i64 e, .pointer (some ⟨bo, 0, none⟩), .pointer (some ⟨bs, 0, none⟩), .pointer (some ⟨be, 0, none⟩)] w R := by
  exact calls_of_F (args := [.agg r, .int .i64 e, .pointer (some ⟨bo, 0, none⟩), .pointer (some ⟨bs, 0, none⟩), .pointer (some ⟨be, 0, none⟩)]) (mkAnn [(11, [(40, (.int .i64))])] [] [] [] [58, 62]) Try_mixed Try.func71 rfl rfl (by kernel_rfl) h
def F_Sound1 (r : Array Value) (e : Int) (bo : Nat) (bs : Nat) (w : World) (R : Value → World → Prop) : Prop :=
  Alc 154 r w fun b w => Cb (e == 4) (Ret [] (R (.int .i64 e) w)) (LdV b 0 (At w) fun v => OpS v fun p l c => LoopC (σ := Int × Unit) (fun _ s1 w K1 => Cb (decide (s1.1 <
  ((l : Nat) : Int))) (IdxS p l s1.1 2 fun b1 o => LdA 2 b1 o (At w) fun cs => Alc 53 (zc Try.prog 53) w fun b2 w => StA 2 b2 0 cs w fun w => LdV bo 0 (At w) fun v1 => OpB
  v1 fun g => Cb g (LdV bs 3 (At w) fun v2 => OpS v2 fun p1 l1 c1 => LdV b2 0 (At w) fun v3 => OpI .i64 v3 fun n => IdxS p1 l1 n 1 fun b3 o1 => LdV b3 o1 (At w) fun v4 =>
  OpN v4 fun b4 o2 => CallV Try.prog 47 #[.pointer (some ⟨b4, o2, none⟩)] w fun v5 w => OpB v5 fun g1 => StV bo 0 (.bool g1) w fun w => K1 (IntKind.wrap .i64 (s1.1 + 1), ())
  w) (StV bo 0 (.bool false) w fun w => K1 (IntKind.wrap .i64 (s1.1 + 1), ()) w)) (LdV bo 0 (At w) fun v6 => OpB v6 fun g2 => Req (g2 = g2) (Req (g2 = g2) (Cb (cond g2 (e ==
  0) false) (LdV b 2 (At w) fun v7 => OpS v7 fun p2 l2 c2 => StV bo 0 (.bool (((l2 : Nat) : Int) == 0)) w fun w => Ret [] (R (.int .i64 0) w)) (StV bo 0 (.bool false) w fun
  w => Ret [] (R (.int .i64 0) w)))))) (0, ()) w)
theorem C_Sound1 {r : Array Value} {e : Int} {bo : Nat} {bs : Nat} {w : World} {R : Value → World → Prop} (h : F_Sound1 r e bo bs w R) : CallV Try.prog 72 #[.agg r, .int .i64 e, .pointer (some ⟨bo, 0, none⟩), .pointer (some ⟨bs, 0, none⟩)] w R := by
  exact calls_of_F (args := [.agg r, .int .i64 e, .pointer (some ⟨bo, 0, none⟩), .pointer (some ⟨bs, 0, none⟩)]) (mkAnn [(4, [(15, (.int .i64))])] [] [] [] []) Try_mixed Try.func72 rfl rfl (by kernel_rfl) h
def F_RowsScrub (s : Array Value) (number : Int) (bo : Nat) (bs : Nat) (be : Nat) (w : World) (R : Value → World → Prop) : Prop :=
  Alc 29 s w fun b w => LdV b 1 (At w) fun v => OpI .i64 v fun n => LoopC (σ := Int × Unit) (fun _ s1 w K1 => Cb (decide (s1.1 < n)) (LdA 4 b 0 (At w) fun cs => CallV
  Try.prog 93 #[.agg cs, .int .i64 number, .int .i64 s1.1] w fun v1 w => T2 v1 fun v2 v3 => OpA 3 v2 fun cs1 => OpI .i64 v3 fun n1 => CallV Try.prog 71 #[.agg cs1, .int .i64
  n1, .pointer (some ⟨bo, 0, none⟩), .pointer (some ⟨bs, 0, none⟩), .pointer (some ⟨be, 0, none⟩)] w fun v4 w => OpI .i64 v4 fun n2 => Cb (n2 != 0) (Ret [] (R (.int .i64 n2)
  w)) (K1 (IntKind.wrap .i64 (s1.1 + 1), ()) w)) (Ret [] (R (.int .i64 0) w))) (0, ()) w
theorem C_RowsScrub {s : Array Value} {number : Int} {bo : Nat} {bs : Nat} {be : Nat} {w : World} {R : Value → World → Prop} (h : F_RowsScrub s number bo bs be w R) : CallV Try.prog 70 #[.agg s, .int .i64 number, .func (.func 71) #[] #[.pointer (some ⟨bo, 0, none⟩), .pointer (some ⟨bs, 0, none⟩), .pointer (some ⟨be, 0, none⟩)]] w R := by
  exact calls_of_F (args := [.agg s, .int .i64 number, .func (.func 71) #[] #[.pointer (some ⟨bo, 0, none⟩), .pointer (some ⟨bs, 0, none⟩), .pointer (some ⟨be, 0, none⟩)]]) (mkAnn [(2, [(12, (.int .i64))])] [] [] [] []) Try_mixed Try.func70 rfl rfl (by kernel_rfl) h
def F_RowsSound (s : Array Value) (number : Int) (bo : Nat) (bs : Nat) (w : World) (R : Value → World → Prop) : Prop :=
  Alc 29 s w fun b w => LdV b 1 (At w) fun v => OpI .i64 v fun n => LoopC (σ := Int × Unit) (fun _ s1 w K1 => Cb (decide (s1.1 < n)) (LdA 4 b 0 (At w) fun cs => CallV
  Try.prog 93 #[.agg cs, .int .i64 number, .int .i64 s1.1] w fun v1 w => T2 v1 fun v2 v3 => OpA 3 v2 fun cs1 => OpI .i64 v3 fun n1 => CallV Try.prog 72 #[.agg cs1, .int .i64
  n1, .pointer (some ⟨bo, 0, none⟩), .pointer (some ⟨bs, 0, none⟩)] w fun v4 w => OpI .i64 v4 fun n2 => Cb (n2 != 0) (Ret [] (R (.int .i64 n2) w)) (K1 (IntKind.wrap .i64
  (s1.1 + 1), ()) w)) (Ret [] (R (.int .i64 0) w))) (0, ()) w
theorem C_RowsSound {s : Array Value} {number : Int} {bo : Nat} {bs : Nat} {w : World} {R : Value → World → Prop} (h : F_RowsSound s number bo bs w R) : CallV Try.prog 70 #[.agg s, .int .i64 number, .func (.func 72) #[] #[.pointer (some ⟨bo, 0, none⟩), .pointer (some ⟨bs, 0, none⟩)]] w R := by
  exact calls_of_F (args := [.agg s, .int .i64 number, .func (.func 72) #[] #[.pointer (some ⟨bo, 0, none⟩), .pointer (some ⟨bs, 0, none⟩)]]) (mkAnn [(2, [(12, (.int .i64))])] [] [] [] []) Try_mixed Try.func70 rfl rfl (by kernel_rfl) h
def F_scrub_Scrub (s : Array Value) (number : Int) (epoch : Int) (w : World) (R : Value → World → Prop) : Prop :=
  Alc 29 s w fun b w => Alc 48 #[.int .u32 epoch] w fun b1 w => Alc 97 (zc Try.prog 97) w fun b2 w => LdA 4 b 0 (At w) fun cs => CallV Try.prog 33 #[.agg cs] w fun v w =>
  OpI .i64 v fun n => Cb (n != 0) (DoQ Try.prog (Instr.build 97 #[]) (At w) fun v1 => OpA 4 v1 fun cs1 => StA 4 b2 0 cs1 w fun w => LdA 4 b2 0 (At w) fun cs2 => Ret [] (R
  (.tuple #[.agg cs2, .int .i64 n]) w)) (Cb (decide (number < 0)) (DoQ Try.prog (Instr.build 97 #[]) (At w) fun v2 => OpA 4 v2 fun cs3 => StA 4 b2 0 cs3 w fun w => LdA 4 b2
  0 (At w) fun cs4 => Ret [] (R (.tuple #[.agg cs4, .int .i64 2]) w)) (LdV b 2 (At w) fun v3 => OpI .i64 v3 fun n1 => Cb (decide (number ≥ n1)) (DoQ Try.prog (Instr.build 97
  #[]) (At w) fun v4 => OpA 4 v4 fun cs5 => StA 4 b2 0 cs5 w fun w => LdA 4 b2 0 (At w) fun cs6 => Ret [] (R (.tuple #[.agg cs6, .int .i64 2]) w)) (Alc 97 (zc Try.prog 97) w
  fun b3 w => LdA 4 b 0 (At w) fun cs7 => CallV Try.prog 70 #[.agg cs7, .int .i64 number, .func (.func 71) #[] #[.pointer (some ⟨b3, 0, none⟩), .pointer (some ⟨b, 0, none⟩),
  .pointer (some ⟨b1, 0, none⟩)]] w fun v5 w => OpI .i64 v5 fun n2 => Cb (n2 != 0) (DoQ Try.prog (Instr.build 97 #[]) (At w) fun v6 => OpA 4 v6 fun cs8 => StA 4 b2 0 cs8 w
  fun w => LdA 4 b2 0 (At w) fun cs9 => Ret [] (R (.tuple #[.agg cs9, .int .i64 n2]) w)) (LdA 4 b3 0 (At w) fun cs10 => StA 4 b2 0 cs10 w fun w => LdA 4 b2 0 (At w) fun cs11
  => Ret [] (R (.tuple #[.agg cs11, .int .i64 0]) w)))))
theorem C_scrub_Scrub {s : Array Value} {number : Int} {epoch : Int} {w : World} {R : Value → World → Prop} (h : F_scrub_Scrub s number epoch w R) : CallV Try.prog 38 #[.agg s, .int .i64 number, .int .u32 epoch] w R := by
  exact calls_of_F (args := [.agg s, .int .i64 number, .int .u32 epoch]) (mkAnn [] [] [] [] []) Try_mixed Try.func38 rfl rfl (by kernel_rfl) h
def F_scrub_Sound (s : Array Value) (w : World) (R : Value → World → Prop) : Prop :=
  Alc 29 s w fun b w => LdA 4 b 0 (At w) fun cs => CallV Try.prog 33 #[.agg cs] w fun v w => OpI .i64 v fun n => Cb (n != 0) (Ret [] (R (.tuple #[.bool false, .int .i64 n])
  w)) (Alc 4 (zc Try.prog 4) w fun b1 w => StV b1 0 (.bool true) w fun w => LdV b 2 (At w) fun v1 => OpI .i64 v1 fun n1 => LoopC (σ := Int × Unit) (fun _ s1 w K1 => Cb
  (decide (s1.1 < n1)) (LdA 4 b 0 (At w) fun cs1 => CallV Try.prog 70 #[.agg cs1, .int .i64 s1.1, .func (.func 72) #[] #[.pointer (some ⟨b1, 0, none⟩), .pointer (some ⟨b, 0,
  none⟩)]] w fun v2 w => OpI .i64 v2 fun n2 => Cb (n2 != 0) (Ret [] (R (.tuple #[.bool false, .int .i64 n2]) w)) (K1 (IntKind.wrap .i64 (s1.1 + 1), ()) w)) (LdV b1 0 (At w)
  fun v3 => OpB v3 fun g => Ret [] (R (.tuple #[.bool g, .int .i64 0]) w))) (0, ()) w)
theorem C_scrub_Sound {s : Array Value} {w : World} {R : Value → World → Prop} (h : F_scrub_Sound s w R) : CallV Try.prog 39 #[.agg s] w R := by
  exact calls_of_F (args := [.agg s]) (mkAnn [(6, [(16, (.int .i64))])] [] [] [] []) Try_mixed Try.func39 rfl rfl (by kernel_rfl) h
def F_layout_Back (g : Array Value) (p : Array Value) (w : World) (R : Value → World → Prop) : Prop :=
  Alc 25 g w fun b w => Alc 53 p w fun b1 w => LdA 3 b 0 (At w) fun cs => CallV Try.prog 59 #[.agg cs] w fun v w => T2 v fun v1 v2 => OpI .i64 v1 fun n => OpI .i64 v2 fun n1
  => Cb (n1 != 0) (Ret [] (R (.tuple #[.int .i64 0, .int .i64 0, .int .i64 n1]) w)) (LdV b1 0 (At w) fun v3 => OpI .i64 v3 fun n2 => Cb (decide (n2 < 0)) (Ret [] (R (.tuple
  #[.int .i64 0, .int .i64 0, .int .i64 2]) w)) (LdV b1 0 (At w) fun v4 => OpI .i64 v4 fun n3 => LdV b 0 (At w) fun v5 => OpI .i64 v5 fun n4 => Cb (decide (n3 ≥ n4)) (Ret []
  (R (.tuple #[.int .i64 0, .int .i64 0, .int .i64 2]) w)) (LdV b1 1 (At w) fun v6 => OpI .i64 v6 fun n5 => Cb (decide (n5 < 0)) (Ret [] (R (.tuple #[.int .i64 0, .int .i64
  0, .int .i64 2]) w)) (LdV b1 1 (At w) fun v7 => OpI .i64 v7 fun n6 => Cb (decide (n6 ≥ n)) (Ret [] (R (.tuple #[.int .i64 0, .int .i64 0, .int .i64 2]) w)) (LdV b1 1 (At
  w) fun v8 => OpI .i64 v8 fun n7 => LdV b 1 (At w) fun v9 => OpI .i64 v9 fun n8 => Req (n8 ≠ 0) (LdV b 0 (At w) fun v10 => OpI .i64 v10 fun n9 => Drw w fun w => HeldR w fun
  S w => LdV b1 0 S fun v11 => OpI .i64 v11 fun n10 => LdA 3 b 0 (At w) fun cs1 => LdV b 0 S fun v12 => OpI .i64 v12 fun n11 => LdV b 0 S fun v13 => OpI .i64 v13 fun n12 =>
  CallV Try.prog 77 #[.agg cs1, .int .i64 (IntKind.wrap .i64 (Int.tdiv n7 n8))] w fun v14 w => OpI .i64 v14 fun n13 => Hld (S w) (Req (n12 ≠ 0) (Cb (decide (Int.tmod
  (IntKind.wrap .i64 ((IntKind.wrap .i64 (n10 - n13)) + n11)) n12 ≥ IntKind.wrap .i64 (n9 - 2))) (Ret [] (R (.tuple #[.int .i64 (-1), .int .i64 (Int.tmod (IntKind.wrap .i64
  ((IntKind.wrap .i64 (n10 - n13)) + n11)) n12), .int .i64 0]) w)) (LdV b 1 (At w) fun v15 => OpI .i64 v15 fun n14 => LdV b1 1 (At w) fun v16 => OpI .i64 v16 fun n15 => LdV
  b 1 (At w) fun v17 => OpI .i64 v17 fun n16 => Req (n16 ≠ 0) (Drw w fun w => Ret [] (R (.tuple #[.int .i64 (IntKind.wrap .i64 ((IntKind.wrap .i64 ((IntKind.wrap .i64
  ((IntKind.wrap .i64 ((IntKind.wrap .i64 (Int.tdiv n7 n8)) * (IntKind.wrap .i64 (n9 - 2)))) + (Int.tmod (IntKind.wrap .i64 ((IntKind.wrap .i64 (n10 - n13)) + n11)) n12))) *
  n14)) + (Int.tmod n15 n16))), .int .i64 (Int.tmod (IntKind.wrap .i64 ((IntKind.wrap .i64 (n10 - n13)) + n11)) n12), .int .i64 0]) w)))))))))))
theorem C_layout_Back {g : Array Value} {p : Array Value} {w : World} {R : Value → World → Prop} (h : F_layout_Back g p w R) : CallV Try.prog 74 #[.agg g, .agg p] w R := by
  exact calls_of_F (args := [.agg g, .agg p]) (mkAnn [] [] [] [] [51]) Try_mixed Try.func74 rfl rfl (by kernel_rfl) h
def F_scrub_Rebuild (s : Array Value) (disk : Int) (mark : Int) (count : Int) (epoch : Int) (w : World) (R : Value → World → Prop) : Prop :=
  Alc 29 s w fun b w => LdA 4 b 0 (At w) fun cs => CallV Try.prog 33 #[.agg cs] w fun v w => OpI .i64 v fun n => Cb (n != 0) (Ret [] (R (.tuple #[.int .i64 0, .int .i64 n])
  w)) (LdA 3 b 0 (At w) fun cs1 => CallV Try.prog 59 #[.agg cs1] w fun v1 w => T2 v1 fun v2 v3 => OpI .i64 v2 fun n1 => OpI .i64 v3 fun n2 => JoinC (σ := Bool × Unit) (fun
  J1 => Cb (decide (disk < 0)) (Req (true = true) (Req (true = true) (Req (true = true) (Req (true = true) (Req (true = true) (Req (true = true) (Req (true = true) (J1
  (true, ()) w)))))))) (LdV b 0 (At w) fun v4 => OpI .i64 v4 fun n3 => Req ((decide (disk ≥ n3)) = (decide (disk ≥ n3))) (Req ((decide (disk ≥ n3)) = (decide (disk ≥ n3)))
  (Req ((cond (decide (disk ≥ n3)) true (decide (mark < 0))) = (cond (decide (disk ≥ n3)) true (decide (mark < 0)))) (Req ((cond (decide (disk ≥ n3)) true (decide (mark <
  0))) = (cond (decide (disk ≥ n3)) true (decide (mark < 0)))) (Req ((cond (decide (disk ≥ n3)) true (decide (mark < 0))) = (cond (decide (disk ≥ n3)) true (decide (mark <
  0)))) (Req ((cond (cond (decide (disk ≥ n3)) true (decide (mark < 0))) true (decide (mark > n1))) = (cond (cond (decide (disk ≥ n3)) true (decide (mark < 0))) true (decide
  (mark > n1)))) (Req ((cond (cond (decide (disk ≥ n3)) true (decide (mark < 0))) true (decide (mark > n1))) = (cond (cond (decide (disk ≥ n3)) true (decide (mark < 0)))
  true (decide (mark > n1)))) (J1 (cond (cond (cond (decide (disk ≥ n3)) true (decide (mark < 0))) true (decide (mark > n1))) true (decide (count < 0)), ()) w))))))))) (fun
  _ s1 w => Cb s1.1 (Ret [] (R (.tuple #[.int .i64 0, .int .i64 2]) w)) (LdV b 3 (At w) fun v5 => OpS v5 fun p l c => IdxS p l disk 1 fun b1 o => LdV b1 o (At w) fun v6 =>
  OpN v6 fun b2 o1 => CallV Try.prog 47 #[.pointer (some ⟨b2, o1, none⟩)] w fun v7 w => OpB v7 fun g => Cb (!g) (Ret [] (R (.tuple #[.int .i64 0, .int .i64 5]) w)) (JoinC (σ
  := Int × Unit) (fun J2 => Cb (decide (count < IntKind.wrap .i64 (n1 - mark))) (J2 (IntKind.wrap .i64 (mark + count), ()) w) (J2 (n1, ()) w)) (fun _ s2 w => LoopC (σ := Int
  × Unit) (fun _ s3 w K3 => Cb (decide (s3.1 < s2.1)) (LdV b 3 (At w) fun v8 => OpS v8 fun p1 l1 c1 => IdxS p1 l1 disk 1 fun b3 o2 => LdV b3 o2 (At w) fun v9 => OpN v9 fun
  b4 o3 => CallV Try.prog 21 #[.pointer (some ⟨b4, o3, none⟩), .int .i64 s3.1] w fun v10 w => T2 v10 fun v11 v12 => OpA 17 v11 fun cs2 => OpI .i64 v12 fun n4 => Alc 57 (zc
  Try.prog 57) w fun b5 w => StA 17 b5 0 cs2 w fun w => Cb (n4 == 4) (Ret [] (R (.tuple #[.int .i64 s3.1, .int .i64 n4]) w)) (JoinC (σ := Bool × Unit) (fun J4 => Cb (n4 ==
  0) (LdA 17 b5 0 (At w) fun cs3 => CallV Try.prog 73 #[.int .i64 s3.1, .agg cs3] w fun v13 w => OpB v13 fun g1 => J4 (g1, ()) w) (J4 (false, ()) w)) (fun _ s4 w => Cb s4.1
  (K3 (IntKind.wrap .i64 (s3.1 + 1), ()) w) (HeldR w fun S w => LdA 4 b 0 (At w) fun cs4 => LdV b 1 S fun v14 => OpI .i64 v14 fun n5 => Req (n5 ≠ 0) (LdV b 1 S fun v15 =>
  OpI .i64 v15 fun n6 => Req (n6 ≠ 0) (CallV Try.prog 23 #[.agg cs4, .int .i64 (IntKind.wrap .i64 (Int.tdiv s3.1 n5)), .int .i64 (Int.tmod s3.1 n6)] w fun v16 w => T3 v16
  fun v17 v18 v19 => OpS v17 fun p2 l2 c2 => OpS v18 fun p3 l3 c3 => OpI .i64 v19 fun n7 => Hld (S w) (Cb (n7 != 0) (Ret [] (R (.tuple #[.int .i64 s3.1, .int .i64 n7]) w))
  (LdA 3 b 0 (At w) fun cs5 => DoQ Try.prog (Instr.build 53 #[(0, .int .i64 disk), (1, .int .i64 s3.1)]) (At w) fun v20 => OpA 2 v20 fun cs6 => CallV Try.prog 74 #[.agg cs5,
  .agg cs6] w fun v21 w => T3 v21 fun v22 v23 v24 => OpI .i64 v22 fun n8 => OpI .i64 v23 fun n9 => OpI .i64 v24 fun n10 => HeldR w fun S w => LdA 4 b 0 S fun cs7 => DoQ
  Try.prog (Instr.build 53 #[(0, .int .i64 disk), (1, .int .i64 s3.1)]) S fun v25 => OpA 2 v25 fun cs8 => IdxS p2 l2 n9 16 fun b6 o4 => LdA 16 b6 o4 S fun cs9 => CallV
  Try.prog 48 #[.int .i64 s3.1, .agg cs9] w fun v26 w => OpA 17 v26 fun cs10 => Hld (S w) (DoQ Try.prog (Instr.build 110 #[(0, .agg cs8), (1, .agg cs10)]) S fun v27 => OpA
  19 v27 fun cs11 => DoV Try.prog (Instr.buildSlice 44 1 #[(0, .agg cs11)]) w fun v28 w => OpS v28 fun p4 l4 c4 => Hld (S w) (CallV Try.prog 18 #[.agg cs7, .slice p4 l4 c4,
  .int .u32 epoch] w fun v29 w => OpI .i64 v29 fun n11 => Hld (S w) (Cb (n11 != 0) (Ret [] (R (.tuple #[.int .i64 s3.1, .int .i64 n11]) w)) (K3 (IntKind.wrap .i64 (s3.1 +
  1), ()) w)))))))))))) (Ret [] (R (.tuple #[.int .i64 s3.1, .int .i64 0]) w))) (mark, ()) w)))))
theorem C_scrub_Rebuild {s : Array Value} {disk : Int} {mark : Int} {count : Int} {epoch : Int} {w : World} {R : Value → World → Prop} (h : F_scrub_Rebuild s disk mark count epoch w R) : CallV Try.prog 41 #[.agg s, .int .i64 disk, .int .i64 mark, .int .i64 count, .int .u32 epoch] w R := by
  exact calls_of_F (args := [.agg s, .int .i64 disk, .int .i64 mark, .int .i64 count, .int .u32 epoch]) (mkAnnR [(12, [(2, (.int .i64))])] [] [(11, [(15, (.int .i64))])] [] [113, 140, 144] [] [(5, [(35, .bool)]), (17, [(100, .bool)])]) Try_mixed Try.func41 rfl rfl (by kernel_rfl) h
end Go.Proofs
