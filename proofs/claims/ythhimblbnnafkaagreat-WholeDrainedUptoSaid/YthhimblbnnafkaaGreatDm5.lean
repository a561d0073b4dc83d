import Derived.Test.YthhimblbnnafkaaGreatDm4
set_option linter.unusedSimpArgs false
set_option linter.unusedVariables false
namespace Go.Proofs
open Go.Ev
set_option maxRecDepth 100000
def G7 (c : Array Value) (capacity : Int) (w : World) (R : Value → World → Prop) : Prop :=
 Alc 41 c w fun b w => LdV b 0 (At w) fun v => OpI .i64 v fun n => xV (σ := Int × Unit) (fun J1 => xV (σ := Bool × Unit) (fun J2 => Cb (n == 1) (J2 (n == 1, ()) w)
 (Cb (n == 4) (J2 (n == 4, ()) w) (Cb (n == 7) (J2 (n == 7, ()) w) (Cb (n == 9) (J2 (n == 9, ()) w) (J2 (n == 10, ()) w))))) (fun _ s2 w => Cb s2.1 (Ret [] (R (.int .i64 0)
 w)) (Cb (n == 8) (LdV b 5 (At w) fun v1 => OpI .i64 v1 fun n1 => Cb (decide (n1 < 1)) (Ret [] (R (.int .i64 2) w)) (LdV b 5 (At w) fun v2 => OpI .i64 v2 fun n2 => Cb
 (decide (n2 > 4)) (Ret [] (R (.int .i64 2) w)) (Ret [] (R (.int .i64 0) w)))) (Cb (n == 11) (LdV b 4 (At w) fun v3 => OpI .u64 v3 fun n3 => Cb (n3 == 0) (Ret [] (R (.int
 .i64 2) w)) (Ret [] (R (.int .i64 0) w))) (xV (σ := Bool × Unit) (fun J3 => Cb (n == 2) (J3 (n == 2, ()) w) (J3 (n == 6, ()) w)) (fun _ s3 w => Cb s3.1 (LdV b 2 (At w)
 fun v4 => OpI .i64 v4 fun n4 => J1 (n4, ()) w) (Cb (n == 3) (LdV b 3 (At w) fun v5 => OpS v5 fun p l c1 => J1 (((l : Nat) : Int), ()) w) (Cb (n == 5) (LdV b 3 (At w) fun
 v6 => OpS v6 fun p1 l1 c2 => Cb (((l1 : Nat) : Int) == 2) (J1 (1, ()) w) (J1 (0, ()) w)) (J1 (0, ()) w))))))))) (fun _ s1 w => Req ((decide (s1.1 < 1)) = (decide (s1.1 <
 1))) (Req ((decide (s1.1 < 1)) = (decide (s1.1 < 1))) (Cb (cond (decide (s1.1 < 1)) true (decide (s1.1 > 8))) (Req (true = true) (Req (true = true) (Req (true = true) (Ret
 [] (R (.int .i64 2) w))))) (LdV b 1 (At w) fun v7 => OpI .i64 v7 fun n5 => Req ((decide (n5 < 0)) = (decide (n5 < 0))) (Req ((decide (n5 < 0)) = (decide (n5 < 0))) (Req
 ((decide (n5 < 0)) = (decide (n5 < 0))) (Cb (cond (decide (n5 < 0)) true (decide (capacity < s1.1))) (Ret [] (R (.int .i64 2) w)) (LdV b 1 (At w) fun v8 => OpI .i64 v8 fun
 n6 => Cb (decide (n6 > IntKind.wrap .i64 (capacity - s1.1))) (Ret [] (R (.int .i64 2) w)) (Ret [] (R (.int .i64 0) w))))))))))
theorem zAq {c : Array Value} {capacity : Int} {w : World} {R : Value → World → Prop} (h : G7 c capacity w R) : zB Tryz.prog 147 #[.agg c, .int .i64 capacity] w R := by
 exact zE (args := [.agg c, .int .i64 capacity]) (zR [] [(0, [(5, (.int .i64))])] [(50004, [(8, .bool)]), (50018, [(29, .bool)])] [] []) zD Tryz.func147 rfl rfl (by kernel_rfl) h
def UF (d : Nat) (capacity : Int) (init : Int) (c : Array Value) (w : World) (R : Value → World → Prop) : Prop :=
 Alc 41 c w fun b w => Alc 34 (zc Tryz.prog 34) w fun b1 w => Req ((decide (init < 0)) = (decide (init < 0))) (Req ((decide (init < 0)) = (decide (init < 0))) (Cb (cond
 (decide (init < 0)) true (decide (init ≥ 16))) (DoQ Tryz.prog (Instr.build 34 #[(0, .int .i64 2), (1, .int .i64 5)]) (At w) fun v => OpA 3 v fun cs => StA 3 b1 0 cs w fun
 w => LdA 3 b1 0 (At w) fun cs1 => Ret [] (R (.tuple #[.agg cs1, .bool true]) w)) (LdA 7 b 0 (At w) fun cs2 => zB Tryz.prog 147 #[.agg cs2, .int .i64 capacity] w fun v1
 w => OpI .i64 v1 fun n => Cb (n != 0) (DoQ Tryz.prog (Instr.build 34 #[(0, .int .i64 2), (1, .int .i64 5)]) (At w) fun v2 => OpA 3 v2 fun cs3 => StA 3 b1 0 cs3 w fun w =>
 LdA 3 b1 0 (At w) fun cs4 => Ret [] (R (.tuple #[.agg cs4, .bool true]) w)) (LdV b 0 (At w) fun v3 => OpI .i64 v3 fun n1 => xV (σ := Int × Unit) (fun J1 => Cb (n1 == 2)
 (DoQ Tryz.prog (Instr.build 34 #[(0, .int .i64 3)]) (At w) fun v4 => OpA 3 v4 fun cs5 => zB Tryz.prog 148 #[.pointer (some ⟨d, 0, none⟩), .int .i64 init, .bool false] w
 fun v5 w => OpB v5 fun g => StA 3 b1 0 cs5 w fun w => LdA 3 b1 0 (At w) fun cs6 => Ret [] (R (.tuple #[.agg cs6, .bool (!g)]) w)) (xV (σ := Bool × Unit) (fun J2 => Cb
 (n1 == 3) (J2 (n1 == 3, ()) w) (Cb (n1 == 5) (J2 (n1 == 5, ()) w) (J2 (n1 == 6, ()) w))) (fun _ s2 w => Cb s2.1 (DoQ Tryz.prog (Instr.build 34 #[(0, .int .i64 3)]) (At w)
 fun v6 => OpA 3 v6 fun cs7 => zB Tryz.prog 148 #[.pointer (some ⟨d, 0, none⟩), .int .i64 init, .bool true] w fun v7 w => OpB v7 fun g1 => StA 3 b1 0 cs7 w fun w => LdA
 3 b1 0 (At w) fun cs8 => Ret [] (R (.tuple #[.agg cs8, .bool (!g1)]) w)) (Cb (n1 == 7) (LdV b 4 (At w) fun v8 => OpI .u64 v8 fun n2 => LdV b 6 (At w) fun v9 => OpB v9 fun
 g2 => zB Tryz.prog 149 #[.pointer (some ⟨d, 0, none⟩), .int .i64 init, .int .u64 n2, .bool g2] w fun v10 w => OpI .i64 v10 fun n3 => J1 (n3, ()) w) (Cb (n1 == 8) (LdV b
 5 (At w) fun v11 => OpI .i64 v11 fun n4 => zB Tryz.prog 150 #[.pointer (some ⟨d, 0, none⟩), .int .i64 init, .int .i64 n4] w fun v12 w => OpI .i64 v12 fun n5 => J1 (n5,
 ()) w) (Cb (n1 == 9) (zB Tryz.prog 151 #[.pointer (some ⟨d, 0, none⟩), .int .i64 init] w fun v13 w => OpI .i64 v13 fun n6 => J1 (n6, ()) w) (Cb (n1 == 10) (zB
 Tryz.prog 152 #[.pointer (some ⟨d, 0, none⟩), .int .i64 init] w fun v14 w => OpI .i64 v14 fun n7 => J1 (n7, ()) w) (Cb (n1 == 11) (LdV b 4 (At w) fun v15 => OpI .u64 v15
 fun n8 => zB Tryz.prog 153 #[.pointer (some ⟨d, 0, none⟩), .int .i64 init, .int .u64 n8] w fun v16 w => OpI .i64 v16 fun n9 => J1 (n9, ()) w) (DoQ Tryz.prog
 (Instr.build 34 #[]) (At w) fun v17 => OpA 3 v17 fun cs9 => StA 3 b1 0 cs9 w fun w => LdA 3 b1 0 (At w) fun cs10 => Ret [] (R (.tuple #[.agg cs10, .bool false])
 w)))))))))) (fun _ s1 w => Cb (s1.1 != 0) (DoQ Tryz.prog (Instr.build 34 #[(0, .int .i64 3)]) (At w) fun v18 => OpA 3 v18 fun cs11 => StA 3 b1 0 cs11 w fun w => LdA 3 b1 0
 (At w) fun cs12 => Ret [] (R (.tuple #[.agg cs12, .bool true]) w)) (DoQ Tryz.prog (Instr.build 34 #[(0, .int .i64 1)]) (At w) fun v19 => OpA 3 v19 fun cs13 => StA 3 b1 0
 cs13 w fun w => LdA 3 b1 0 (At w) fun cs14 => Ret [] (R (.tuple #[.agg cs14, .bool true]) w)))))))
theorem L2 {d : Nat} {capacity : Int} {init : Int} {c : Array Value} {w : World} {R : Value → World → Prop} (h : UF d capacity init c w R) : zB Tryz.prog 80 #[.pointer (some ⟨d, 0, none⟩), .int .i64 capacity, .int .i64 init, .agg c] w R := by
 exact zE (args := [.pointer (some ⟨d, 0, none⟩), .int .i64 capacity, .int .i64 init, .agg c]) (zR [] [(0, [(10, (.int .i64))])] [(50009, [(34, .bool)])] [] []) zD Tryz.func80 rfl rfl (by kernel_rfl) h
end Go.Proofs
namespace Go.Proofs
open Go Go.Ev
set_option maxRecDepth 100000
structure Cmd where
 k : Int
 lba : Int
 n : Int
 dp : Option Addr
 dl : Nat
 dc : Nat
 key : Int
 ty : Int
 kp : Bool
def cmdC (c : Cmd) : Array Value := #[.int .i64 c.k, .int .i64 c.lba, .int .i64 c.n, .slice c.dp c.dl c.dc, .int .u64 c.key, .int .i64 c.ty, .bool c.kp]
def repC (st se : Int) (p : Option Addr) (l c : Nat) : Array Value := #[.int .i64 st, .int .i64 se, .slice p l c]
def cntC (c : Cmd) : Int := if c.k = 2 then c.n else (c.dl : Int)
def cdE (c : Cmd) (cap : Int) : Int := if c.k = 4 then 0 else if cntC c < 1 ∨ 8 < cntC c ∨ c.lba < 0 ∨ cap < cntC c ∨ cap - cntC c < c.lba then 2 else 0
def gN (d : Dk) (cap init : Int) (c : Cmd) : (Int × Int) × Bool :=
 if init < 0 ∨ 16 ≤ init ∨ cdE c cap ≠ 0 then ((2, 5), true) else if c.k = 4 then ((0, 0), false) else ((3, 0), !mayD d init (decide (c.k = 3)))
theorem zQf (c : Cmd) : ∀ v ∈ (cmdC c).toList, oneV v = true := by
 intro v hv
 simp only [cmdC, List.mem_cons, List.not_mem_nil, or_false] at hv
 rcases hv with rfl | rfl | rfl | rfl | rfl | rfl | rfl <;> rfl
theorem vE (st se : Int) (p : Option Addr) (l c : Nat) : ∀ v ∈ (repC st se p l c).toList, oneV v = true := by
 intro v hv
 simp only [repC, List.mem_cons, List.not_mem_nil, or_false] at hv
 rcases hv with rfl | rfl | rfl <;> rfl
theorem Z5 : zc Tryz.prog 34 = repC 0 0 none 0 0 := by kernel_rfl
theorem zCb (w : World) : (Instr.build 34 #[]).run Tryz.prog w = .ok (.agg (repC 0 0 none 0 0)) w := run_build _ _ _ _ (by kernel_rfl)
theorem QK (x : Int) (w : World) : (Instr.build 34 #[(0, .int .i64 x)]).run Tryz.prog w = .ok (.agg (repC x 0 none 0 0)) w := run_build _ _ _ _ (by kernel_rfl)
theorem OC (x y : Int) (w : World) : (Instr.build 34 #[(0, .int .i64 x), (1, .int .i64 y)]).run Tryz.prog w = .ok (.agg (repC x y none 0 0)) w := run_build _ _ _ _ (by kernel_rfl)
section calls
variable {w : World} {R : Value → World → Prop}
theorem zJw {c : Cmd} (hk : c.k = 2 ∨ c.k = 3 ∨ c.k = 4) {cap : Int} (hc0 : 0 ≤ cap) (hc1 : cap ≤ 1000000) (hK : ∀ w', Keep (fun _ => False) w w' → R (.int .i64 (cdE c cap)) w') : zB Tryz.prog 147 #[.agg (cmdC c), .int .i64 cap] w R := by
 apply zAq
 unfold G7
 refine zK fun w1 hb1 k1 z1 => ?_
 refine zG (v := .int .i64 c.k) hb1 rfl (zA.2 ?_)
 have hd : ∀ a b : Int, (a == b) = decide (a = b) := fun a b => by rw [Bool.eq_iff_iff]; simp
 have n1 : (c.k == 1) = false := by rw [hd]; exact decide_eq_false (by omega)
 have n7 : (c.k == 7) = false := by rw [hd]; exact decide_eq_false (by omega)
 have n8 : (c.k == 8) = false := by rw [hd]; exact decide_eq_false (by omega)
 have n9 : (c.k == 9) = false := by rw [hd]; exact decide_eq_false (by omega)
 have n10 : (c.k == 10) = false := by rw [hd]; exact decide_eq_false (by omega)
 have n11 : (c.k == 11) = false := by rw [hd]; exact decide_eq_false (by omega)
 have n6 : (c.k == 6) = false := by rw [hd]; exact decide_eq_false (by omega)
 simp only [n1, n7, n8, n9, n10, n11, n6]
 unfold cdE at hK
 refine ⟨fun st w' => w' = w1 ∧ st.1 = cntC c ∧ ¬ c.k = 4, ?_, ?_⟩
 ·refine ⟨fun st w' => w' = w1 ∧ st.1 = decide (c.k = 4), ?_, ?_⟩
  ·refine (zH (p := _)).2 (zN (fun h => ⟨rfl, by rw [← hd]⟩) (fun h => ?_))
   exact (zH (p := _)).2 ((zH (p := _)).2 ⟨rfl, by rw [← hd]; exact h.symm⟩)
  rintro _ ⟨b, u⟩ w2 ⟨rfl, hb⟩
  simp only at hb ⊢
  subst hb
  refine zN (fun h4 => ?_) (fun h4 => ?_)
  ·have h4 : c.k = 4 := by simpa using h4
   rw [if_pos h4] at hK
   exact zF.2 (hK w2 k1)
  have h4 : ¬ c.k = 4 := by simpa using h4
  refine (zH (p := _)).2 ((zH (p := _)).2 ⟨fun st w' => w' = w2 ∧ st.1 = decide (c.k = 2), ?_, ?_⟩)
  ·exact zN (fun h => ⟨rfl, by rw [← hd]⟩) (fun h => ⟨rfl, by rw [← hd]; exact h.symm⟩)
  rintro _ ⟨b, u⟩ w3 ⟨rfl, hb⟩
  simp only at hb ⊢
  subst hb
  refine zN (fun h2 => ?_) (fun h2 => ?_)
  ·have h2 : c.k = 2 := by simpa using h2
   exact zG (v := .int .i64 c.n) hb1 rfl (zA.2 ⟨by trivial, by unfold cntC; rw [if_pos h2], h4⟩)
  ·have h2 : ¬ c.k = 2 := by simpa using h2
   have e3 : (c.k == 3) = true := by rw [hd]; exact decide_eq_true (by omega)
   rw [e3]
   exact (zT (q := _)).2 (zG (v := .slice c.dp c.dl c.dc) hb1 rfl (zC.2 ⟨by trivial, by unfold cntC; rw [if_neg h2], h4⟩))
 rintro _ ⟨n, u⟩ w2 ⟨rfl, hn, h4⟩
 simp only at hn ⊢
 subst hn
 rw [if_neg h4] at hK
 refine ⟨by trivial, by trivial, ?_⟩
 refine zN (fun h => ⟨by trivial, by trivial, by trivial, ?_⟩) (fun h => ?_)
 ·rw [if_pos (by
   by_cases hx : cntC c < 1
   ·exact Or.inl hx
   ·rw [decide_eq_false hx] at h
    exact Or.inr (Or.inl (by simpa using h)))] at hK
  exact zF.2 (hK w2 k1)
 have h1 : ¬ cntC c < 1 := fun hx => by rw [decide_eq_true hx] at h; cases h
 have h2 : ¬ 8 < cntC c := fun hx => by rw [decide_eq_false h1] at h; simp at h; omega
 refine zG (v := .int .i64 c.lba) hb1 rfl (zA.2 ⟨by trivial, by trivial, by trivial, ?_⟩)
 refine zN (fun h => ?_) (fun h => ?_)
 ·rw [if_pos (by
   by_cases hx : c.lba < 0
   ·exact Or.inr (Or.inr (Or.inl hx))
   ·rw [decide_eq_false hx] at h
    exact Or.inr (Or.inr (Or.inr (Or.inl (by simpa using h)))))] at hK
  exact zF.2 (hK w2 k1)
 have h3 : ¬ c.lba < 0 := fun hx => by rw [decide_eq_true hx] at h; cases h
 have h5 : ¬ cap < cntC c := fun hx => by rw [decide_eq_false h3] at h; simp at h; omega
 refine zG (v := .int .i64 c.lba) hb1 rfl (zA.2 ?_)
 rw [zW (by omega) (by omega)]
 refine zN (fun h => ?_) (fun h => ?_)
 ·have h : c.lba > cap - cntC c := by simpa using h
  rw [if_pos (by omega)] at hK
  exact zF.2 (hK w2 k1)
 ·have h : ¬ c.lba > cap - cntC c := by simpa using h
  rw [if_neg (by omega)] at hK
  exact zF.2 (hK w2 k1)
theorem T1 {b : Nat} {d : Dk} (hd : DkAt w b d) {c : Cmd} (hk : c.k = 2 ∨ c.k = 3 ∨ c.k = 4) {cap init : Int} (hc0 : 0 ≤ cap) (hc1 : cap ≤ 1000000)
  (hK : ∀ w', Keep (fun _ => False) w w' → R (.tuple #[.agg (repC (gN d cap init c).1.1 (gN d cap init c).1.2 none 0 0), .bool (gN d cap init c).2]) w') :
  zB Tryz.prog 80 #[.pointer (some ⟨b, 0, none⟩), .int .i64 cap, .int .i64 init, .agg (cmdC c)] w R := by
 apply L2
 unfold UF
 unfold gN at hK
 refine zK fun w1 hb1 k1 z1 => ?_
 refine zK fun w2 hb2 k2 z2 => ?_
 rw [Z5] at hb2
 have k02 := k1.trans k2
 have hbc := k2.has hb1 (by simp)
 have fin : ∀ {x y : Int} {w3 : World} {g : Bool} {K : Value → World → Prop}, Keep (fun _ => False) w2 w3 → (∀ w', Keep (fun _ => False) w w' → K (.tuple #[.agg (repC x y none 0 0), .bool g]) w') → StA 3 w1.heap.size 0 (repC x y none 0 0) w3 fun w => LdA 3 w1.heap.size 0 (At w) fun cs => Ret [] (K (.tuple #[.agg cs, .bool g]) w) := fun k hh => by
  have hb := k.has hb2 (by simp)
  refine yB hb rfl rfl (vE _ _ _ _ _) (zQ (hb.zL _) rfl (zF.2 (hh _ ((k02.trans k).upd (fun hi => absurd hi (by have := k1.size; omega)) _))))
 refine ⟨rfl, rfl, ?_⟩
 refine zN (fun h => ?_) (fun h => ?_)
 ·rw [if_pos (by
   by_cases hx : init < 0
   ·exact Or.inl hx
   ·rw [decide_eq_false hx] at h
    exact Or.inr (Or.inl (by simpa using h)))] at hK
  exact zV (fun _ => OC 2 5 _) (zJ.2 ⟨rfl, fin (Keep.refl _ _) hK⟩)
 have h1 : ¬ init < 0 := fun hx => by rw [decide_eq_true hx] at h; cases h
 have h2 : ¬ 16 ≤ init := fun hx => by rw [decide_eq_false h1] at h; simp at h; omega
 refine zQ hbc rfl ?_
 refine zJw hk hc0 hc1 fun w3 k3 => zA.2 ?_
 refine zN (fun h => ?_) (fun h => ?_)
 ·have h : ¬ cdE c cap = 0 := by simpa using h
  rw [if_pos (Or.inr (Or.inr h))] at hK
  exact zV (fun _ => OC 2 5 _) (zJ.2 ⟨rfl, fin k3 hK⟩)
 have h3 : cdE c cap = 0 := by simpa using h
 rw [if_neg (by rintro (h | h | h) <;> contradiction)] at hK
 have hd3 : DkAt w3 b d := (k02.trans k3).has (show Has w _ _ from hd) (by simp)
 refine zG (v := .int .i64 c.k) (k3.has hbc (by simp)) rfl (zA.2 ?_)
 have hdd : ∀ a b : Int, (a == b) = decide (a = b) := fun a b => by rw [Bool.eq_iff_iff]; simp
 have n5 : (c.k == 5) = false := by rw [hdd]; exact decide_eq_false (by omega)
 have n6 : (c.k == 6) = false := by rw [hdd]; exact decide_eq_false (by omega)
 have n7 : (c.k == 7) = false := by rw [hdd]; exact decide_eq_false (by omega)
 have n8 : (c.k == 8) = false := by rw [hdd]; exact decide_eq_false (by omega)
 have n9 : (c.k == 9) = false := by rw [hdd]; exact decide_eq_false (by omega)
 have n10 : (c.k == 10) = false := by rw [hdd]; exact decide_eq_false (by omega)
 have n11 : (c.k == 11) = false := by rw [hdd]; exact decide_eq_false (by omega)
 simp only [n5, n6, n7, n8, n9, n10, n11]
 refine ⟨fun _ _ => False, ?_, fun _ _ _ h => h.elim⟩
 refine zN (fun h => ?_) (fun h => ?_)
 ·have h : c.k = 2 := by simpa using h
  rw [if_neg (by omega), decide_eq_false (by omega)] at hK
  exact zV (fun _ => QK 3 _) (zJ.2 ⟨rfl, zKt hd3 init false (zM.2 (fin k3 hK))⟩)
 have h : ¬ c.k = 2 := by simpa using h
 refine ⟨fun st w' => st.1 = decide (c.k = 3) ∧ w' = w3, ?_, ?_⟩
 ·exact zN (fun h => ⟨by rw [← hdd], rfl⟩) (fun h => (zH (p := _)).2 ⟨by rw [← hdd]; exact h.symm, rfl⟩)
 rintro _ ⟨g, u⟩ w4 ⟨hg, rfl⟩
 simp only at hg ⊢
 subst hg
 refine zN (fun h => ?_) (fun h => ?_)
 ·have h : c.k = 3 := by simpa using h
  rw [if_neg (by omega), decide_eq_true h] at hK
  exact zV (fun _ => QK 3 _) (zJ.2 ⟨rfl, zKt hd3 init true (zM.2 (fin k3 hK))⟩)
 ·have h : ¬ c.k = 3 := by simpa using h
  rw [if_pos (by omega)] at hK
  exact (zH (p := _)).2 ((zH (p := _)).2 ((zH (p := _)).2 ((zH (p := _)).2 ((zH (p := _)).2 (zV (fun _ => zCb _) (zJ.2 ⟨rfl, fin k3 hK⟩))))))
end calls
def zHo (a : Nat) (side : Int) (b b1 : Nat) (w : World) (R : Value → World → Prop) : Prop :=
 DoQ Tryz.prog (Instr.build 34 #[(0, .int .i64 1)]) (At w) fun v21 => OpA 3 v21 fun cs14 => Alc 34 (zc Tryz.prog 34) w fun b7 w => StA 3 b7 0 cs14 w fun w => LdV b 0 (At w) fun v22 => OpI .i64 v22 fun n3 => xV (σ := Unit) (fun J2 => Cb (n3 == 2) (LdV b 2 (At w) fun v23 => OpI .i64 v23 fun n4 => yC (σ := Int × Unit) (fun _ s3 w K3 => Cb (decide (s3.1 < n4)) (LdV b 1 (At w) fun v24 => OpI .i64 v24 fun n5 => zB Tryz.prog 81 #[.pointer (some ⟨a, 0, none⟩), .int .i64 (IntKind.wrap .i64 (n5 + s3.1))] w fun v25 w => T2 v25 fun v26 v27 => OpA 16 v26 fun cs15 => OpI .i64 v27 fun n6 => Alc 37 (zc Tryz.prog 37) w fun b8 w => StA 16 b8 0 cs15 w fun w => Cb (n6 != 0) (zB Tryz.prog 77 #[.pointer (some ⟨a, 0, none⟩), .int .i64 3] w fun v28 w => OpA 3 v28 fun cs16 => StA 3 b1 0 cs16 w fun w => xG Tryz.prog 76 #[.pointer (some ⟨a, 0, none⟩)] w fun w => LdA 3 b1 0 (At w) fun cs17 => R (.agg cs17) w) (LdV b7 2 (At w) fun v29 => OpS v29 fun p l c1 => LdA 16 b8 0 (At w) fun cs18 => DoV Tryz.prog (Instr.buildSlice 32 1 #[(0, .agg cs18)]) w fun v30 w => OpS v30 fun p1 l1 c2 => DoV Tryz.prog (Builtin.append_ #[32, 32] 32 #[.slice p l c1, .slice p1 l1 c2]) w fun v31 w => OpS v31 fun p2 l2 c3 => StV b7 2 (.slice p2 l2 c3) w fun w => K3 (IntKind.wrap .i64 (s3.1 + 1), ()) w)) (J2 () w)) (0, ()) w) (xV (σ := Bool × Unit) (fun J4 => Cb (n3 == 3) (J4 (n3 == 3, ()) w) (J4 (n3 == 6, ()) w)) (fun _ s4 w => Cb s4.1 (LdV b 3 (At w) fun v32 => OpS v32 fun p3 l3 c4 => LdV b 0 (At w) fun v33 => OpI .i64 v33 fun n7 => xV (σ := (Option Addr × Nat × Nat) × Unit) (fun J5 => Cb (n7 == 6) (LdV b 2 (At w) fun v34 => OpI .i64 v34 fun n8 => DoV Tryz.prog (Instr.makeSlice 32 (.int .i64 n8) (.int .i64 n8)) w fun v35 w => OpS v35 fun p4 l4 c5 => J5 ((p4, l4, c5), ()) w) (J5 ((p3, l3, c4), ()) w)) (fun _ s5 w => yC (σ := Int × Unit) (fun _ s6 w K6 => Cb (decide (s6.1 < ((s5.1.2.1 : Nat) : Int))) (IdxS s5.1.1 s5.1.2.1 s6.1 16 fun b9 o2 => LdA 16 b9 o2 (At w) fun cs19 => Alc 37 (zc Tryz.prog 37) w fun b10 w => StA 16 b10 0 cs19 w fun w => LdV b 1 (At w) fun v36 => OpI .i64 v36 fun n9 => LdA 16 b10 0 (At w) fun cs20 => zB Tryz.prog 82 #[.pointer (some ⟨a, 0, none⟩), .int .i64 side, .int .i64 (IntKind.wrap .i64 (n9 + s6.1)), .agg cs20] w fun v37 w => OpI .i64 v37 fun n10 => Cb (n10 != 0) (zB Tryz.prog 77 #[.pointer (some ⟨a, 0, none⟩), .int .i64 13] w fun v38 w => OpA 3 v38 fun cs21 => StA 3 b1 0 cs21 w fun w => xG Tryz.prog 76 #[.pointer (some ⟨a, 0, none⟩)] w fun w => LdA 3 b1 0 (At w) fun cs22 => R (.agg cs22) w) (K6 (IntKind.wrap .i64 (s6.1 + 1), ()) w)) (J2 () w)) (0, ()) w)) (Cb (n3 == 5) (LdV b 1 (At w) fun v39 => OpI .i64 v39 fun n11 => zB Tryz.prog 81 #[.pointer (some ⟨a, 0, none⟩), .int .i64 n11] w fun v40 w => T2 v40 fun v41 v42 => OpA 16 v41 fun cs23 => OpI .i64 v42 fun n12 => Alc 37 (zc Tryz.prog 37) w fun b11 w => StA 16 b11 0 cs23 w fun w => xV (σ := Unit) (fun J7 => Cb (n12 != 0) (zB Tryz.prog 77 #[.pointer (some ⟨a, 0, none⟩), .int .i64 3] w fun v43 w => OpA 3 v43 fun cs24 => StA 3 b1 0 cs24 w fun w => xG Tryz.prog 76 #[.pointer (some ⟨a, 0, none⟩)] w fun w => LdA 3 b1 0 (At w) fun cs25 => R (.agg cs25) w) (LdA 16 b11 0 (At w) fun cs26 => LdV b 3 (At w) fun v44 => OpS v44 fun p5 l5 c6 => IdxS p5 l5 0 16 fun b12 o3 => LdA 16 b12 o3 (At w) fun cs27 => EqB Tryz.prog .neq 37 (.tmp 155) (.tmp 159) (.agg cs26 : Value) (.agg cs27 : Value) (At w) fun g5 => Drw w fun w => Cb g5 (zB Tryz.prog 77 #[.pointer (some ⟨a, 0, none⟩), .int .i64 14] w fun v45 w => OpA 3 v45 fun cs28 => StA 3 b1 0 cs28 w fun w => xG Tryz.prog 76 #[.pointer (some ⟨a, 0, none⟩)] w fun w => LdA 3 b1 0 (At w) fun cs29 => R (.agg cs29) w) (J7 () w))) (fun _ s7 w => yJ w fun S w => LdV b 1 (At w) fun v46 => OpI .i64 v46 fun n13 => LdV b 3 S fun v47 => OpS v47 fun p6 l6 c7 => IdxS p6 l6 1 16 fun b13 o4 => LdA 16 b13 o4 (At w) fun cs30 => zB Tryz.prog 82 #[.pointer (some ⟨a, 0, none⟩), .int .i64 side, .int .i64 n13, .agg cs30] w fun v48 w => OpI .i64 v48 fun n14 => Hld (S w) (Cb (n14 != 0) (zB Tryz.prog 77 #[.pointer (some ⟨a, 0, none⟩), .int .i64 13] w fun v49 w => OpA 3 v49 fun cs31 => StA 3 b1 0 cs31 w fun w => xG Tryz.prog 76 #[.pointer (some ⟨a, 0, none⟩)] w fun w => LdA 3 b1 0 (At w) fun cs32 => R (.agg cs32) w) (J2 () w)))) (Cb (n3 == 4) (yC (σ := Unit) (fun _ s8 w K8 => LdV a 9 (At w) fun v50 => OpN v50 fun b14 o5 => LdV b14 o5 (At w) fun v51 => OpN v51 fun b15 o6 => zB Tryz.prog 83 #[.pointer (some ⟨b15, o6, none⟩)] w fun v52 w => OpI .i64 v52 fun n15 => Cb (decide (n15 > 0)) (zB Tryz.prog 84 #[.pointer (some ⟨a, 0, none⟩), .int .i64 side] w fun v53 w => OpI .i64 v53 fun n16 => Cb (n16 != 0) (zB Tryz.prog 77 #[.pointer (some ⟨a, 0, none⟩), .int .i64 3] w fun v54 w => OpA 3 v54 fun cs33 => StA 3 b1 0 cs33 w fun w => xG Tryz.prog 76 #[.pointer (some ⟨a, 0, none⟩)] w fun w => LdA 3 b1 0 (At w) fun cs34 => R (.agg cs34) w) (K8 () w)) (J2 () w)) () w) (J2 () w)))))) (fun _ s2 w => LdA 3 b7 0 (At w) fun cs35 => StA 3 b1 0 cs35 w fun w => xG Tryz.prog 76 #[.pointer (some ⟨a, 0, none⟩)] w fun w => LdA 3 b1 0 (At w) fun cs36 => R (.agg cs36) w)
def ArF (q : AB) (w : World) (k : Nat) : Prop := k = q.a ∨ vJ q.sb k ∨ yE q.pb w k
section plain
variable {w w1 w2 w' : World} {q : AB} {lk : Int} {s : AS}
theorem ArF.trans (h : Keep (ArF q w) w w1) (k : Keep (ArF q w1) w1 w2) : Keep (ArF q w) w w2 :=
 h.trans' k fun i hi hf => Classical.byContradiction fun hn => by
  rcases hf with e | e | e | e | e | e | e | ⟨hb, cs, hc⟩
  ·exact hn (Or.inl e)
  ·exact hn (Or.inr (Or.inl e))
  ·exact hn (Or.inr (Or.inr (Or.inl e)))
  ·exact hn (Or.inr (Or.inr (Or.inr (Or.inl e))))
  ·exact hn (Or.inr (Or.inr (Or.inr (Or.inr (Or.inl e)))))
  ·exact hn (Or.inr (Or.inr (Or.inr (Or.inr (Or.inr (Or.inl e))))))
  ·exact hn (Or.inr (Or.inr (Or.inr (Or.inr (Or.inr (Or.inr (Or.inl e)))))))
  ·exact hn (Or.inr (Or.inr (Or.inr (Or.inr (Or.inr (Or.inr (Or.inr ⟨hb, cs, (h.block i hi hn).symm.trans hc⟩)))))))
theorem ArF.none (h : Keep (fun _ => False) w w') : Keep (ArF q w) w w' := h.mono fun _ h => h.elim
theorem ArF.not (h : ArAt w q lk s) {k : Nat} {cs : Array Value} {t : TypeId} {f : Nat × Nat} (hk : Has w k (.cells cs t f)) (h1 : t ≠ 5) (h2 : t ≠ 209) (h3 : t ≠ 214) (h4 : t ≠ 220) (h5 : t ≠ 260) (h6 : t ≠ 153) (h7 : t ≠ 143) : ¬ ArF q w k := by
 rintro (e | e | e)
 ·subst e
  have := hk.inj h.cells
  simp only [Obj.cells.injEq] at this
  exact h7 this.2.1
 ·exact h.set.typ hk h2 h4 h5 e
 ·exact yE.not hk h1 h.pair h6 h2 h3 e
theorem ArF.low {n : Nat} (h : ArFrom q n) {k : Nat} (hk : ArF q w k) : n ≤ k := by
 rcases hk with e | e | e | e | e | e | e | ⟨hb, _⟩
 ·have := h.a; omega
 ·rcases e with e | e | e
  ·have := h.m; have e : k = q.pb.m := e; omega
  ·obtain ⟨br, hb, rfl⟩ := List.mem_map.1 e; exact (h.disks br hb).1
  ·obtain ⟨br, hb, rfl⟩ := List.mem_map.1 e; exact (h.disks br hb).2
 ·have := h.p; omega
 ·have := h.mp; omega
 ·have := h.m; omega
 ·have := h.ra; omega
 ·have := h.rb; omega
 ·have := h.base; omega
theorem ArAt.T8 (h : ArAt w q lk s) {x : Nat} {cs : Array Value} {t : TypeId} {f : Nat × Nat} (hx : Has w x (.cells cs t f)) (h1 : t ≠ 5) (h2 : t ≠ 209) (h3 : t ≠ 214) (h4 : t ≠ 220) (h5 : t ≠ 260) (h6 : t ≠ 153) (h7 : t ≠ 143)
  (h8 : t ≠ 244) (h9 : t ≠ 229) (h10 : t ≠ 3) (h11 : t ≠ 111) (k : Keep (fun k => k = x) w w') : ArAt w' q lk s := by
 have ne : ∀ {i : Nat} {cs' : Array Value} {t' : TypeId} {f' : Nat × Nat}, Has w i (.cells cs' t' f') → t ≠ t' → ¬ i = x := by
  intro i cs' t' f' hi ht e
  subst e
  have := hx.inj hi
  simp only [Obj.cells.injEq] at this
  exact ht this.2.1
 refine ⟨k.has h.cells (ne h.cells h7), h.set.keep k fun i hi e => h.set.typ hx h2 h4 h5 (e ▸ hi), h.disks.keep k (fun b hb => ?_), h.pair.zJ6 k (fun i hi e => yE.not hx h1 h.pair h6 h2 h3 (e ▸ hi)) (ne h.pair.cache.1 h8), k.has (show Has w _ _ from h.desk) (ne h.desk h9), h.marks.keep k (fun b hb => ?_)⟩
 ·obtain ⟨_, cur, hh⟩ := yI h.disks b 0 hb
  exact ne hh h11
 ·obtain ⟨_, cur, hh⟩ := yI h.marks b 0 hb
  exact ne hh h10
theorem ZP (f : Bool) (ha : upA s (!f) = false ∨ (gJ s (!f) = true ∧ s.split = false)) (w1 : World) (R1 : Value → World → Prop) (h1 : ArAt w1 q 1 s) (hh : ∀ w2, ArAt w2 q 1 s → Keep (ArF q w1) w1 w2 → R1 (.int .i64 0) w2) : zB Tryz.prog 79 #[.pointer (some ⟨q.a, 0, none⟩), .int .i64 (zZ f)] w1 R1 :=
 LJ h1 f ha (hh w1 h1 (Keep.refl _ _))
structure DoSt (w0 w : World) (q : AB) (s : AS) (b b1 : Nat) (c : Cmd) : Prop where
 ar : ArAt w q 1 s
 cmd : Has w b (.cells (cmdC c) 41 (0, 0))
 rep : Has w b1 (.cells (repC 0 0 none 0 0) 34 (0, 0))
 keep : Keep (ArF q w0) w0 w
 hb : w0.heap.size ≤ b
 hb1 : w0.heap.size ≤ b1
theorem DoSt.zX {w0 : World} {b b1 : Nat} {c : Cmd} (h : DoSt w0 w q s b b1 c) (k : Keep (fun _ => False) w w') : DoSt w0 w' q s b b1 c :=
 ⟨h.ar.zX k, k.has h.cmd (by simp), k.has h.rep (by simp), ArF.trans h.keep (ArF.none k), h.hb, h.hb1⟩
theorem DoSt.to {w0 : World} {b b1 : Nat} {c : Cmd} {s' : AS} (h : DoSt w0 w q s b b1 c) (ha : ArAt w' q 1 s') (k : Keep (ArF q w) w w') : DoSt w0 w' q s' b b1 c :=
 ⟨ha, k.has h.cmd (ArF.not h.ar h.cmd (by decide) (by decide) (by decide) (by decide) (by decide) (by decide) (by decide)), k.has h.rep (ArF.not h.ar h.rep (by decide) (by decide) (by decide) (by decide) (by decide) (by decide) (by decide)), ArF.trans h.keep k, h.hb, h.hb1⟩
theorem DoSt.tmp {w0 : World} {b b1 : Nat} {c : Cmd} (h : DoSt w0 w q s b b1 c) {x : Nat} {cs : Array Value} {t : TypeId} {f : Nat × Nat} (hx : Has w x (.cells cs t f)) (ht : t = 37 ∨ t = 34) (hx0 : w0.heap.size ≤ x) (hx1 : x ≠ b1) (k : Keep (fun k => k = x) w w') : DoSt w0 w' q s b b1 c := by
 refine ⟨?_, k.has h.cmd fun e => ?_, k.has h.rep (fun e => hx1 e.symm), h.keep.trans' k fun i hi e => by omega, h.hb, h.hb1⟩
 ·rcases ht with rfl | rfl
  ·exact h.ar.T8 hx (by decide) (by decide) (by decide) (by decide) (by decide) (by decide) (by decide) (by decide) (by decide) (by decide) (by decide) k
  ·exact h.ar.T8 hx (by decide) (by decide) (by decide) (by decide) (by decide) (by decide) (by decide) (by decide) (by decide) (by decide) (by decide) k
 ·subst e
  have := hx.inj h.cmd
  simp only [Obj.cells.injEq] at this
  rcases ht with rfl | rfl
  ·exact absurd this.2.1 (by decide)
  ·exact absurd this.2.1 (by decide)
end plain
section calls
variable {w w0 : World} {q : AB} {s : AS} {b b1 : Nat} {c : Cmd} {R : Value → World → Prop}
theorem zJs (h : DoSt w0 w q s b b1 c) {cs : Array Value} (hs : cs.size = 3) (h1 : ∀ v ∈ cs.toList, oneV v = true) (hK : ∀ w', ArAt w' q 0 s → Keep (ArF q w0) w0 w' → Keep (fun k => k = b1 ∨ k = q.a) w w' → R (.agg cs) w') :
  StA 3 b1 0 cs w fun w => xG Tryz.prog 76 #[.pointer (some ⟨q.a, 0, none⟩)] w fun w => LdA 3 b1 0 (At w) fun cs36 => R (.agg cs36) w := by
 have k1 : Keep (fun k => k = b1) w (w.upd b1 (.cells cs 34 (0, 0))) := Keep.one _ _ _
 have ha := h.ar.T8 h.rep (by decide) (by decide) (by decide) (by decide) (by decide) (by decide) (by decide) (by decide) (by decide) (by decide) (by decide) k1
 have hr := h.rep.zL (.cells cs 34 (0, 0))
 refine yB h.rep hs rfl h1 ?_
 have kk : Keep (ArF q w0) w0 (w.upd b1 (.cells cs 34 (0, 0))) := h.keep.trans' k1 fun i hi e => by have := h.hb1; omega
 generalize w.upd b1 _ = w1 at *
 refine WG ha fun w2 h2 k2 => ?_
 have hne : ¬ b1 = q.a := fun e => by
  subst e
  have := hr.inj ha.cells
  simp only [Obj.cells.injEq] at this
  exact absurd this.2.1 (by decide)
 refine zQ (k2.has hr hne) hs (hK w2 h2 (kk.trans' k2 fun i hi e => Or.inl e) ?_)
 exact (k1.mono fun i e => Or.inl e).trans (k2.mono fun i e => Or.inr e)
theorem zK7 (h : ArAt w q 1 s) (sense : Int) (hK : ∀ w', Keep (fun _ => False) w w' → R (.agg (if s.ps.pw.on = true then repC 2 sense none 0 0 else repC 0 0 none 0 0)) w') : zB Tryz.prog 77 #[.pointer (some ⟨q.a, 0, none⟩), .int .i64 sense] w R := by
 apply XE
 unfold jF
 refine zK fun w1 hb1 k1 z1 => ?_
 rw [Z5] at hb1
 refine zK5 (h.zX k1) (GB (h.zX k1).pair.main (zM.2 ?_))
 refine zN (fun hn => ?_) (fun hn => ?_)
 ·have hn : s.ps.pw.on = false := by simpa using hn
  rw [if_neg (by rw [hn]; decide)] at hK
  refine zV (fun _ => zCb _) (zJ.2 ⟨rfl, ?_⟩)
  exact yB hb1 rfl rfl (vE _ _ _ _ _) (zQ (hb1.zL _) rfl (zF.2 (hK _ (k1.upd (fun hi => absurd hi (by omega)) _))))
 ·have hn : s.ps.pw.on = true := by simpa using hn
  rw [if_pos hn] at hK
  refine zV (fun _ => OC 2 sense _) (zJ.2 ⟨rfl, ?_⟩)
  exact yB hb1 rfl rfl (vE _ _ _ _ _) (zQ (hb1.zL _) rfl (zF.2 (hK _ (k1.upd (fun hi => absurd hi (by omega)) _))))
theorem LN (h : ArAt w q 0 s) (f : Bool) {init : Int} (hk : c.k = 2 ∨ c.k = 3 ∨ c.k = 4) (hr : vM s f = true) {s' : AS} (hd : s'.d = s.d)
  (ha : ∀ (w1 : World) (R1 : Value → World → Prop), ArAt w1 q 1 s → (∀ w2, ArAt w2 q 1 s' → Keep (ArF q w1) w1 w2 → R1 (.int .i64 0) w2) → zB Tryz.prog 79 #[.pointer (some ⟨q.a, 0, none⟩), .int .i64 (zZ f)] w1 R1)
  (hK1 : (gN s.d ((q.g.d - 2) * q.g.c * q.g.s) init c).2 = true → ∀ w', ArAt w' q 0 s' → Keep (ArF q w) w w' → R (.agg (repC (gN s.d ((q.g.d - 2) * q.g.c * q.g.s) init c).1.1 (gN s.d ((q.g.d - 2) * q.g.c * q.g.s) init c).1.2 none 0 0)) w')
  (hK2 : (gN s.d ((q.g.d - 2) * q.g.c * q.g.s) init c).2 = false → ∀ b b1 w', DoSt w w' q s' b b1 c → zHo q.a (zZ f) b b1 w' R) :
  zB Tryz.prog 16 #[.pointer (some ⟨q.a, 0, none⟩), .int .i64 (zZ f), .int .i64 init, .agg (cmdC c)] w R := by
 apply U8
 unfold wV
 have hcap : 2 ≤ (q.g.d - 2) * q.g.c * q.g.s ∧ (q.g.d - 2) * q.g.c * q.g.s ≤ 15360 := h.set.geo.cap
 have hon : s.ps.pw.on = true := by unfold vM at hr; cases he : s.ps.pw.on with
  | true => rfl
  | false => rw [he] at hr; cases hr
 refine zK fun w1 hb1 k1 z1 => ?_
 refine zK fun w2 hb2 k2 z2 => ?_
 rw [Z5] at hb2
 have hb1' := k2.has hb1 (by simp)
 refine zAe (h.zX (k1.trans k2)) fun w3 h3 k3 => ?_
 have tne : ∀ {i : Nat} {cs : Array Value} {t : TypeId}, Has w2 i (.cells cs t (0, 0)) → t ≠ 143 → ¬ i = q.a := by
  intro i cs t hi ht e
  subst e
  have := hi.inj (h.zX (k1.trans k2)).cells
  simp only [Obj.cells.injEq] at this
  exact ht this.2.1
 have hS : DoSt w w3 q s w.heap.size w1.heap.size c := ⟨h3, k3.has hb1' (tne hb1' (by decide)), k3.has hb2 (tne hb2 (by decide)), (ArF.none (k1.trans k2)).trans' k3 fun i hi e => Or.inl e, Nat.le_refl _, by omega⟩
 clear hb1 hb2 k1 k2 k3 hb1' h3 tne
 refine zK5 hS.ar (GB hS.ar.pair.main (zM.2 ?_))
 rw [hon]
 refine (zH (p := _)).2 ⟨rfl, rfl, ?_⟩
 have e : (cond (decide (zZ f < 0)) true (decide (zZ f > 1))) = false := by cases f <;> rfl
 rw [e]
 refine (zH (p := _)).2 ?_
 refine OD hS.ar f fun w4 k4 => zM.2 ?_
 rw [hr]
 refine (zH (p := _)).2 ?_
 have hS := hS.zX k4
 clear k4
 refine ha w4 _ hS.ar fun w4' hA4 k4' => zA.2 ((zH (p := _)).2 ?_)
 have hS := hS.to hA4 k4'
 clear hA4 k4' hr hon
 rw [← hd] at hK1 hK2
 clear h hd ha
 generalize w4' = w4 at *
 revert hS hK1 hK2 hcap
 generalize s' = s
 intro hK1 hK2 hcap hS
 generalize hG : gN s.d ((q.g.d - 2) * q.g.c * q.g.s) init c = G at hK1 hK2
 refine ⟨fun st w' => st.1.2 = 0 ∧ st.2.1 = G.2 ∧ Has w' st.1.1 (.cells (repC G.1.1 G.1.2 none 0 0) 34 (0, 0)) ∧ DoSt w w' q s w.heap.size w1.heap.size c ∧ w1.heap.size ≠ st.1.1, ?_, ?_⟩
 ·intro d
  have hS := hS.zX (Keep.drew _ w4 d)
  generalize w4.dr d = w5 at *
  have hlt := hS.rep.lt
  have kz : ∀ {w7 : World}, Keep (fun _ => False) w5 w7 → w1.heap.size ≠ w7.heap.size := fun k => by have := k.size; omega
  refine ⟨fun w' => Has w' q.a (.cells (arC q 1 s) 143 (0, 0)) ∧ Has w' w.heap.size (.cells (cmdC c) 41 (0, 0)), ⟨hS.ar.cells, hS.cmd⟩, ?_⟩
  refine yO (v := .pointer (some ⟨q.dk, 0, none⟩)) (fun w' hw => ⟨_, _, _, hw.1, rfl⟩) (zO.2 ?_)
  refine jR (cs := cmdC c) rfl (fun w' hw => ⟨_, _, _, hw.2, Nat.le_refl 7, rfl⟩) ?_
  have hold : ∀ {w7 : World}, Keep (fun _ => False) w5 w7 → Has w7 q.a (.cells (arC q 1 s) 143 (0, 0)) ∧ Has w7 w.heap.size (.cells (cmdC c) 41 (0, 0)) := fun k => ⟨k.has hS.ar.cells (by simp), k.has hS.cmd (by simp)⟩
  have fin : ∀ {w8 w9 : World} {x : Nat}, DoSt w w8 q s w.heap.size w1.heap.size c → Has w8 x (.cells (repC 0 0 none 0 0) 34 (0, 0)) → w.heap.size ≤ x → w1.heap.size ≠ x →
    StA 3 x 0 (repC G.1.1 G.1.2 none 0 0) w8 fun w6 => Hld (Has w6 q.a (.cells (arC q 1 s) 143 (0, 0)) ∧ Has w6 w.heap.size (.cells (cmdC c) 41 (0, 0))) (x = x ∧ (0 : Nat) = 0 ∧ G.2 = G.2 ∧ Has w6 x (.cells (repC G.1.1 G.1.2 none 0 0) 34 (0, 0)) ∧ DoSt w w6 q s w.heap.size w1.heap.size c ∧ w1.heap.size ≠ x) := fun h8 hx hx0 hx1 => by
   have h9 := h8.tmp hx (Or.inr rfl) hx0 (fun e => hx1 e.symm) (Keep.one _ _ (.cells (repC G.1.1 G.1.2 none 0 0) 34 (0, 0)))
   exact yB hx rfl rfl (vE _ _ _ _ _) ⟨⟨h9.ar.cells, h9.cmd⟩, rfl, rfl, rfl, hx.zL _, h9, hx1⟩
  refine ⟨?_, ?_⟩
  ·refine Y2 hS.ar fun w6 k6 => zA.2 ⟨hold k6, ?_, ?_⟩
   ·refine T1 (hS.zX k6).ar.desk hk (by omega) (by omega) fun w7 k7 => yM.2 (zJ.2 ⟨rfl, zM.2 ⟨hold (k6.trans k7), ?_⟩⟩)
    rw [hG]
    refine zK fun w8 hb8 k8 z8 => ?_
    rw [Z5] at hb8
    have k58 := (k6.trans k7).trans k8
    refine ⟨hold k58, ?_⟩
    have := fin (w9 := w8) (hS.zX k58) hb8 (Nat.le_trans hS.keep.size (k6.trans k7).size) (kz (k6.trans k7))
    obtain ⟨s1, s2, s3, s4, s6⟩ := this
    exact ⟨s1, s2, s3, s4, s6.2⟩
   ·refine zK fun w8 hb8 k8 z8 => ?_
    rw [Z5] at hb8
    refine ⟨hold (k6.trans k8), ?_⟩
    refine T1 (hS.zX (k6.trans k8)).ar.desk hk (by omega) (by omega) fun w7 k7 => yM.2 (zJ.2 ⟨rfl, zM.2 ⟨hold ((k6.trans k8).trans k7), ?_⟩⟩)
    rw [hG]
    have := fin (w9 := w7) (hS.zX ((k6.trans k8).trans k7)) (k7.has hb8 (by simp)) (Nat.le_trans hS.keep.size k6.size) (kz k6)
    obtain ⟨s1, s2, s3, s4, s6⟩ := this
    exact ⟨s1, s2, s3, s4, s6.2⟩
  ·refine zK fun w8 hb8 k8 z8 => ?_
   rw [Z5] at hb8
   refine ⟨hold k8, ?_⟩
   refine Y2 (hS.zX k8).ar fun w6 k6 => zA.2 ⟨hold (k8.trans k6), ?_⟩
   refine T1 (hS.zX (k8.trans k6)).ar.desk hk (by omega) (by omega) fun w7 k7 => yM.2 (zJ.2 ⟨rfl, zM.2 ⟨hold ((k8.trans k6).trans k7), ?_⟩⟩)
   rw [hG]
   have := fin (w9 := w7) (hS.zX ((k8.trans k6).trans k7)) ((k6.trans k7).has hb8 (by simp)) hS.keep.size (kz (Keep.refl _ _))
   obtain ⟨s1, s2, s3, s4, s6⟩ := this
   exact ⟨s1, s2, s3, s4, s6.2⟩
 rintro _ ⟨⟨x, o⟩, g, u⟩ w5 ⟨ho, hg, hx, hS5, hne⟩
 simp only at ho hg hx hne ⊢
 subst ho
 subst hg
 refine zN (fun ht => ?_) (fun hf => hK2 hf _ _ w5 hS5)
 refine zQ hx rfl ?_
 exact zJs hS5 rfl (vE _ _ _ _ _) fun w6 h6 k6 _ => hK1 ht w6 h6 k6
end calls
structure MB where
 m : Nat
 a : Nat
 b : Nat
 base : Nat
 sz : Int
structure MS where
 pw : Pow
 xa : List Int
 xb : List Int
structure MemsAt (w : World) (q : MB) (s : MS) : Prop where
 main : MaAt w q.m s.pw
 rams : ∃ pa la ca pb lb cb, RaAt w q.base q.m q.a q.sz pa la ca s.xa ∧ RaAt w q.base q.m q.b q.sz pb lb cb s.xb ∧ ∀ k, pa = some ⟨k, 0, none⟩ → ¬ pb = some ⟨k, 0, none⟩
 ne : q.a ≠ q.b
 fit : (s.xa.length : Int) ≤ q.sz ∧ (s.xb.length : Int) ≤ q.sz
 form : 37 ≤ q.sz ∧ q.sz ≤ 65536
 low : q.base ≤ w.heap.size
def y6 (q : MB) (w : World) (k : Nat) : Prop := k = q.m ∨ k = q.a ∨ k = q.b ∨ (q.base ≤ k ∧ ∃ cs, Has w k (.cells cs 5 (0, 0)))
theorem y6.trans {q : MB} {w w1 w2 : World} (h : Keep (y6 q w) w w1) (k : Keep (y6 q w1) w1 w2) : Keep (y6 q w) w w2 :=
 h.trans' k fun i hi hf => Classical.byContradiction fun hn => by
  rcases hf with e | e | e | ⟨hb, cs, hc⟩
  ·exact hn (Or.inl e)
  ·exact hn (Or.inr (Or.inl e))
  ·exact hn (Or.inr (Or.inr (Or.inl e)))
  ·exact hn (Or.inr (Or.inr (Or.inr ⟨hb, cs, (h.block i hi hn).symm.trans hc⟩)))
theorem y6.none {q : MB} {w w' : World} (h : Keep (fun _ => False) w w') : Keep (y6 q w) w w' := h.mono fun _ h => h.elim
theorem y6.not {q : MB} {s : MS} {w : World} {k : Nat} {cs : Array Value} {t : TypeId} {f : Nat × Nat} (hk : Has w k (.cells cs t f)) (hp : MemsAt w q s) (ht : t ≠ 5) (h2 : t ≠ 209) (h3 : t ≠ 214) : ¬ y6 q w k := by
 have no : ∀ {cs' : Array Value} {t' : TypeId} {f' : Nat × Nat} {b : Nat}, Has w b (.cells cs' t' f') → t ≠ t' → k ≠ b := by
  intro cs' t' f' b hb ht' e
  subst e
  have := hk.inj hb
  simp only [Obj.cells.injEq] at this
  exact ht' this.2.1
 obtain ⟨_, _, _, _, _, _, ha, hb, _⟩ := hp.rams
 rintro (e | e | e | ⟨_, cs', hc⟩)
 ·exact no (show Has w _ _ from hp.main) h2 e
 ·exact no ha.cells h3 e
 ·exact no hb.cells h3 e
 ·exact no hc ht rfl
theorem y6.has {q : MB} {s : MS} {w w' : World} (h : Keep (y6 q w) w w') {k : Nat} {cs : Array Value} {t : TypeId} {f : Nat × Nat} (hk : Has w k (.cells cs t f)) (hp : MemsAt w q s) (ht : t ≠ 5) (h2 : t ≠ 209) (h3 : t ≠ 214) : Has w' k (.cells cs t f) :=
 h.has hk (y6.not hk hp ht h2 h3)
theorem y6.slt {α : Type} {L : Lay α} {q : MB} {s : MS} {w w' : World} (h : Keep (y6 q w) w w') {t : TypeId} {p : Option Addr} {l c : Nat} {xs : List α} (ho : SlT L w t p l c xs) (hp : MemsAt w q s) (ht : t ≠ 5) (h2 : t ≠ 209) (h3 : t ≠ 214) : SlT L w' t p l c xs :=
 ho.yA h fun k cur hk => y6.not hk hp ht h2 h3
theorem y6.own {α : Type} {L : Lay α} {q : MB} {s : MS} {w w' : World} (h : Keep (y6 q w) w w') {b : Nat} {t : TypeId} {p : Option Addr} {l c : Nat} {xs : List α} (ho : OwnL L w b t p l c xs) (hp : MemsAt w q s) (ht : t ≠ 5) (h2 : t ≠ 209) (h3 : t ≠ 214) : OwnL L w' b t p l c xs := by
 refine ho.keep h fun k hk => ?_
 rcases Own.cases ho with ⟨h0, _⟩ | ⟨b', cur, h0, _, hg, _⟩
 ·rw [h0] at hk; cases hk
 ·rw [h0] at hk; cases hk
  exact y6.not hg hp ht h2 h3
theorem MemsAt.keep {w w' : World} {q : MB} {s : MS} (h : MemsAt w q s) (k : Keep (fun _ => False) w w') : MemsAt w' q s := by
 obtain ⟨pa, la, ca, pb, lb, cb, ha, hb, hne⟩ := h.rams
 exact ⟨k.has h.main (by simp), ⟨pa, la, ca, pb, lb, cb, ⟨k.has ha.cells (by simp), ha.row.keep k (by simp)⟩, ⟨k.has hb.cells (by simp), hb.row.keep k (by simp)⟩, hne⟩, h.ne, h.fit, h.form, Nat.le_trans h.low k.size⟩
theorem MemsAt.pow {w w' : World} {q : MB} {s : MS} {S : Nat → Prop} {pw : Pow} (h : MemsAt w q s) (k : Keep S w w') (hS : ∀ i, y6 q w i → S i → i = q.m) (hm : MaAt w' q.m pw) : MemsAt w' q ⟨pw, s.xa, s.xb⟩ := by
 obtain ⟨pa, la, ca, pb, lb, cb, ha, hb, hne⟩ := h.rams
 have no : ∀ {cs' : Array Value} {f' : Nat × Nat} {t' : TypeId} {b : Nat}, Has w b (.cells cs' t' f') → t' ≠ 209 → b ≠ q.m := by
  intro cs' f' t' b hb ht' e
  subst e
  have := hb.inj (show Has w _ _ from h.main)
  simp only [Obj.cells.injEq] at this
  exact ht' this.2.1
 have rowF : ∀ {p : Option Addr} {l c : Nat} {bs : List Int}, OwnL zU w q.base 5 p l c bs → ∀ k, p = some ⟨k, 0, none⟩ → ¬ S k := by
  intro p l c bs ho k hk hs
  rcases Own.cases ho with ⟨h0, _⟩ | ⟨b', cur, h0, hb', hg, _⟩
  ·rw [h0] at hk; cases hk
  ·rw [h0] at hk; cases hk
   exact no hg (by decide) (hS _ (Or.inr (Or.inr (Or.inr ⟨hb', cur, hg⟩))) hs)
 exact ⟨hm, ⟨pa, la, ca, pb, lb, cb, ⟨k.has ha.cells fun hs => no ha.cells (by decide) (hS _ (Or.inr (Or.inl rfl)) hs), ha.row.keep k (rowF ha.row)⟩, ⟨k.has hb.cells fun hs => no hb.cells (by decide) (hS _ (Or.inr (Or.inr (Or.inl rfl))) hs), hb.row.keep k (rowF hb.row)⟩, hne⟩, h.ne, h.fit, h.form, Nat.le_trans h.low k.size⟩
def appM (sz : Int) (x : Rec) (f : Bool) (s : MS) : Int × MS := match f with
 | false => ((appP s.pw sz s.xa x).1, ⟨(appP s.pw sz s.xa x).2.1, (appP s.pw sz s.xa x).2.2, s.xb⟩)
 | true => ((appP s.pw sz s.xb x).1, ⟨(appP s.pw sz s.xb x).2.1, s.xa, (appP s.pw sz s.xb x).2.2⟩)
def yF (sz : Int) (x : Rec) : List Bool → MS → Int × MS
 | [], s => (0, s)
 | f :: fs, s => if (appM sz x f s).1 ≠ 0 then appM sz x f s else yF sz x fs (appM sz x f s).2
def ramM (q : MB) (f : Bool) : Nat := cond f q.b q.a
def kL (sz : Int) (fs : List Bool) : List Rec → MS → Int × MS
 | [], s => (0, s)
 | r :: rs, s => if (yF sz r fs s).1 ≠ 0 then yF sz r fs s else kL sz fs rs (yF sz r fs s).2
def vX (x : PutS) : Bool := decide (x.plc.dk < 0) || decide (32 ≤ x.plc.dk) || decide (x.plc.at_ < 0) || decide (1024 ≤ x.plc.at_)
def YD (sz : Int) (v : Int) (xs : List PutS) (fs : List Bool) (s : MS) : Int × MS :=
 if xs.any vX = true then (2, s) else kL sz fs (xs.map (recI v) ++ [recK 4 v]) s
theorem lenM {pw : Pow} {sz : Int} {bs : List Int} {x : Rec} (h : (bs.length : Int) ≤ sz) : ((appP pw sz bs x).2.2.length : Int) ≤ sz := by
 have hp : (zY x).length = 37 := rfl
 unfold appP
 split
 ·exact h
 ·split
  ·exact h
  ·rename_i h1 h2
   have h2 : ¬ (sz - (bs.length : Int)) / 37 < 1 := h2
   have : 37 ≤ sz - (bs.length : Int) := by omega
   split <;> simp <;> omega
section calls
variable {w : World} {q : MB} {s : MS} {R : Value → World → Prop}
theorem zFs (h : MemsAt w q s) {x : Rec} {f : Bool} (hx : yH x = true) (hK : ∀ w', MemsAt w' q (appM q.sz x f s).2 → Keep (y6 q w) w w' → R (.int .i64 (appM q.sz x f s).1) w') :
  zB Tryz.prog 165 #[.pointer (some ⟨ramM q f, 0, none⟩), .agg (recV x)] w R := by
 obtain ⟨pa, la, ca, pb, lb, cb, ha, hb, hne⟩ := h.rams
 have inj : ∀ {k : Nat} {cs cs' : Array Value} {t t' : TypeId} {f f' : Nat × Nat}, Has w k (.cells cs t f) → Has w k (.cells cs' t' f') → t = t' := by
  intro k cs cs' t t' f f' h1 h2
  have := h1.inj h2
  simp only [Obj.cells.injEq] at this
  exact this.2.1
 have bne : ∀ {p : Option Addr} {l c : Nat} {bs : List Int} {k : Nat} {cs : Array Value} {t : TypeId} {f : Nat × Nat}, OwnL zU w q.base 5 p l c bs → Has w k (.cells cs t f) → t ≠ 5 → ¬ p = some ⟨k, 0, none⟩ := by
  intro p l c bs k cs t f ho hk ht hp
  rcases Own.cases ho with ⟨h0, _⟩ | ⟨b', cur, h0, _, hg, _⟩
  ·rw [h0] at hp; cases hp
  ·rw [h0] at hp; cases hp; exact ht (inj hk hg)
 have rowF : ∀ {p : Option Addr} {l c : Nat} {bs : List Int}, OwnL zU w q.base 5 p l c bs → ∀ k, p = some ⟨k, 0, none⟩ → q.base ≤ k ∧ ∃ cs, Has w k (.cells cs 5 (0, 0)) := by
  intro p l c bs ho k hk
  rcases Own.cases ho with ⟨h0, _⟩ | ⟨b', cur, h0, hb', hg, _⟩
  ·rw [h0] at hk; cases hk
  ·rw [h0] at hk; cases hk; exact ⟨hb', cur, hg⟩
 have c1 : ∀ {r : Nat} {p : Option Addr} {l c : Nat} {bs : List Int}, RaAt w q.base q.m r q.sz p l c bs → ∀ {w' : World}, Keep (fun k => k = q.m ∨ k = r ∨ p = some ⟨k, 0, none⟩) w w' → (r = q.a ∨ r = q.b) → Keep (y6 q w) w w' := by
  intro r p l c bs hr w' k hrr
  refine k.mono ?_
  rintro k' (e | e | e)
  ·exact Or.inl e
  ·rcases hrr with h1 | h1
   ·exact Or.inr (Or.inl (e.trans h1))
   ·exact Or.inr (Or.inr (Or.inl (e.trans h1)))
  ·exact Or.inr (Or.inr (Or.inr (rowF hr.row _ e)))
 have other : ∀ {r r' : Nat} {p p' : Option Addr} {l l' c c' : Nat} {bs bs' : List Int}, RaAt w q.base q.m r q.sz p l c bs → RaAt w q.base q.m r' q.sz p' l' c' bs' → r ≠ r' → (∀ k, p = some ⟨k, 0, none⟩ → ¬ p' = some ⟨k, 0, none⟩) →
   ∀ {w' : World}, Keep (fun k => k = q.m ∨ k = r ∨ p = some ⟨k, 0, none⟩) w w' → RaAt w' q.base q.m r' q.sz p' l' c' bs' := by
  intro r r' p p' l l' c c' bs bs' hr hr' hn hpp w' k
  refine ⟨k.has hr'.cells ?_, hr'.row.keep k ?_⟩
  ·rintro (e | e | e)
   ·subst e; exact absurd (inj hr'.cells (show Has w _ _ from h.main)) (by decide)
   ·exact hn e.symm
   ·exact bne hr.row hr'.cells (by decide) e
  ·rintro k' hk (e | e | e)
   ·subst e; exact bne hr'.row (show Has w _ _ from h.main) (by decide) hk
   ·subst e; exact bne hr'.row hr.cells (by decide) hk
   ·exact hpp _ e hk
 cases f
 ·show zB Tryz.prog 165 #[.pointer (some ⟨q.a, 0, none⟩), .agg (recV x)] w R
  refine XT ha h.main hx h.form.1 h.form.2 (by rw [ha.row.length]; exact h.fit.1) h.low fun p' l' c' w' hr hm hp k => ?_
  refine hK w' ⟨hm, ⟨p', l', c', pb, lb, cb, hr, other ha hb h.ne hne k, ?_⟩, h.ne, ⟨lenM h.fit.1, h.fit.2⟩, h.form, Nat.le_trans h.low k.size⟩ (c1 ha k (Or.inl rfl))
  intro k' hk' hpb
  rcases hp with e | ⟨k2, h2, e⟩
  ·exact hne k' (e ▸ hk') hpb
  ·rw [e] at hk'
   cases hk'
   have := (hb.row.lt hpb).2
   omega
 ·show zB Tryz.prog 165 #[.pointer (some ⟨q.b, 0, none⟩), .agg (recV x)] w R
  refine XT hb h.main hx h.form.1 h.form.2 (by rw [hb.row.length]; exact h.fit.2) h.low fun p' l' c' w' hr hm hp k => ?_
  refine hK w' ⟨hm, ⟨pa, la, ca, p', l', c', other hb ha h.ne.symm (fun k h1 h2 => hne k h2 h1) k, hr, ?_⟩, h.ne, ⟨h.fit.1, lenM h.fit.2⟩, h.form, Nat.le_trans h.low k.size⟩ (c1 hb k (Or.inr rfl))
  intro k' hpa hk'
  rcases hp with e | ⟨k2, h2, e⟩
  ·exact hne k' hpa (e ▸ hk')
  ·rw [e] at hk'
   cases hk'
   have := (ha.row.lt hpa).2
   omega
theorem T9 {x : Rec} {fs : List Bool} {rp : Option Addr} {rl rc : Nat} (h : MemsAt w q s) (hx : yH x = true) (hr : SlT dLay w 104 rp rl rc (fs.map (ramM q)))
  (hK : ∀ w', MemsAt w' q (yF q.sz x fs s).2 → Keep (y6 q w) w w' → R (.int .i64 (yF q.sz x fs s).1) w') :
  zB Tryz.prog 200 #[.slice rp rl rc, .agg (recV x)] w R := by
 apply OV
 unfold WV
 refine zK fun w1 hb1 k1 z1 => ?_
 have hlen : rl = fs.length := by have := hr.len; rw [List.length_map] at this; exact this
 have hcap := hr.cap
 have hml : rl ≤ maxLen := Nat.le_trans hcap.1 hcap.2
 have hml' : rl ≤ 9223372036854775807 := by simpa [maxLen] using hml
 refine zP (σ := Int × Unit) (fun st w' => ∃ (k : Nat) (s' : MS), st.1 = (k : Int) ∧ k ≤ rl ∧ MemsAt w' q s' ∧ yF q.sz x (fs.drop k) s' = yF q.sz x fs s ∧ Keep (y6 q w) w w' ∧ SlT dLay w' 104 rp rl rc (fs.map (ramM q)) ∧ Has w' w.heap.size (.cells (recV x) 246 (0, 0)))
  (fun st _ => ((rl : Int) - st.1).toNat) ⟨0, s, rfl, by omega, h.keep k1, rfl, y6.none k1, hr.keep k1 (by simp), hb1⟩ ?_
 rintro _ ⟨i, u⟩ w3 ⟨k, s', hi, hk, h3, he, k3, o3, hb3⟩
 simp only at hi ⊢
 subst hi
 refine zN (fun hc => ?_) (fun hc => ?_)
 ·have hc : k < rl := by
   have : (k : Int) < (rl : Int) := by simpa using hc
   omega
  obtain ⟨g, hg⟩ : ∃ g, fs[k]? = some g := ⟨_, List.getElem?_eq_getElem (by omega)⟩
  refine o3.ld0 (i := (k : Int)) (n := 1) (x := ramM q g) (v := .pointer (some ⟨ramM q g, 0, none⟩)) rfl (by omega) (by simp [hg]) rfl ?_
  refine zO.2 ?_
  refine zQ hb3 rfl ?_
  refine zFs h3 (f := g) hx fun w4 h4 k4 => ?_
  refine zA.2 ?_
  have ed : fs.drop k = g :: fs.drop (k + 1) := by
   rw [List.drop_eq_getElem_cons (by omega)]
   congr 1
   have := List.getElem?_eq_getElem (l := fs) (i := k) (by omega)
   rw [hg] at this
   exact (Option.some.inj this).symm
  rw [ed] at he
  have hst : yF q.sz x (g :: fs.drop (k + 1)) s' = if (appM q.sz x g s').1 ≠ 0 then appM q.sz x g s' else yF q.sz x (fs.drop (k + 1)) (appM q.sz x g s').2 := rfl
  rw [hst] at he
  have k34 := y6.trans k3 k4
  refine zN (fun hz => ?_) (fun hz => ?_)
  ·have hz : (appM q.sz x g s').1 ≠ 0 := by simpa using hz
   rw [if_pos hz] at he
   rw [← he] at hK
   exact zF.2 (hK w4 h4 k34)
  ·have hz : (appM q.sz x g s').1 = 0 := by simpa using hz
   rw [if_neg (by simp [hz])] at he
   have ek : IntKind.wrap .i64 ((k : Int) + 1) = ((k + 1 : Nat) : Int) := by rw [zW (by omega) (by omega)]; omega
   exact ⟨_, by show ((rl : Int) - IntKind.wrap .i64 ((k : Int) + 1)).toNat < ((rl : Int) - (k : Int)).toNat; rw [ek]; omega, ⟨k + 1, _, ek, by omega, h4, he, k34, y6.slt k4 o3 h3 (by decide) (by decide) (by decide), y6.has k4 hb3 h3 (by decide) (by decide) (by decide)⟩, rfl⟩
 ·have hc : k = rl := by
   have : ¬ ((k : Int) < (rl : Int)) := by simpa using hc
   omega
  subst hc
  have : fs.drop k = [] := List.drop_of_length_le (by omega)
  rw [this] at he
  have he : (0, s') = yF q.sz x fs s := he
  rw [← he] at hK
  exact zF.2 (hK w3 h3 k3)
theorem zDi {sz : Int} {fs : List Bool} {r : Rec} {rs : List Rec} {s : MS} : kL sz fs (r :: rs) s = if (yF sz r fs s).1 ≠ 0 then yF sz r fs s else kL sz fs rs (yF sz r fs s).2 := rfl
theorem zEx {v : Int} {x : PutS} (h : vX x = false) : yH (recI v x) = true := by
 unfold vX at h
 simp only [Bool.or_eq_false_iff, decide_eq_false_iff_not] at h
 show (decide (1 ≤ (3 : Int)) && decide ((3 : Int) ≤ 6) && decide (0 ≤ x.plc.dk * 1024 + x.plc.at_) && decide (x.plc.dk * 1024 + x.plc.at_ ≤ 2147483647)) = true
 rw [decide_eq_true (show 0 ≤ x.plc.dk * 1024 + x.plc.at_ by omega), decide_eq_true (show x.plc.dk * 1024 + x.plc.at_ ≤ 2147483647 by omega)]
 rfl
theorem zJb {v : Int} {xs : List PutS} {fs : List Bool} {rp pp : Option Addr} {rl rc pl pc : Nat} (h : MemsAt w q s) (hr : SlT dLay w 104 rp rl rc (fs.map (ramM q))) (hrl : rl ≤ 1000000) (hps : SlT jM w 88 pp pl pc xs)
  (hK : ∀ w', MemsAt w' q (YD q.sz v xs fs s).2 → Keep (y6 q w) w w' → R (.int .i64 (YD q.sz v xs fs s).1) w') :
  zB Tryz.prog 131 #[.slice rp rl rc, .int .u64 v, .slice pp pl pc] w R := by
 apply HY
 unfold YM
 have hlen := hps.len
 have hcap := hps.cap
 have hml : pl ≤ 9223372036854775807 := by have := Nat.le_trans hcap.1 hcap.2; simpa [maxLen] using this
 refine KP hr.sl hrl (zM.2 ((zH (p := _)).2 ?_))
 refine zP (σ := Int × Unit) (fun st w' => ∃ i : Nat, st.1 = (i : Int) ∧ i ≤ pl ∧ Keep (fun _ => False) w w' ∧ (xs.take i).any vX = false) (fun st _ => ((pl : Int) - st.1).toNat) ⟨0, rfl, by omega, Keep.refl _ _, rfl⟩ ?_
 rintro _ ⟨i, u⟩ w1 ⟨i', hi, hil, k1, hno⟩
 simp only at hi ⊢
 subst hi
 refine zN (fun hc => ?_) (fun hc => ?_)
 ·have hc : i' < pl := by
   have : (i' : Int) < (pl : Int) := by simpa using hc
   omega
  have ek : IntKind.wrap .i64 ((i' : Int) + 1) = ((i' + 1 : Nat) : Int) := by rw [zW (by omega) (by omega)]; omega
  obtain ⟨x, hx⟩ : ∃ x, xs[i']? = some x := ⟨_, List.getElem?_eq_getElem (by omega)⟩
  refine (hps.keep k1 (by simp)).ldA (i := (i' : Int)) (n := 19) (x := x) rfl (by omega) (by rw [Int.toNat_natCast]; exact hx) ?_
  rw [zKu]
  refine yN zO9 rfl (Q7 x) fun w2 hb2 k2 z2 => ?_
  have bad : vX x = true → ∀ w', Keep (fun _ => False) w w' → R (.int .i64 2) w' := fun hb w' k' => by
   have : xs.any vX = true := List.any_eq_true.2 ⟨x, List.mem_of_getElem? hx, hb⟩
   unfold YD at hK
   rw [if_pos this] at hK
   exact hK w' (h.keep k') (y6.none k')
  have k12 := k1.trans k2
  refine zG (v := .int .i64 x.plc.dk) hb2 rfl (zA.2 ?_)
  refine zN (fun c1 => zF.2 (bad (by unfold vX; rw [c1]; rfl) _ k12)) (fun c1 => ?_)
  refine zG (v := .int .i64 x.plc.dk) hb2 rfl (zA.2 ?_)
  refine zN (fun c2 => zF.2 (bad (by have c2 : decide (32 ≤ x.plc.dk) = true := c2; unfold vX; rw [c1, c2]; rfl) _ k12)) (fun c2 => ?_)
  refine zG (v := .int .i64 x.plc.at_) hb2 rfl (zA.2 ?_)
  refine zN (fun c3 => zF.2 (bad (by have c2 : decide (32 ≤ x.plc.dk) = false := c2; unfold vX; rw [c1, c2, c3]; rfl) _ k12)) (fun c3 => ?_)
  refine zG (v := .int .i64 x.plc.at_) hb2 rfl (zA.2 ?_)
  refine zN (fun c4 => zF.2 (bad (by have c2 : decide (32 ≤ x.plc.dk) = false := c2; have c4 : decide (1024 ≤ x.plc.at_) = true := c4; unfold vX; rw [c1, c2, c3, c4]; rfl) _ k12)) (fun c4 => ?_)
  have hgood : vX x = false := by
   have c2 : decide (32 ≤ x.plc.dk) = false := c2
   have c4 : decide (1024 ≤ x.plc.at_) = false := c4
   unfold vX; rw [c1, c2, c3, c4]; rfl
  exact ⟨_, by show ((pl : Int) - IntKind.wrap .i64 ((i' : Int) + 1)).toNat < ((pl : Int) - (i' : Int)).toNat; rw [ek]; omega, ⟨i' + 1, ek, by omega, k12, by rw [List.take_add_one, hx, List.any_append, hno]; simp [hgood]⟩, rfl⟩
 ·have hc : i' = pl := by
   have : ¬ (i' : Int) < (pl : Int) := by simpa using hc
   omega
  subst hc
  rw [List.take_of_length_le (by omega)] at hno
  unfold YD at hK
  rw [if_neg (by rw [hno]; decide)] at hK
  refine zP (σ := Int × Unit) (fun st w' => ∃ (i : Nat) (s' : MS), st.1 = (i : Int) ∧ i ≤ i' ∧ MemsAt w' q s' ∧ kL q.sz fs ((xs.drop i).map (recI v) ++ [recK 4 v]) s' = kL q.sz fs (xs.map (recI v) ++ [recK 4 v]) s ∧ Keep (y6 q w) w w')
   (fun st _ => ((i' : Int) - st.1).toNat) ⟨0, s, rfl, by omega, h.keep k1, by rw [List.drop_zero], y6.none k1⟩ ?_
  rintro _ ⟨j, u⟩ w2 ⟨j', s2, hj, hjl, h2, he, k2⟩
  simp only at hj ⊢
  subst hj
  have hps2 := y6.slt k2 hps h (by decide) (by decide) (by decide)
  have hr2 := y6.slt k2 hr h (by decide) (by decide) (by decide)
  refine zN (fun hc => ?_) (fun hc => ?_)
  ·have hc : j' < i' := by
    have : (j' : Int) < (i' : Int) := by simpa using hc
    omega
   have ek : IntKind.wrap .i64 ((j' : Int) + 1) = ((j' + 1 : Nat) : Int) := by rw [zW (by omega) (by omega)]; omega
   obtain ⟨x, hx⟩ : ∃ x, xs[j']? = some x := ⟨_, List.getElem?_eq_getElem (by omega)⟩
   have hgood : vX x = false := by
    cases hb : vX x
    ·rfl
    ·have := List.any_eq_true.2 ⟨x, List.mem_of_getElem? hx, hb⟩
     rw [hno] at this; cases this
   have hrange := hgood
   unfold vX at hrange
   simp only [Bool.or_eq_false_iff, decide_eq_false_iff_not] at hrange
   refine hps2.ldA (i := (j' : Int)) (n := 19) (x := x) rfl (by omega) (by rw [Int.toNat_natCast]; exact hx) ?_
   rw [zKu]
   refine yN zO9 rfl (Q7 x) fun w3 hb3 k3 z3 => ?_
   refine zG (v := .int .i64 x.plc.dk) hb3 rfl (zA.2 ?_)
   refine zG (v := .int .i64 x.plc.at_) hb3 rfl (zA.2 ?_)
   refine xO (cs := secV x.cel.data) hb3 (by show 2 + 16 ≤ 19; decide) (zP4 x) ?_
   rw [zW (x := x.plc.dk * 1024) (by omega) (by omega), zW (x := x.plc.dk * 1024 + x.plc.at_) (by omega) (by omega)]
   refine zV (v := .agg (recV (recI v x))) (fun _ => zCc 3 v _ _ _) (zJ.2 ⟨rfl, ?_⟩)
   refine T9 (h2.keep k3) (zEx hgood) (hr2.keep k3 (by simp)) fun w4 h4 k4 => zA.2 ?_
   have ed : xs.drop j' = x :: xs.drop (j' + 1) := by
    rw [List.drop_eq_getElem_cons (by omega)]
    congr 1
    have := List.getElem?_eq_getElem (l := xs) (i := j') (by omega)
    rw [hx] at this
    exact (Option.some.inj this).symm
   rw [ed, List.map_cons, List.cons_append, zDi] at he
   have k24 := y6.trans (y6.trans k2 (y6.none k3)) k4
   refine zN (fun hz => ?_) (fun hz => ?_)
   ·have hz : (yF q.sz (recI v x) fs s2).1 ≠ 0 := by simpa using hz
    rw [if_pos hz] at he
    rw [← he] at hK
    exact zF.2 (hK w4 h4 k24)
   ·have hz : (yF q.sz (recI v x) fs s2).1 = 0 := by simpa using hz
    rw [if_neg (by simp [hz])] at he
    exact ⟨_, by show ((i' : Int) - IntKind.wrap .i64 ((j' : Int) + 1)).toNat < ((i' : Int) - (j' : Int)).toNat; rw [ek]; omega, ⟨j' + 1, _, ek, by omega, h4, he, k24⟩, rfl⟩
  ·have hc : j' = i' := by
    have : ¬ (j' : Int) < (i' : Int) := by simpa using hc
    omega
   subst hc
   rw [List.drop_of_length_le (by omega)] at he
   refine zV (v := .agg (recV (recK 4 v))) (fun _ => zLh 4 v _) (zJ.2 ⟨rfl, ?_⟩)
   refine T9 h2 rfl hr2 fun w4 h4 k4 => zA.2 ?_
   have e1 : kL q.sz fs (([] : List PutS).map (recI v) ++ [recK 4 v]) s2 = yF q.sz (recK 4 v) fs s2 := by
    show (if _ then _ else _) = _
    split
    ·rfl
    ·rename_i hz
     have hz : (yF q.sz (recK 4 v) fs s2).1 = 0 := by simpa using hz
     show (0, (yF q.sz (recK 4 v) fs s2).2) = _
     rw [← hz]
   rw [e1] at he
   rw [← he] at hK
   exact zF.2 (hK w4 h4 (y6.trans k2 k4))
theorem zPo {v : Int} {fs : List Bool} {rp : Option Addr} {rl rc : Nat} (h : MemsAt w q s) (hr : SlT dLay w 104 rp rl rc (fs.map (ramM q))) (hrl : rl ≤ 1000000)
  (hK : ∀ w', MemsAt w' q (yF q.sz (recK 5 v) fs s).2 → Keep (y6 q w) w w' → R (.int .i64 (yF q.sz (recK 5 v) fs s).1) w') :
  zB Tryz.prog 133 #[.slice rp rl rc, .int .u64 v] w R := by
 apply L6
 unfold UJ
 refine KP hr.sl hrl (zM.2 ((zH (p := _)).2 ?_))
 refine zV (v := .agg (recV (recK 5 v))) (fun _ => zLh 5 v _) (zJ.2 ⟨rfl, ?_⟩)
 exact T9 h rfl hr fun w4 h4 k4 => zA.2 (zF.2 (hK w4 h4 k4))
end calls
end Go.Proofs
namespace Go.Proofs
open Go Go.Ev Go.RowKit
set_option maxRecDepth 100000
def YY (D : List Rec) (v : Int) : Bool := D.any fun x => x.kind == 5 && x.ver == v
def UT (D pre : List Rec) (x : Rec) (G : List (Int × List PutS)) : List (Int × List PutS) :=
 if x.kind = 4 ∧ YY D x.ver = false ∧ zS G x.ver = none then ins G x.ver (grp x.ver pre) else G
def X6 (D : List Rec) : List Rec → List Rec → List (Int × List PutS) → List (Int × List PutS)
 | _, [], G => G
 | pre, x :: xs, G => X6 D (pre ++ [x]) xs (UT D pre x G)
def GL (D : List Rec) : List (List Rec) → List (Int × List PutS) → List (Int × List PutS)
 | [], G => G
 | l :: ls, G => GL D ls (X6 D [] l G)
def VD (l : List Int) : List Int := l.mergeSort fun a b => decide (a ≤ b)
def u7 (LL : List (List Rec)) : List (Int × List PutS) := GL LL.flatten LL []
def XW (LL : List (List Rec)) : List PutS := (VD ((u7 LL).map (·.1))).flatMap fun v => (zS (u7 LL) v).getD []
theorem VC (l : List Int) : (VD l).Perm l := List.mergeSort_perm _ _
theorem zB4 (l : List Int) : (VD l).Pairwise (· ≤ ·) := by
 have := List.pairwise_mergeSort (le := fun a b : Int => decide (a ≤ b)) (fun a b c h1 h2 => by simp only [decide_eq_true_eq] at *; omega) (fun a b => by
  by_cases h : a ≤ b
  ·simp [h]
  ·have : b ≤ a := by omega
   simp [this]) l
 exact this.imp fun h => by simpa using h
theorem zI7 {a b : List Int} (h : a.Perm b) : VD a = VD b :=
 List.Perm.eq_of_pairwise (le := (· ≤ ·)) (fun x y _ _ h1 h2 => by omega) (zB4 a) (zB4 b) ((VC a).trans (h.trans (VC b).symm))
theorem MW {D : List Rec} {i : Nat} {x : Rec} (hx : D[i]? = some x) (v : Int) : YY (D.take (i + 1)) v = (YY (D.take i) v || (x.kind == 5 && x.ver == v)) := by
 unfold YY
 rw [List.take_add_one, hx, List.any_append]
 simp
theorem zJj {D l : List Rec} {i : Nat} {x : Rec} {G : List (Int × List PutS)} (hx : l[i]? = some x) : X6 D (l.take i) (l.drop i) G = X6 D (l.take (i + 1)) (l.drop (i + 1)) (UT D (l.take i) x G) := by
 have hi : i < l.length := (List.getElem?_eq_some_iff.1 hx).1
 have e1 : l.drop i = x :: l.drop (i + 1) := by
  rw [List.drop_eq_getElem_cons hi]
  congr 1
  exact (List.getElem?_eq_some_iff.1 hx).2
 have e2 : l.take (i + 1) = l.take i ++ [x] := by rw [List.take_add_one, hx]; rfl
 rw [e1, e2]
 rfl
theorem zG7 {α : Type} {es : List (Int × α)} {x : Int} {v : α} (h : zS es x = none) : ins es x v = es ++ [(x, v)] := by
 have : es.any (fun p => p.1 == x) = false := by
  unfold zS at h
  cases hf : es.find? (fun p => p.1 == x) with
  | some p => rw [hf] at h; cases h
  | none =>
   rw [List.find?_eq_none] at hf
   rw [List.any_eq_false]
   exact hf
 unfold ins
 rw [this]
 rfl
def zHf (N : Nat) : Prop := ∀ (p : Option Addr) (l c base : Nat) (xs : List Int) (w : World) (R : Value → World → Prop), l ≤ N → OwnL uLay w base 39 p l c xs → (∀ x ∈ xs, 0 ≤ x ∧ x ≤ 18446744073709551615) →
 (∀ w', OwnL uLay w' base 39 p l c (VD xs) → Keep (fun k => p = some ⟨k, 0, none⟩) w w' → R (.tuple #[]) w') → zB Tryz.prog 203 #[.slice p l c] w R
theorem zI6 : zHf 1 := fun p l c base xs w R hl o hx hK => by
 refine zCs hl (hK w ?_ (Keep.refl _ _))
 have e : VD xs = xs := by
  have hlen := o.length
  match xs, hlen with
  | [], _ => simp [VD]
  | [x], _ => simp [VD, List.mergeSort]
  | _ :: _ :: _, h => simp at h; omega
 rw [e]; exact o
theorem NY {w : World} {lp : Option Addr} {ll : Nat} {Q : List (Option Addr × Nat × Nat)} {LL : List (List Rec)} (h : SlL hLay w lp ll Q) (hQ : Q.length = LL.length) (hq : ∀ (i : Nat) (q : Option Addr × Nat × Nat) (rs : List Rec), Q[i]? = some q → LL[i]? = some rs → SlL rLay w q.1 q.2.1 rs) : zAk w lp ll LL := by
 have hl := h.1
 refine ⟨by omega, fun i => Q.getD i (none, 0, 0), fun i hi => ⟨rfl, ?_⟩, fun i hi => ?_⟩
 ·have hlt : i < Q.length := by omega
  obtain ⟨b, o, hp, hc⟩ := h.2 i Q[i] (List.getElem?_eq_getElem hlt)
  have e : Q.getD i (none, 0, 0) = Q[i] := by rw [List.getD_eq_getElem?_getD, List.getElem?_eq_getElem hlt]; rfl
  exact ⟨b, o, hp, fun j hj => by show _ = [Value.slice (Q.getD i (none, 0, 0)).1 (Q.getD i (none, 0, 0)).2.1 (Q.getD i (none, 0, 0)).2.2][j]?; rw [e]; exact hc j hj⟩
 ·have hlt : i < Q.length := by omega
  have hlt2 : i < LL.length := by omega
  have e : Q.getD i (none, 0, 0) = Q[i] := by rw [List.getD_eq_getElem?_getD, List.getElem?_eq_getElem hlt]; rfl
  have e2 : LL.getD i [] = LL[i] := by rw [List.getD_eq_getElem?_getD, List.getElem?_eq_getElem hlt2]; rfl
  show OJ w (Q.getD i (none, 0, 0)).1 (Q.getD i (none, 0, 0)).2.1 (LL.getD i [])
  rw [e, e2]
  exact zIh (hq i _ _ (List.getElem?_eq_getElem hlt) (List.getElem?_eq_getElem hlt2))
abbrev GH := (Option Addr × Nat × Nat) × List PutS
def hdrG (y : GH) : Value := .slice y.1.1 y.1.2.1 y.1.2.2
def LU (w : World) (H : List (Int × GH)) : Prop := ∀ e ∈ H, SlT jM w 88 e.2.1.1 e.2.1.2.1 e.2.1.2.2 e.2.2 ∧ e.2.1.2.1 ≤ 100000
theorem LU.keep {w w' : World} {H : List (Int × GH)} {S : Nat → Prop} (h : LU w H) (k : Keep S w w') (hS : ∀ i cur, Has w i (.cells cur 88 (0, 0)) → ¬ S i) : LU w' H :=
 fun e he => ⟨(h e he).1.yA k hS, (h e he).2⟩
theorem zBo {α : Type} {es : List (Int × α)} {x : Int} {e : α} (h : zS es x = some e) : (x, e) ∈ es := by
 unfold zS at h
 cases hf : es.find? (fun p => p.1 == x) with
 | none => rw [hf] at h; cases h
 | some p =>
  rw [hf] at h
  cases h
  have h1 := List.find?_some hf
  have h2 := List.mem_of_find?_eq_some hf
  have h3 : p.1 = x := by simpa using h1
  rw [← h3]
  exact h2
theorem zJ9 {α : Type} {es : List (Int × α)} {x : Int} (h : x ∈ es.map (·.1)) : ∃ e, zS es x = some e := by
 unfold zS
 cases hf : es.find? (fun p => p.1 == x) with
 | some p => exact ⟨_, rfl⟩
 | none =>
  obtain ⟨p, hp, hx⟩ := List.mem_map.1 h
  rw [List.find?_eq_none] at hf
  exact absurd (by simpa using hx) (hf p hp)
theorem zMx {v : Int} {rs : List Rec} : (grp v rs).length ≤ rs.length := by
 unfold grp
 rw [List.length_map]
 exact List.length_filter_le _ _
section calls
variable {w : World} {R : Value → World → Prop}
theorem zDd {N : Nat} (hs : zHf N) {lp : Option Addr} {ll lc : Nat} {Q : List (Option Addr × Nat × Nat)} {LL : List (List Rec)} (h : SlL hLay w lp ll Q) (hQ : Q.length = LL.length)
  (hq : ∀ (i : Nat) (q : Option Addr × Nat × Nat) (rs : List Rec), Q[i]? = some q → LL[i]? = some rs → SlL rLay w q.1 q.2.1 rs ∧ q.2.1 ≤ q.2.2) (hll : ll ≤ 1000) (hl : LL.flatten.length ≤ 100000) (hlba : ∀ x ∈ LL.flatten, 0 ≤ x.lba ∧ x.lba ≤ 2147483647)
  (hver : ∀ x ∈ LL.flatten, 0 ≤ x.ver ∧ x.ver ≤ 18446744073709551615) (hN : (u7 LL).length ≤ N) (hN2 : N ≤ 1000)
  (hK : ∀ p' c' w', OwnL jM w' w.heap.size 88 p' (XW LL).length c' (XW LL) → Keep (fun _ => False) w w' → R (.slice p' (XW LL).length c') w') :
  zB Tryz.prog 132 #[.slice lp ll lc] w R := by
 apply U4
 unfold wR
 have hlen := h.1
 have hmem : ∀ (i : Nat) (rs : List Rec), LL[i]? = some rs → ∀ x ∈ rs, x ∈ LL.flatten := fun i rs hi x hx => List.mem_flatten.2 ⟨rs, List.mem_of_getElem? hi, hx⟩
 have hsub : ∀ (i : Nat) (rs : List Rec), LL[i]? = some rs → rs.length ≤ 100000 := fun i rs hi => by
  have := (List.sublist_flatten_of_mem (List.mem_of_getElem? hi)).length_le
  omega
 refine ⟨_, _, run_makeMap, vZ.2 ?_⟩
 have k1 := Keep.new (fun _ => False) w (.map #[] 0)
 have hM1 : x8 .u64 (w.alloc (.map #[] 0)) w.heap.size [] := ⟨_, _, Has.new _ _, MapOk.nil _⟩
 have z1 : (w.alloc (.map #[] 0)).heap.size = w.heap.size + 1 := by simp
 generalize w.alloc (.map #[] 0) = w1 at *
 generalize hm1 : w.heap.size = m1 at *
 refine YZ (NY (h.yA k1 (by simp)) hQ fun i q rs h1 h2 => ((hq i q rs h1 h2).1).yA k1 (by simp)) (by omega) (by show LL.flatten.length ≤ _; omega) fun p2 l2 c2 w2 o2 k2 => zC.2 ?_
 have o2 : OwnL rLay w2 w1.heap.size 246 p2 l2 c2 LL.flatten := o2
 have k02 := k1.trans k2
 have hl2 : l2 = LL.flatten.length := o2.length
 generalize hD : LL.flatten = D at *
 refine zP (σ := Int × Unit) (fun st w' => ∃ (i : Nat) (E : List (Int × Value)), st.1 = (i : Int) ∧ i ≤ l2 ∧ x8 .u64 w' m1 E ∧ (∀ v, zS E v = if YY (D.take i) v = true then some (.agg #[]) else none) ∧ OwnL rLay w' w1.heap.size 246 p2 l2 c2 D ∧ Keep (fun _ => False) w w') (fun st _ => ((l2 : Int) - st.1).toNat)
  ⟨0, [], rfl, by omega, hM1.keep k2 (by simp), fun v => by simp [YY, zS], o2, k02⟩ ?_
 rintro _ ⟨i, u⟩ w3 ⟨i', E, hi, hil, hM3, hE, o3, k3⟩
 simp only at hi ⊢
 subst hi
 refine zN (fun hc => ?_) (fun hc => ?_)
 ·have hc : i' < l2 := by
   have : (i' : Int) < (l2 : Int) := by simpa using hc
   omega
  have ek : IntKind.wrap .i64 ((i' : Int) + 1) = ((i' + 1 : Nat) : Int) := by rw [zW (by omega) (by omega)]; omega
  have hless : ((l2 : Int) - IntKind.wrap .i64 ((i' : Int) + 1)).toNat < ((l2 : Int) - (i' : Int)).toNat := by rw [ek]; omega
  obtain ⟨x, hx⟩ : ∃ x, D[i']? = some x := ⟨_, List.getElem?_eq_getElem (by omega)⟩
  refine o3.sl.ldA (i := (i' : Int)) (n := 19) (x := x) rfl (by omega) (by rw [Int.toNat_natCast]; exact hx) ?_
  rw [O5]
  refine yN QO rfl (ZI x) fun w4 hb4 k4 z4 => ?_
  have hM4 := hM3.keep k4 (by simp)
  have o4 := o3.keep k4 (by simp)
  refine zG (v := .int .i64 x.kind) hb4 rfl (zA.2 ?_)
  refine zN (fun e5 => ?_) (fun e5 => ?_)
  ·refine zG (v := .int .u64 x.ver) hb4 rfl (zA.2 ?_)
   refine zV (v := .agg #[]) (fun _ => run_build _ _ _ _ (by kernel_rfl)) (zJ.2 ⟨rfl, ?_⟩)
   obtain ⟨arr, clk, hr5, ho5⟩ := x6 (P := Tryz.prog) H4 gA hM4 x.ver (.agg #[])
   refine ⟨_, hr5, ?_⟩
   have ku := Keep.one w4 m1 (.map arr clk)
   have hlt := hM4.lt
   obtain ⟨ar0, ck0, hH0, _⟩ := hM4
   refine ⟨_, hless, ⟨i' + 1, ins E x.ver (.agg #[]), ek, by omega, ⟨arr, clk, Has.zL hH0 _, ho5⟩, fun v => ?_, o4.keep ku fun k hk e => by have := (o4.lt hk).1; omega, ((k3.trans k4).trans' ku fun i hi e => by omega)⟩, rfl⟩
   rw [xT, MW hx, e5, Bool.true_and, hE]
   by_cases e : v = x.ver
   ·subst e; simp
   ·have : (x.ver == v) = false := beq_eq_false_iff_ne.2 fun h => e h.symm
    rw [if_neg e, this, Bool.or_false]
  ·refine ⟨_, hless, ⟨i' + 1, E, ek, by omega, hM4, fun v => ?_, o4, k3.trans k4⟩, rfl⟩
   rw [MW hx, e5, Bool.false_and, Bool.or_false, hE]
 ·have hc : i' = l2 := by
   have : ¬ (i' : Int) < (l2 : Int) := by simpa using hc
   omega
  rw [List.take_of_length_le (by omega)] at hE
  clear hc o3
  refine ⟨_, _, run_makeMap, vZ.2 ?_⟩
  have k4 := Keep.new (fun _ => False) w3 (.map #[] 0)
  have hG4 : x8 .u64 (w3.alloc (.map #[] 0)) w3.heap.size [] := ⟨_, _, Has.new _ _, MapOk.nil _⟩
  have hM4 := hM3.keep k4 (by simp)
  have z4 : (w3.alloc (.map #[] 0)).heap.size = w3.heap.size + 1 := by simp
  generalize w3.alloc (.map #[] 0) = w4 at *
  have k04 := k3.trans k4
  have zm1 : m1 < w3.heap.size := hM3.lt
  generalize hm2 : w3.heap.size = m2 at *
  refine zP (σ := Int × Unit) (fun st w' => ∃ (i : Nat) (H : List (Int × GH)), st.1 = (i : Int) ∧ i ≤ ll ∧ x8 .u64 w' m1 E ∧ x8 .u64 w' m2 (tag hdrG H) ∧ LU w' H ∧ GL D (LL.drop i) (tag (fun y => y.2) H) = u7 LL ∧ Keep (fun _ => False) w w') (fun st _ => ((ll : Int) - st.1).toNat)
   ⟨0, [], rfl, by omega, hM4, hG4, fun e he => by simp at he, by rw [List.drop_zero]; unfold u7; rw [hD]; rfl, k04⟩ ?_
  rintro _ ⟨j, u⟩ w5 ⟨j', H, hj, hjl, hM5, hG5, hR5, hgl, k5⟩
  simp only at hj ⊢
  subst hj
  refine zN (fun hc => ?_) (fun hc => ?_)
  ·have hc : j' < ll := by
    have : (j' : Int) < (ll : Int) := by simpa using hc
    omega
   have ekj : IntKind.wrap .i64 ((j' : Int) + 1) = ((j' + 1 : Nat) : Int) := by rw [zW (by omega) (by omega)]; omega
   have hlessj : ((ll : Int) - IntKind.wrap .i64 ((j' : Int) + 1)).toNat < ((ll : Int) - (j' : Int)).toNat := by rw [ekj]; omega
   obtain ⟨q, hqj⟩ : ∃ q, Q[j']? = some q := ⟨_, List.getElem?_eq_getElem (by omega)⟩
   obtain ⟨rs, hrs⟩ : ∃ rs, LL[j']? = some rs := ⟨_, List.getElem?_eq_getElem (by omega)⟩
   obtain ⟨hqs, hqc⟩ := hq j' q rs hqj hrs
   have hql := hqs.1
   have hrl := hsub j' rs hrs
   refine (h.yA k5 (by simp)).ld0 (i := (j' : Int)) (n := 1) (x := q) (v := .slice q.1 q.2.1 q.2.2) rfl (by omega) (by rw [Int.toNat_natCast]; exact hqj) rfl (zC.2 ?_)
   have hdr : LL.drop j' = rs :: LL.drop (j' + 1) := by
    have hlt : j' < LL.length := (List.getElem?_eq_some_iff.1 hrs).1
    rw [List.drop_eq_getElem_cons hlt]
    congr 1
    exact (List.getElem?_eq_some_iff.1 hrs).2
   rw [hdr] at hgl
   have hgl : GL D (LL.drop (j' + 1)) (X6 D [] rs (tag (fun y => y.2) H)) = u7 LL := hgl
   refine zP (σ := Int × Unit) (fun st w' => ∃ (i : Nat) (H' : List (Int × GH)), st.1 = (i : Int) ∧ i ≤ q.2.1 ∧ x8 .u64 w' m1 E ∧ x8 .u64 w' m2 (tag hdrG H') ∧ LU w' H' ∧ X6 D (rs.take i) (rs.drop i) (tag (fun y => y.2) H') = X6 D [] rs (tag (fun y => y.2) H) ∧ Keep (fun _ => False) w w') (fun st _ => ((q.2.1 : Int) - st.1).toNat)
    ⟨0, H, rfl, by omega, hM5, hG5, hR5, rfl, k5⟩ ?_
   rintro _ ⟨t, u⟩ w6 ⟨t', H', ht, htl, hM6, hG6, hR6, hg6, k6⟩
   simp only at ht ⊢
   subst ht
   refine zN (fun hc => ?_) (fun hc => ?_)
   ·have hc : t' < q.2.1 := by
     have : (t' : Int) < (q.2.1 : Int) := by simpa using hc
     omega
    have ek : IntKind.wrap .i64 ((t' : Int) + 1) = ((t' + 1 : Nat) : Int) := by rw [zW (by omega) (by omega)]; omega
    have hless : ((q.2.1 : Int) - IntKind.wrap .i64 ((t' : Int) + 1)).toNat < ((q.2.1 : Int) - (t' : Int)).toNat := by rw [ek]; omega
    obtain ⟨x, hx⟩ : ∃ x, rs[t']? = some x := ⟨_, List.getElem?_eq_getElem (by omega)⟩
    rw [zJj hx] at hg6
    refine (hqs.yA k6 (by simp)).ldA (i := (t' : Int)) (n := 19) (x := x) rfl (by omega) (by rw [Int.toNat_natCast]; exact hx) ?_
    rw [O5]
    refine yN QO rfl (ZI x) fun w7 hb7 k7 z7 => ?_
    have hM7 := hM6.keep k7 (by simp)
    have hG7 := hG6.keep k7 (by simp)
    have hR7 := hR6.keep k7 (by simp)
    have k07 := k6.trans k7
    have same : ∀ w8, Keep (fun _ => False) w7 w8 → UT D (rs.take t') x (tag (fun y => y.2) H') = tag (fun y => y.2) H' → ∃ m_1, m_1 < ((q.2.1 : Int) - (t' : Int)).toNat ∧ (∃ (i : Nat) (H'' : List (Int × GH)), IntKind.wrap .i64 ((t' : Int) + 1) = (i : Int) ∧ i ≤ q.2.1 ∧ x8 .u64 w8 m1 E ∧ x8 .u64 w8 m2 (tag hdrG H'') ∧ LU w8 H'' ∧ X6 D (rs.take i) (rs.drop i) (tag (fun y => y.2) H'') = X6 D [] rs (tag (fun y => y.2) H) ∧ Keep (fun _ => False) w w8) ∧ ((q.2.1 : Int) - IntKind.wrap .i64 ((t' : Int) + 1)).toNat = m_1 := by
     intro w8 k8 hst
     rw [hst] at hg6
     exact ⟨_, hless, ⟨t' + 1, H', ek, by omega, hM7.keep k8 (by simp), hG7.keep k8 (by simp), hR7.keep k8 (by simp), hg6, k07.trans k8⟩, rfl⟩
    refine zG (v := .int .i64 x.kind) hb7 rfl (zA.2 ?_)
    refine zN (fun e4 => ?_) (fun e4 => ?_)
    ·have e4 : ¬ x.kind = 4 := by simpa using e4
     exact same w7 (Keep.refl _ _) (by unfold UT; rw [if_neg fun h => e4 h.1])
    ·have e4 : x.kind = 4 := by simpa using e4
     refine zG (v := .int .u64 x.ver) hb7 rfl (zA.2 ?_)
     refine zV (fun d => uJ (P := Tryz.prog) H4 gA (z := .agg #[]) (fun w => xS (i := (Tryz.prog.info? 130).get (by kernel_rfl)) (by kernel_rfl) (by kernel_rfl)) (hM7.dr d) x.ver true) ?_
     rw [hE]
     refine yM.2 ?_
     have hg0 : ((if YY D x.ver = true then some (Value.agg #[]) else none).getD (.agg #[])) = .agg #[] := by split <;> rfl
     have hg1 : (if YY D x.ver = true then some (Value.agg #[]) else none).isSome = YY D x.ver := by cases YY D x.ver <;> rfl
     rw [hg0, hg1]
     refine zJ.2 ⟨rfl, zM.2 ?_⟩
     refine yN (by kernel_rfl) rfl (by intro v hv; cases hv) fun w8 hb8 k8 z8 => ?_
     have hb78 := k8.has hb7 (by simp)
     refine zG (v := .int .u64 x.ver) hb78 rfl (zA.2 ?_)
     have hG8 := hG7.keep k8 (by simp)
     refine zV (fun d => uJ (P := Tryz.prog) ZD gA (z := .slice none 0 0) (fun w => xS (i := (Tryz.prog.info? 75).get (by kernel_rfl)) (by kernel_rfl) (by kernel_rfl)) (hG8.dr d) x.ver true) ?_
     rw [jO]
     refine yM.2 ?_
     obtain ⟨sp, sl, sc, hsl⟩ : ∃ sp sl sc, ((zS H' x.ver).map hdrG).getD (.slice none 0 0) = .slice sp sl sc := by
      cases zS H' x.ver with
      | none => exact ⟨_, _, _, rfl⟩
      | some y => exact ⟨_, _, _, rfl⟩
     rw [hsl]
     refine zC.2 (zM.2 ⟨by trivial, by trivial, ?_⟩)
     cases hd : YY D x.ver with
     | true => exact (zH (p := _)).2 (same w8 k8 (by unfold UT; rw [if_neg fun h => by rw [hd] at h; exact absurd h.2.1 (by decide)]))
     | false =>
      cases hF : zS H' x.ver with
      | some y =>
       refine (zH (p := _)).2 (same w8 k8 ?_)
       unfold UT
       rw [if_neg fun h => ?_]
       rw [jO, hF] at h
       exact absurd h.2.2 (by simp)
      | none =>
       refine (zT (q := _)).2 ?_
       intro d
       have kd := Keep.drew (fun _ => False) w8 d
       have hb9 := kd.has hb78 (by simp)
       have k89 := k8.trans kd
       have hM9 := hM7.keep k89 (by simp)
       have hG9 := hG8.keep kd (by simp)
       have hR9 := hR7.keep k89 (by simp)
       have k09 := k07.trans k89
       have hq9 := hqs.yA k09 (by simp)
       generalize w8.dr d = w9 at *
       generalize w6.heap.size = b6 at *
       refine ⟨fun w' => Has w' b6 (.cells (recV x) 246 (0, 0)), hb9, ?_⟩
       refine yO (v := .int .u64 x.ver) (fun w' hw => ⟨_, _, _, hw, rfl⟩) (zA.2 ?_)
       refine G2 (hi := t') (by omega) ?_
       have hsub := hq9.sub (lo := 0) (hi := t') (m := q.2.2) (by omega) (by omega) (by omega)
       rw [List.drop_zero] at hsub
       refine zG (v := .int .u64 x.ver) hb9 rfl (zA.2 ?_)
       refine zMv hsub (by omega) (fun y hy => hlba y (hmem j' rs hrs y (List.mem_of_mem_take hy))) fun p' c' w10 o10 k10 => zC.2 ⟨k10.has hb9 (by simp), ?_⟩
       have hM10 := hM9.keep k10 (by simp)
       have hG10 := hG9.keep k10 (by simp)
       have hR10 := hR9.keep k10 (by simp)
       obtain ⟨arr, clk, hr11, ho11⟩ := x6 (P := Tryz.prog) ZD gA hG10 x.ver (.slice p' (grp x.ver (rs.take t')).length c')
       refine ⟨_, hr11, ?_⟩
       have ku := Keep.one w10 m2 (.map arr clk)
       have hG10' := hG10
       obtain ⟨ar0, ck0, hH0, _⟩ := hG10
       have hb10 := k10.has hb9 (by simp)
       have h26 : b6 ≠ m2 := fun e => by
        have := hH0
        rw [← e] at this
        exact absurd (this.symm.trans hb10) (by simp)
       have zw9 : m1 ≤ w9.heap.size := by have := k09.size; omega
       have hput : ∀ k cur, Has w10 k (.cells cur 88 (0, 0)) → ¬ k = m2 := fun k cur hk e => by
        rw [e] at hk
        exact absurd (hk.symm.trans hH0) (by simp)
       have hnew : ins H' x.ver ((p', (grp x.ver (rs.take t')).length, c'), grp x.ver (rs.take t')) = H' ++ [(x.ver, ((p', (grp x.ver (rs.take t')).length, c'), grp x.ver (rs.take t')))] := zG7 hF
       refine ⟨ku.has hb10 h26, _, hless, ⟨t' + 1, ins H' x.ver ((p', (grp x.ver (rs.take t')).length, c'), grp x.ver (rs.take t')), ek, by omega, hM10.keep ku (by omega), ?_, ?_, ?_, (k09.trans k10).trans' ku fun i hi e => by omega⟩, rfl⟩
       ·have := GJ hdrG H' x.ver ((p', (grp x.ver (rs.take t')).length, c'), grp x.ver (rs.take t'))
        rw [← this]
        exact ⟨arr, clk, Has.zL hH0 _, ho11⟩
       ·rw [hnew]
        intro e he
        rcases List.mem_append.1 he with he | he
        ·exact ⟨((hR10 e he).1).yA ku hput, (hR10 e he).2⟩
        ·rw [List.mem_singleton.1 he]
         refine ⟨(SlT.of o10).yA ku hput, ?_⟩
         have := zMx (v := x.ver) (rs := rs.take t')
         rw [List.length_take] at this
         show (grp x.ver (rs.take t')).length ≤ 100000
         omega
       ·have e1 := GJ (fun y : GH => y.2) H' x.ver ((p', (grp x.ver (rs.take t')).length, c'), grp x.ver (rs.take t'))
        rw [← e1, ← hg6]
        have : UT D (rs.take t') x (tag (fun y => y.2) H') = ins (tag (fun y => y.2) H') x.ver (grp x.ver (rs.take t')) := by
         unfold UT
         rw [if_pos ⟨e4, hd, by rw [jO, hF]; rfl⟩]
        rw [this]
   ·have hc : t' = q.2.1 := by
     have : ¬ (t' : Int) < (q.2.1 : Int) := by simpa using hc
     omega
    have hdn : rs.drop t' = [] := List.drop_of_length_le (by omega)
    rw [hdn] at hg6
    have hg6 : tag (fun y => y.2) H' = X6 D [] rs (tag (fun y => y.2) H) := hg6
    exact ⟨_, hlessj, ⟨j' + 1, H', ekj, by omega, hM6, hG6, hR6, by rw [hg6]; exact hgl, k6⟩, rfl⟩
  ·have hc : j' = ll := by
    have : ¬ (j' : Int) < (ll : Int) := by simpa using hc
    omega
   rw [List.drop_of_length_le (by omega)] at hgl
   have hgl : tag (fun y => y.2) H = u7 LL := hgl
   clear hc
   obtain ⟨w6, hr6, hI6, k6⟩ := VH (P := Tryz.prog) ZD hG5
   refine ⟨_, _, hr6, zO.2 ?_⟩
   have hG6 := hG5.keep k6 (by simp)
   have hR6 := hR5.keep k6 (by simp)
   have k06 := k5.trans k6
   have z5 := k5.size
   have hm5 := hG5.lt
   have zri : w5.heap.size < w6.heap.size := hI6.lt.1
   generalize hri : w5.heap.size = ri at *
   have hHk : H.map (·.1) = (u7 LL).map (·.1) := by rw [← hgl]; simp [tag]
   have hHl : H.length = (u7 LL).length := by have := congrArg List.length hHk; simpa using this
   have hverH : ∀ x ∈ H.map (·.1), 0 ≤ x ∧ x ≤ 18446744073709551615 := by
    rw [hHk]
    have step : ∀ (pre : List Rec) (xs : List Rec) (G : List (Int × List PutS)), (∀ x ∈ xs, x ∈ D) → (∀ x ∈ G.map (·.1), 0 ≤ x ∧ x ≤ 18446744073709551615) → ∀ x ∈ (X6 D pre xs G).map (·.1), 0 ≤ x ∧ x ≤ 18446744073709551615 := by
     intro pre xs
     induction xs generalizing pre with
     | nil => exact fun G _ h => h
     | cons y ys ih =>
      intro G hxs hG
      refine ih _ _ (fun x hx => hxs x (by simp [hx])) ?_
      unfold UT
      split
      ·rename_i hc
       rw [zG7 hc.2.2]
       intro x hx
       rw [List.map_append] at hx
       rcases List.mem_append.1 hx with hx | hx
       ·exact hG x hx
       ·have : x = y.ver := by simpa using hx
        rw [this]
        exact hver y (hxs y (by simp))
      ·exact hG
    have steps : ∀ (ls : List (List Rec)) (G : List (Int × List PutS)), (∀ l ∈ ls, ∀ x ∈ l, x ∈ D) → (∀ x ∈ G.map (·.1), 0 ≤ x ∧ x ≤ 18446744073709551615) → ∀ x ∈ (GL D ls G).map (·.1), 0 ≤ x ∧ x ≤ 18446744073709551615 := by
     intro ls
     induction ls with
     | nil => exact fun G _ h => h
     | cons l ls ih =>
      intro G hls hG
      exact ih _ (fun l' hl' => hls l' (by simp [hl'])) (step _ _ _ (hls l (by simp)) hG)
    unfold u7
    rw [hD]
    exact steps LL [] (fun l hl x hx => by rw [← hD]; exact List.mem_flatten.2 ⟨l, hl, hx⟩) (by simp)
   refine zP (σ := (Option Addr × Nat × Nat) × Unit) (fun st w' => ∃ (vs : List Int) (left : List (Int × Value)), Keep (fun _ => False) w w' ∧ Keep (fun k => ri ≤ k) w6 w' ∧ x8 .u64 w' m2 (tag hdrG H) ∧ LU w' H ∧ Iter .u64 w' ri m2 left ∧ OwnL uLay w' (ri + 1) 39 st.1.1 st.1.2.1 st.1.2.2 vs ∧ (vs ++ left.map (·.1)).Perm (H.map (·.1))) (fun st _ => H.length - st.1.2.1)
    ⟨[], tag hdrG H, k06, Keep.refl _ _, hG6, hR6, hI6, OwnL.nil, by simp [tag, Function.comp_def]⟩ ?_
   rintro _ ⟨⟨op, ol, oc⟩, u⟩ w7 ⟨vs, left, k7, k67, hG7, hR7, hI7, o7, hp7⟩
   simp only at o7 ⊢
   have hlp := hp7.length_eq
   rw [List.length_append, List.length_map, List.length_map] at hlp
   have hol := o7.length
   rcases Q1 (P := Tryz.prog) (ty := 0) hI7 with ⟨hnil, hr8⟩ | ⟨x, y, left', w8, hp8, hr8, hI8, hA8, k8⟩
   ·refine ⟨_, _, hr8, Or.inr ⟨rfl, ?_⟩⟩
    subst hnil
    rw [List.map_nil, List.append_nil] at hp7
    refine hs op ol oc (ri + 1) vs w7 _ (by omega) o7 (fun x hx => hverH x (hp7.mem_iff.1 hx)) fun w8 o8 k8 => ?_
    have hsv : VD vs = VD ((u7 LL).map (·.1)) := zI7 (by rw [← hHk]; exact hp7)
    rw [hsv] at o8
    have ko8 : Keep (fun k => ri + 1 ≤ k) w7 w8 := k8.mono fun k hk => (o7.lt hk).1
    have hm2r : m2 < ri := by omega
    have hG8 := hG7.keep ko8 (by omega)
    have k08 : Keep (fun _ => False) w w8 := k7.trans' ko8 fun i hi e => by omega
    have hR8 : LU w8 H := hR7.keep k8 fun k cur hk e => by
     have h9 := o7
     rcases Own.cases h9 with ⟨h0, _⟩ | ⟨b', cur', h0, _, hg', _⟩
     ·rw [h0] at e; cases e
     ·rw [h0] at e; cases e
      have := hk.inj hg'
      simp only [Obj.cells.injEq] at this
      exact absurd this.2.1 (by decide)
    generalize hVS : VD ((u7 LL).map (·.1)) = VS at *
    have hVSp : VS.Perm (H.map (·.1)) := by rw [← hVS, hHk]; exact VC _
    have hVl : ol = VS.length := o8.length
    have hgr : ∀ v ∈ VS, ∃ y, zS H v = some y := fun v hv => zJ9 (hVSp.mem_iff.1 hv)
    have hpend : ∀ v, (zS (u7 LL) v).getD [] = ((zS H v).map (fun y => y.2)).getD [] := fun v => by rw [← hgl, jO]
    refine zP (σ := (Option Addr × Nat × Nat) × Int × Unit) (fun st w' => ∃ i : Nat, st.2.1 = (i : Int) ∧ i ≤ ol ∧ OwnL jM w' m1 88 st.1.1 st.1.2.1 st.1.2.2 ((VS.take i).flatMap fun v => (zS (u7 LL) v).getD []) ∧ (∀ k, st.1.1 = some ⟨k, 0, none⟩ → w8.heap.size ≤ k) ∧ Keep (fun _ => False) w8 w') (fun st _ => ((ol : Int) - st.2.1).toNat)
     ⟨0, rfl, by omega, OwnL.nil, (fun k hk => by cases hk), Keep.refl _ _⟩ ?_
    rintro _ ⟨⟨ap, al, ac⟩, t, u⟩ w9 ⟨t', ht, htl, o9, hap, k9⟩
    simp only at ht o9 hap ⊢
    subst ht
    have hflat : ∀ n, ((VS.take n).flatMap fun v => (zS (u7 LL) v).getD []).length ≤ n * 100000 := by
     intro n
     induction n with
     | zero => simp
     | succ n ih =>
      rw [List.take_add_one, List.flatMap_append, List.length_append]
      have : ((VS[n]?).toList.flatMap fun v => (zS (u7 LL) v).getD []).length ≤ 100000 := by
       cases hv : VS[n]? with
       | none => simp
       | some v =>
        obtain ⟨y, hy⟩ := hgr v (List.mem_of_getElem? hv)
        have := (hR8 _ (zBo hy))
        simp only [Option.toList_some, List.flatMap_cons, List.flatMap_nil, List.append_nil]
        rw [hpend, hy]
        have h1 := this.1.len
        have h2 := this.2
        simp only at h1 h2
        simp only [Option.map_some, Option.getD_some]
        omega
      omega
    refine zN (fun hc => ?_) (fun hc => ?_)
    ·have hc : t' < ol := by
      have : (t' : Int) < (ol : Int) := by simpa using hc
      omega
     have ek : IntKind.wrap .i64 ((t' : Int) + 1) = ((t' + 1 : Nat) : Int) := by rw [zW (by omega) (by omega)]; omega
     obtain ⟨v, hv⟩ : ∃ v, VS[t']? = some v := ⟨_, List.getElem?_eq_getElem (by omega)⟩
     obtain ⟨y, hy⟩ := hgr v (List.mem_of_getElem? hv)
     refine (o8.sl.yA k9 (by simp)).ld0 (i := (t' : Int)) (n := 1) (x := v) (v := .int .u64 v) rfl (by omega) (by rw [Int.toNat_natCast]; exact hv) rfl (zA.2 ?_)
     refine zV (fun d => uJ (P := Tryz.prog) ZD gA (z := .slice none 0 0) (fun w => xS (i := (Tryz.prog.info? 75).get (by kernel_rfl)) (by kernel_rfl) (by kernel_rfl)) ((hG8.keep k9 (by simp)).dr d) v false) ?_
     show OpS ((zS (tag hdrG H) v).getD (.slice none 0 0)) _
     rw [jO, hy]
     refine zC.2 ?_
     have hy8 := hR8 _ (zBo hy)
     have hyl := hy8.1.len
     have hal := o9.length
     have hfl := hflat t'
     obtain ⟨p10, c10, w10, hr10, o10, k10, hw10⟩ := xD zF3 o9 (hy8.1.sl.yA k9 (by simp)) (ty := 75) (c2 := y.1.2.2) (by have := hy8.2; simp only at this; omega) (by have := hy8.2; simp only at this; simp only [maxLen]; omega) (by have := k9.size; have := k08.size; omega)
     refine ⟨_, _, hr10, zC.2 ?_⟩
     have k10' : Keep (fun k => w8.heap.size ≤ k) w9 w10 := k10.mono fun k hk => hap k hk
     refine ⟨_, by show ((ol : Int) - IntKind.wrap .i64 ((t' : Int) + 1)).toNat < ((ol : Int) - (t' : Int)).toNat; rw [ek]; omega, ⟨t' + 1, ek, by omega, ?_, ?_, k9.trans' k10' fun i hi e => by omega⟩, rfl⟩
     ·have e : ((VS.take (t' + 1)).flatMap fun v => (zS (u7 LL) v).getD []) = ((VS.take t').flatMap fun v => (zS (u7 LL) v).getD []) ++ y.2 := by
       rw [List.take_add_one, hv, List.flatMap_append]
       simp only [Option.toList_some, List.flatMap_cons, List.flatMap_nil, List.append_nil]
       rw [hpend, hy]
       rfl
      show OwnL jM w10 m1 88 p10 (al + y.1.2.1) c10 _
      rw [e]
      exact o10
     ·intro k hk
      rcases hw10 with e | e
      ·exact hap k (e ▸ hk)
      ·have hk : p10 = some ⟨k, 0, none⟩ := hk
       rw [e] at hk
       cases hk
       exact k9.size
    ·have hc : t' = ol := by
      have : ¬ (t' : Int) < (ol : Int) := by simpa using hc
      omega
     refine zF.2 ?_
     rw [List.take_of_length_le (by omega)] at o9
     have e : (VS.flatMap fun v => (zS (u7 LL) v).getD []) = XW LL := by unfold XW; rw [hVS]
     rw [e] at o9
     have e9 := o9.length
     subst e9
     exact hK ap ac w9 o9 (k08.trans k9)
   ·refine ⟨_, _, hr8, Or.inl ⟨_, _, rfl, ?_⟩⟩
    refine zV (fun d => VI (hA8.keep (Keep.drew (fun _ => False) w8 d) (by simp) (by simp))) ?_
    refine yM.2 (zA.2 ?_)
    refine ⟨_, _, zPy _ w8, zC.2 ?_⟩
    have k9 := Keep.new (fun _ => False) w8 (.cells #[.int .u64 x] 39)
    have hb9 := Has.new w8 (.cells #[.int .u64 x] 39)
    have zri8 : ri < w8.heap.size := hI8.lt.1
    generalize w8.alloc (.cells #[.int .u64 x] 39) = w9 at *
    have hI9 := hI8.keep k9 (by simp) (by simp)
    have hrow8 : ∀ k, op = some ⟨k, 0, none⟩ → ¬ k = ri := fun k hk e => by have := (o7.lt hk).1; omega
    have o9 : OwnL uLay w9 (ri + 1) 39 op ol oc vs := (o7.keep k8 hrow8).keep k9 (by simp)
    have hplen := hp8.length_eq
    simp only [List.length_cons] at hplen
    obtain ⟨p10, c10, w10, hr10, o10, k10, _⟩ := yK zQj o9 (y := x) hb9 rfl (ty := 302) (by omega) (by simp only [maxLen]; omega) (by have := k9.size; omega) (c2 := 1)
    refine ⟨_, _, hr10, zC.2 ?_⟩
    have k10' : Keep (fun k => ri + 1 ≤ k) w9 w10 := k10.mono fun k hk => (o9.lt hk).1
    have k7_10 : Keep (fun i => ri ≤ i) w7 w10 := ((k8.mono fun k e => by omega).trans (k9.mono fun _ h => h.elim)).trans (k10'.mono fun k e => by omega)
    have hm2r : m2 < ri := by omega
    refine ⟨_, by show H.length - (ol + 1) < H.length - ol; omega, ⟨vs ++ [x], left', k7.trans' k7_10 fun i hi e => by omega, k67.trans k7_10, hG7.keep k7_10 (by omega), ?_, ?_, o10, ?_⟩, rfl⟩
    ·refine ((hR7.keep k8 fun k cur hk e => ?_).keep k9 (by simp)).keep k10 fun k cur hk e => ?_
     ·obtain ⟨since, seen, c0, arr, clk, es, g1, _⟩ := hI7
      rw [e] at hk
      exact absurd (hk.symm.trans g1) (by simp)
     ·rcases Own.cases o9 with ⟨h0, _⟩ | ⟨b', cur', h0, _, hg', _⟩
      ·rw [h0] at e; cases e
      ·rw [h0] at e; cases e
       have := hk.inj hg'
       simp only [Obj.cells.injEq] at this
       exact absurd this.2.1 (by decide)
    ·exact hI9.keep k10' (by omega) (by omega)
    ·refine List.Perm.trans ?_ hp7
     rw [List.append_assoc]
     exact List.Perm.append_left _ (by simpa using (hp8.map (·.1)).symm)
theorem zMw {N : Nat} (hs : zHf N) {g : Geo} {m : Nat} {bks : List (Nat × Nat)} {s : SS} {base : Nat} {dp : Option Addr} {dc : Nat} (hS : SetAt w ⟨m, g, bks⟩ s) (hDk : OwnL dLay w base 111 dp g.d.toNat dc (bks.map Prod.fst)) {ep : Int} {lp : Option Addr} {ll lc : Nat} {Q : List (Option Addr × Nat × Nat)} {LL : List (List Rec)} (h : SlL hLay w lp ll Q) (hQ : Q.length = LL.length)
  (hq : ∀ (i : Nat) (q : Option Addr × Nat × Nat) (rs : List Rec), Q[i]? = some q → LL[i]? = some rs → SlL rLay w q.1 q.2.1 rs ∧ q.2.1 ≤ q.2.2) (hll : ll ≤ 1000) (hl : LL.flatten.length ≤ 100000) (hlba : ∀ x ∈ LL.flatten, 0 ≤ x.lba ∧ x.lba ≤ 2147483647)
  (hver : ∀ x ∈ LL.flatten, 0 ≤ x.ver ∧ x.ver ≤ 18446744073709551615) (hN : (u7 LL).length ≤ N) (hN2 : N ≤ 1000) (hP : (XW LL).length ≤ 1000000)
  (hK : ∀ w', SetAt w' ⟨m, g, bks⟩ (vY g s (XW LL) ep).2 → Keep (vJ ⟨m, g, bks⟩) w w' → R (.int .i64 (vY g s (XW LL) ep).1) w') :
  zB Tryz.prog 61 #[.agg (setV g dp g.d.toNat dc), .int .u32 ep, .slice lp ll lc] w R := by
 apply OW
 unfold WW
 refine zK fun w1 hb1 k1 z1 => ?_
 refine zQ hb1 rfl ?_
 refine q8 (hS.zX k1) (hDk.keep k1 (by simp)).sl hDk.cap.1 fun w2 k2 => zA.2 ((zH (p := _)).2 ?_)
 have k02 := k1.trans k2
 have hb2 := k2.has hb1 (by simp)
 refine ⟨fun st' w' => SetAt w' ⟨m, g, bks⟩ (vY g s (XW LL) ep).2 ∧ Keep (vJ ⟨m, g, bks⟩) w w' ∧ st'.1 = (vY g s (XW LL) ep).1, ?_, ?_⟩
 ·intro d
  have kd := k02.trans (Keep.drew (fun _ => False) w2 d)
  have hb3 := hb2.dr d
  generalize w2.dr d = w3 at *
  refine ⟨fun w' => Has w' w.heap.size (.cells (setV g dp g.d.toNat dc) 51 (0, 0)), hb3, ?_⟩
  refine jR (cs := setV g dp g.d.toNat dc) rfl (fun w' hw => ⟨_, _, _, hw, Nat.le_refl 4, rfl⟩) ?_
  refine zDd hs (h.yA kd (by simp)) hQ (fun i q rs h1 h2 => ⟨((hq i q rs h1 h2).1).yA kd (by simp), (hq i q rs h1 h2).2⟩) hll hl hlba hver hN hN2 fun p' c' w4 o4 k4 => zC.2 ⟨k4.has hb3 (by simp), ?_⟩
  have k04 := kd.trans k4
  have hb4 := k4.has hb3 (by simp)
  have hS4 := hS.zX k04
  have hD4 := hDk.keep k04 (by simp)
  refine zB1 hS4 hD4.sl hD4.cap.1 (fun b o e hb => ?_) o4.sl hP (fun b o e hb => ?_) fun w5 hS5 k5 => zA.2 ⟨k5.has hb4 (hS4.typ hb4 (by decide) (by decide) (by decide)), hS5, ((k04.mono fun _ h => h.elim).trans k5), rfl⟩
  ·obtain ⟨_, cur, hh⟩ := yI hD4 b o e
   exact hS4.typ hh (by decide) (by decide) (by decide) hb
  ·obtain ⟨_, cur, hh⟩ := yI o4 b o e
   exact hS4.typ hh (by decide) (by decide) (by decide) hb
 ·rintro _ ⟨n, u⟩ w3 ⟨h1, h2, h3⟩
  simp only at h3 ⊢
  subst h3
  exact zF.2 (hK w3 h1 h2)
end calls
end Go.Proofs
namespace Go.Proofs
open Go Go.Ev
set_option maxRecDepth 100000
theorem Inv.see {g : Geo} {s s' : SS} {now : Int → Sec} (hg : GeoOk g) (h : Inv g s now) (hv : ∀ i a, 0 ≤ i → 0 ≤ a → xR s' i a = xR s i a) : Inv g s' now := by
 intro st off hst hof k hk f hf
 obtain ⟨pk1, pk2⟩ := qC hg hst hof (k : Int)
 exact h st off hst hof k hk f (by rw [← hv _ _ pk1.1 pk2.1]; exact hf)
end Go.Proofs
namespace Go.Proofs
open Go.Ev
set_option maxRecDepth 100000
def YL (s : Array Value) (ramsp : Option Addr) (ramsl : Nat) (ramsc : Nat) (version : Int) (lba : Int) (data : Array Value) (epoch : Int) (w : World) (R : Value → World → Prop) : Prop :=
 Alc 51 s w fun b w => Alc 37 data w fun b1 w => LdA 4 b 0 (At w) fun cs => LdA 16 b1 0 (At w) fun cs1 => zB Tryz.prog 35 #[.agg cs, .int .i64 lba, .agg cs1] w fun v w
 => T2 v fun v1 v2 => OpS v1 fun p l c => OpI .i64 v2 fun n => Cb (n != 0) (Ret [] (R (.int .i64 n) w)) (zB Tryz.prog 131 #[.slice ramsp ramsl ramsc, .int .u64 version,
 .slice p l c] w fun v3 w => OpI .i64 v3 fun n1 => Cb (n1 != 0) (Ret [] (R (.int .i64 n1) w)) (LdA 4 b 0 (At w) fun cs2 => zB Tryz.prog 38 #[.agg cs2, .slice p l c, .int
 .u32 epoch] w fun v4 w => OpI .i64 v4 fun n2 => Cb (n2 != 0) (Ret [] (R (.int .i64 n2) w)) (zB Tryz.prog 133 #[.slice ramsp ramsl ramsc, .int .u64 version] w fun v5 w
 => OpI .i64 v5 fun n3 => Ret [] (R (.int .i64 n3) w))))
theorem HX {s : Array Value} {ramsp : Option Addr} {ramsl : Nat} {ramsc : Nat} {version : Int} {lba : Int} {data : Array Value} {epoch : Int} {w : World} {R : Value → World → Prop} (h : YL s ramsp ramsl ramsc version lba data epoch w R) : zB Tryz.prog 57 #[.agg s, .slice ramsp ramsl ramsc, .int .u64 version, .int .i64 lba, .agg data, .int .u32 epoch] w R := by
 exact zE (args := [.agg s, .slice ramsp ramsl ramsc, .int .u64 version, .int .i64 lba, .agg data, .int .u32 epoch]) (zR [] [] [] [] []) zD Tryz.func57 rfl rfl (by kernel_rfl) h
end Go.Proofs
namespace Go.Proofs
open Go Go.Ev Go.RowKit
set_option maxRecDepth 100000
structure StmAt (w : World) (q : MB) (g : Geo) (bks : List (Nat × Nat)) (base : Nat) (dp : Option Addr) (dc : Nat) (s : SS) (xa xb : List Int) : Prop where
 set : SetAt w ⟨q.m, g, bks⟩ s
 disks : OwnL dLay w base 111 dp g.d.toNat dc (bks.map Prod.fst)
 mems : MemsAt w q ⟨s.pw, xa, xb⟩
def y0 (q : MB) (g : Geo) (bks : List (Nat × Nat)) (w : World) (k : Nat) : Prop := y6 q w k ∨ vJ ⟨q.m, g, bks⟩ k
section plain
variable {w w1 w2 : World} {q : MB} {g : Geo} {bks : List (Nat × Nat)} {base : Nat} {dp : Option Addr} {dc : Nat} {s : SS} {xa xb : List Int}
theorem y0.trans (h : Keep (y0 q g bks w) w w1) (k : Keep (y0 q g bks w1) w1 w2) : Keep (y0 q g bks w) w w2 :=
 h.trans' k fun i hi hf => Classical.byContradiction fun hn => by
  rcases hf with (e | e | e | ⟨hb, cs, hc⟩) | e
  ·exact hn (Or.inl (Or.inl e))
  ·exact hn (Or.inl (Or.inr (Or.inl e)))
  ·exact hn (Or.inl (Or.inr (Or.inr (Or.inl e))))
  ·exact hn (Or.inl (Or.inr (Or.inr (Or.inr ⟨hb, cs, (h.block i hi hn).symm.trans hc⟩))))
  ·exact hn (Or.inr e)
theorem y0.none (h : Keep (fun _ => False) w w1) : Keep (y0 q g bks w) w w1 := h.mono fun _ h => h.elim
theorem y0.ofM (h : Keep (y6 q w) w w1) : Keep (y0 q g bks w) w w1 := h.mono fun _ h => Or.inl h
theorem y0.ofS (h : Keep (vJ ⟨q.m, g, bks⟩) w w1) : Keep (y0 q g bks w) w w1 := h.mono fun _ h => Or.inr h
theorem StmAt.share (h : StmAt w q g bks base dp dc s xa xb) {i : Nat} (hm : y6 q w i) (hs : vJ ⟨q.m, g, bks⟩ i) : i = q.m := by
 obtain ⟨_, _, _, _, _, _, ha, hb, _⟩ := h.mems.rams
 rcases hm with e | e | e | ⟨_, cs, hc⟩
 ·exact e
 ·subst e; exact absurd hs (h.set.typ ha.cells (by decide) (by decide) (by decide))
 ·subst e; exact absurd hs (h.set.typ hb.cells (by decide) (by decide) (by decide))
 ·exact absurd hs (h.set.typ hc (by decide) (by decide) (by decide))
theorem StmAt.zX (h : StmAt w q g bks base dp dc s xa xb) (k : Keep (fun _ => False) w w1) : StmAt w1 q g bks base dp dc s xa xb := ⟨h.set.zX k, h.disks.keep k (by simp), h.mems.keep k⟩
theorem StmAt.Q8 (h : StmAt w q g bks base dp dc s xa xb) {s' : MS} (hm : MemsAt w1 q s') (k : Keep (y6 q w) w w1) : StmAt w1 q g bks base dp dc ⟨s.ds, s'.pw⟩ s'.xa s'.xb :=
 ⟨h.set.pow k (fun i hs hm => h.share hm hs) hm.main, y6.own k h.disks h.mems (by decide) (by decide) (by decide), hm⟩
theorem StmAt.O8 (h : StmAt w q g bks base dp dc s xa xb) {s' : SS} (hs : SetAt w1 ⟨q.m, g, bks⟩ s') (k : Keep (vJ ⟨q.m, g, bks⟩) w w1) : StmAt w1 q g bks base dp dc s' xa xb :=
 ⟨hs, h.disks.keep k fun b hb => by
  obtain ⟨_, cur, hh⟩ := yI h.disks b 0 hb
  exact h.set.typ hh (by decide) (by decide) (by decide), h.mems.pow k (fun i hm hs => h.share hm hs) hs.main⟩
theorem y0.not (h : StmAt w q g bks base dp dc s xa xb) {k : Nat} {cs : Array Value} {t : TypeId} {f : Nat × Nat} (hk : Has w k (.cells cs t f)) (h1 : t ≠ 5) (h2 : t ≠ 209) (h3 : t ≠ 214) (h4 : t ≠ 220) (h5 : t ≠ 260) : ¬ y0 q g bks w k := by
 rintro (e | e)
 ·exact y6.not hk h.mems h1 h2 h3 e
 ·exact h.set.typ hk h2 h4 h5 e
theorem y0.has (h : StmAt w q g bks base dp dc s xa xb) (k : Keep (y0 q g bks w) w w1) {i : Nat} {cs : Array Value} {t : TypeId} {f : Nat × Nat} (hk : Has w i (.cells cs t f)) (h1 : t ≠ 5) (h2 : t ≠ 209) (h3 : t ≠ 214) (h4 : t ≠ 220) (h5 : t ≠ 260) : Has w1 i (.cells cs t f) :=
 k.has hk (y0.not h hk h1 h2 h3 h4 h5)
theorem y0.slt (h : StmAt w q g bks base dp dc s xa xb) (k : Keep (y0 q g bks w) w w1) {α : Type} {L : Lay α} {t : TypeId} {p : Option Addr} {l c : Nat} {xs : List α} (ho : SlT L w t p l c xs) (h1 : t ≠ 5) (h2 : t ≠ 209) (h3 : t ≠ 214) (h4 : t ≠ 220) (h5 : t ≠ 260) : SlT L w1 t p l c xs :=
 ho.yA k fun i cur hk => y0.not h hk h1 h2 h3 h4 h5
end plain
def uT (sz : Int) (g : Geo) (fs : List Bool) (v lba : Int) (data : Sec) (ep : Int) (s : SS) (xa xb : List Int) : Int × SS × List Int × List Int :=
 if (yR g s lba data).2 ≠ 0 then ((yR g s lba data).2, s, xa, xb)
 else
  let b := YD sz v (yR g s lba data).1 fs ⟨s.pw, xa, xb⟩
  if b.1 ≠ 0 then (b.1, ⟨s.ds, b.2.pw⟩, b.2.xa, b.2.xb)
  else
   let a := vY g ⟨s.ds, b.2.pw⟩ (yR g s lba data).1 ep
   if a.1 ≠ 0 then (a.1, a.2, b.2.xa, b.2.xb)
   else
    let e := yF sz (recK 5 v) fs ⟨a.2.pw, b.2.xa, b.2.xb⟩
    (e.1, ⟨a.2.ds, e.2.pw⟩, e.2.xa, e.2.xb)
section calls
variable {w : World} {q : MB} {g : Geo} {bks : List (Nat × Nat)} {base : Nat} {dp : Option Addr} {dc : Nat} {s : SS} {xa xb : List Int} {R : Value → World → Prop}
theorem gF {g : Geo} {s : SS} {lba : Int} {data : Sec} : (yR g s lba data).1.length ≤ 3 := by
 unfold yR
 simp only
 split
 ·simp
 ·split
  ·exact Nat.le_trans (List.length_filterMap_le _ _) (by simp)
  ·simp
theorem zJa (h : StmAt w q g bks base dp dc s xa xb) (hok : ∀ D ∈ s.ds, jN D) {fs : List Bool} {rp : Option Addr} {rl rc : Nat} (hr : SlT dLay w 104 rp rl rc (fs.map (ramM q))) (hrl : rl ≤ 1000000) {v lba ep : Int} (h0 : 0 ≤ lba) (h1 : lba < (g.d - 2) * g.c * g.s) {data : Sec} (hd : yD data)
  (hK : ∀ w', StmAt w' q g bks base dp dc (uT q.sz g fs v lba data ep s xa xb).2.1 (uT q.sz g fs v lba data ep s xa xb).2.2.1 (uT q.sz g fs v lba data ep s xa xb).2.2.2 → Keep (y0 q g bks w) w w' → R (.int .i64 (uT q.sz g fs v lba data ep s xa xb).1) w') :
  zB Tryz.prog 57 #[.agg (setV g dp g.d.toNat dc), .slice rp rl rc, .int .u64 v, .int .i64 lba, .agg (secV data), .int .u32 ep] w R := by
 apply HX
 unfold YL
 refine zK fun w1 hb1 k1 z1 => ?_
 refine zK fun w2 hb2 k2 z2 => ?_
 have k02 := k1.trans k2
 have hs2 := k2.has hb1 (by simp)
 refine zQ hs2 rfl ?_
 refine zQ hb2 rfl ?_
 have h2 := h.zX k02
 have hr2 := hr.keep k02 (by simp)
 refine zLw (q := ⟨q.m, g, bks⟩) h2.set h2.disks.sl h2.disks.cap.1 hok h0 h1 hd fun pp pc w3 o3 k3 => yM.2 (zC.2 (zA.2 ?_))
 have o3 : OwnL jM w3 w2.heap.size 88 pp (yR g s lba data).1.length pc (yR g s lba data).1 := o3
 have h3 := h2.zX k3
 have hr3 := hr2.keep k3 (by simp)
 have k03 := k02.trans k3
 have hs3 := k3.has hs2 (by simp)
 have hlen := gF (g := g) (s := s) (lba := lba) (data := data)
 have p3 := SlT.of o3
 generalize hw : uT q.sz g fs v lba data ep s xa xb = W at *
 unfold uT at hw
 show Cb ((yR g s lba data).2 != 0) _ _
 generalize yR g s lba data = P at *
 refine zN (fun hc => ?_) (fun hc => ?_)
 ·have hc : P.2 ≠ 0 := by simpa using hc
  rw [if_pos hc] at hw
  subst hw
  exact zF.2 (hK w3 h3 (y0.none k03))
 have hc : P.2 = 0 := by simpa using hc
 rw [if_neg (by simp [hc])] at hw
 simp only at hw
 refine zJb h3.mems hr3 hrl p3 fun w4 m4 k4 => zA.2 ?_
 have h4 := h3.Q8 m4 k4
 have k04 : Keep (y0 q g bks w) w w4 := y0.trans (y0.none k03) (y0.ofM k4)
 have hs4 := y6.has k4 hs3 h3.mems (by decide) (by decide) (by decide)
 have hr4 := y6.slt k4 hr3 h3.mems (by decide) (by decide) (by decide)
 have p4 := y6.slt k4 p3 h3.mems (by decide) (by decide) (by decide)
 generalize YD q.sz v P.1 fs ⟨s.pw, xa, xb⟩ = B at *
 refine zN (fun hc => ?_) (fun hc => ?_)
 ·have hc : B.1 ≠ 0 := by simpa using hc
  rw [if_pos hc] at hw
  subst hw
  exact zF.2 (hK w4 h4 k04)
 have hc : B.1 = 0 := by simpa using hc
 rw [if_neg (by simp [hc])] at hw
 refine zQ hs4 rfl ?_
 refine zB1 (q := ⟨q.m, g, bks⟩) h4.set h4.disks.sl h4.disks.cap.1 (fun b o e => ?_) p4.sl (by omega) (fun b o e => ?_) fun w5 s5 k5 => zA.2 ?_
 ·obtain ⟨_, cur, hh⟩ := yI h4.disks b o e
  exact h4.set.typ hh (by decide) (by decide) (by decide)
 ·obtain ⟨cur, hh⟩ := p4.ty _ e
  exact h4.set.typ hh (by decide) (by decide) (by decide)
 have h5 := h4.O8 s5 k5
 have k05 := y0.trans k04 (y0.ofS k5)
 have hr5 := y0.slt h4 (y0.ofS k5) hr4 (by decide) (by decide) (by decide) (by decide) (by decide)
 have ea : vY (SB.mk q.m g bks).g ⟨s.ds, B.2.pw⟩ P.1 ep = vY g ⟨s.ds, B.2.pw⟩ P.1 ep := rfl
 rw [ea] at h5 s5 ⊢
 generalize vY g ⟨s.ds, B.2.pw⟩ P.1 ep = A at *
 refine zN (fun hc => ?_) (fun hc => ?_)
 ·have hc : A.1 ≠ 0 := by simpa using hc
  rw [if_pos hc] at hw
  subst hw
  exact zF.2 (hK w5 h5 k05)
 have hc : A.1 = 0 := by simpa using hc
 rw [if_neg (by simp [hc])] at hw
 refine zPo h5.mems hr5 hrl fun w6 m6 k6 => zA.2 (zF.2 ?_)
 subst hw
 exact hK w6 (h5.Q8 m6 k6) (y0.trans k05 (y0.ofM k6))
end calls
end Go.Proofs
namespace Go.Proofs
open Go.Shelf
def Tryz.TJ : Go.Shelf.Ren := ⟨fun | 6 => 231 | 15 => 251 | 14 => 265 | 28 => 284 | 29 => 285 | 20 => 287 | 21 => 288 | 22 => 289 | 23 => 290 | 24 => 291 | 25 => 292 | 26 => 293 | 27 => 294 | 46 => 300 | 47 => 296 | 48 => 297 | 49 => 301 | 50 => 302 | 57 => 304 | n => n, fun | 22 => 113 | 24 => 246 | 25 => 336 | 3 => 3 | 39 => 154 | 0 => 0 | 53 => 62 | 55 => 39 | 4 => 4 | 46 => 370 | 45 => 369 | 50 => 251 | 5 => 5 | 9 => 9 | 66 => 384 | 70 => 387 | 76 => 391 | 77 => 268 | n => n, fun | n => n⟩
theorem Tryz.zEi : Go.Proofs.SlLaysF0.n6 Tryz.prog Tryz.TJ := {
 mixed := by kernel_rfl
 f6 := ⟨Tryz.f231.name, by decide, Tryz.func231.trans (congrArg some (by kernel_rfl))⟩
 f14 := ⟨Tryz.f265.name, by decide, Tryz.func265.trans (congrArg some (by kernel_rfl))⟩
 f15 := Tryz.func251.trans (congrArg some (by kernel_rfl))
 f20 := ⟨Tryz.f287.name, by decide, Tryz.func287.trans (congrArg some (by kernel_rfl))⟩
 f21 := ⟨Tryz.f288.name, by decide, Tryz.func288.trans (congrArg some (by kernel_rfl))⟩
 f22 := ⟨Tryz.f289.name, by decide, Tryz.func289.trans (congrArg some (by kernel_rfl))⟩
 f23 := ⟨Tryz.f290.name, by decide, Tryz.func290.trans (congrArg some (by kernel_rfl))⟩
 f24 := ⟨Tryz.f291.name, by decide, Tryz.func291.trans (congrArg some (by kernel_rfl))⟩
 f25 := ⟨Tryz.f292.name, by decide, Tryz.func292.trans (congrArg some (by kernel_rfl))⟩
 f26 := ⟨Tryz.f293.name, by decide, Tryz.func293.trans (congrArg some (by kernel_rfl))⟩
 f27 := ⟨Tryz.f294.name, by decide, Tryz.func294.trans (congrArg some (by kernel_rfl))⟩
 f28 := Tryz.func284.trans (congrArg some (by kernel_rfl))
 f29 := Tryz.func285.trans (congrArg some (by kernel_rfl))
 f46 := ⟨Tryz.f300.name, by decide, Tryz.func300.trans (congrArg some (by kernel_rfl))⟩
 f47 := Tryz.func296.trans (congrArg some (by kernel_rfl))
 f48 := Tryz.func297.trans (congrArg some (by kernel_rfl))
 f49 := ⟨Tryz.f301.name, by decide, Tryz.func301.trans (congrArg some (by kernel_rfl))⟩
 f50 := ⟨Tryz.f302.name, by decide, Tryz.func302.trans (congrArg some (by kernel_rfl))⟩
 f57 := ⟨Tryz.f304.name, by decide, Tryz.func304.trans (congrArg some (by kernel_rfl))⟩
 t0 := Tryz.underlying0
 a0 := Tryz.isAgg0
 z0 := Tryz.sizeOf0
 v0 := Tryz.zeroValue0
 t3 := Tryz.underlying3
 a3 := Tryz.isAgg3
 z3 := Tryz.sizeOf3
 v3 := Tryz.zeroValue3
 t4 := Tryz.underlying4
 a4 := Tryz.isAgg4
 z4 := Tryz.sizeOf4
 v4 := Tryz.zeroValue4
 t5 := Tryz.underlying5
 a5 := Tryz.isAgg5
 z5 := Tryz.sizeOf5
 v5 := Tryz.zeroValue5
 t9 := Tryz.underlying9
 a9 := Tryz.isAgg9
 z9 := Tryz.sizeOf9
 v9 := Tryz.zeroValue9
 t22 := Tryz.underlying113
 a22 := Tryz.isAgg113
 z22 := Tryz.sizeOf113
 v22 := Tryz.zeroValue113
 t25 := Tryz.underlying336
 a25 := Tryz.isAgg336
 z25 := Tryz.sizeOf336
 v25 := Tryz.zeroValue336
 t39 := Tryz.underlying154
 a39 := Tryz.isAgg154
 z39 := Tryz.sizeOf154
 v39 := Tryz.zeroValue154
 t45 := Tryz.underlying369
 a45 := Tryz.isAgg369
 z45 := Tryz.sizeOf369
 v45 := Tryz.zeroValue369
 t46 := Tryz.underlying370
 a46 := Tryz.isAgg370
 z46 := Tryz.sizeOf370
 v46 := Tryz.zeroValue370
 t50 := Tryz.underlying251
 a50 := Tryz.isAgg251
 z50 := Tryz.sizeOf251
 v50 := Tryz.zeroValue251
 t53 := Tryz.underlying62
 a53 := Tryz.isAgg62
 z53 := Tryz.sizeOf62
 v53 := Tryz.zeroValue62
 t55 := Tryz.underlying39
 a55 := Tryz.isAgg39
 z55 := Tryz.sizeOf39
 v55 := Tryz.zeroValue39
 t66 := Tryz.underlying384
 a66 := Tryz.isAgg384
 z66 := Tryz.sizeOf384
 v66 := Tryz.zeroValue384
 t70 := Tryz.underlying387
 a70 := Tryz.isAgg387
 z70 := Tryz.sizeOf387
 v70 := Tryz.zeroValue387
 t76 := Tryz.underlying391
 a76 := Tryz.isAgg391
 z76 := Tryz.sizeOf391
 v76 := Tryz.zeroValue391
 t77 := Tryz.underlying268
 a77 := Tryz.isAgg268
 z77 := Tryz.sizeOf268
 v77 := Tryz.zeroValue268 }
end Go.Proofs
namespace Go.Proofs
open Go Go.Ev Go.Sort
set_option maxRecDepth 100000
theorem zBw {d : Array Rec} {t : Nat} (h : t < d.size * 19) : (d.toList.flatMap recL)[t]? = some ((flatK recL 19 d)[t]!) := by
 rw [get_flatK _ _ _ _ h]
 have h1 : t / 19 < d.size := by omega
 have h2 : t % 19 < 19 := by omega
 have hg := ZM (y8 d.toList) (i := t / 19) (r := recL d[t / 19]) (by simp [h1]) (t % 19) h2
 rw [yL]
 have e : t / 19 * 19 + t % 19 = t := by omega
 rw [e] at hg
 rw [hg, getElem!_pos d (t / 19) h1]
 have h3 : t % 19 < (recL d[t / 19]).length := by simpa using h2
 rw [List.getElem?_eq_getElem h3, getElem!_pos (recL d[t / 19]) (t % 19) h3]
theorem zLu {w : World} {base : Nat} {T : TypeId} {b l c : Nat} {xs : List Value} (h : Own w base T 19 (some ⟨b, 0, none⟩) l c xs) (d : Array Rec) (hd : d.size = l) (n : Nat) (os : Array Obj) :
  Own (sortWorldK recL 19 w b 0 n d os) base T 19 (some ⟨b, 0, none⟩) l c (d.toList.flatMap recL) ∧ Keep (fun k => k = b) w (sortWorldK recL 19 w b 0 n d os) := by
 rcases h.cases with ⟨h, _⟩ | ⟨b', cur, hp, hb, hg, hle, hm, hs, ht⟩
 ·cases h
 cases hp
 have hbs := hg.lt
 have hh : ∀ k, k < w.heap.size → (sortWorldK recL 19 w b 0 n d os).heap[k]? = (if b = k then (w.heap[k]?).map (onCells (putCells id 0 (flatK recL 19 d))) else w.heap[k]?) := by
  intro k hk
  show ((w.heap.modify b (onCells (putCells id 0 (flatK recL 19 d)))) ++ os)[k]? = _
  rw [Array.getElem?_append_left (by simpa using hk), Array.getElem?_modify]
 refine ⟨Own.mk (cur := putCells id 0 (flatK recL 19 d) cur) hb ?_ hle hm (by simp [putCells, hs]) ?_, ⟨rfl, rfl, rfl, ?_, fun k hk hS => ?_⟩⟩
 ·unfold Has
  rw [hh b hbs, if_pos rfl]
  unfold Has at hg
  rw [hg]
  rfl
 ·apply List.ext_getElem?
  intro i
  by_cases hi : i < l * 19
  ·rw [List.getElem?_take_of_lt hi, zBw (by rw [hd]; exact hi)]
   have hc : i < cur.size := by rw [hs]; have : l * 19 ≤ c * 19 := Nat.mul_le_mul_right _ hle; omega
   rw [Array.getElem?_toList]
   unfold putCells
   rw [Array.getElem?_mapIdx, Array.getElem?_eq_getElem hc]
   simp [hd, hi]
  ·rw [List.getElem?_eq_none (by rw [List.length_take]; omega), List.getElem?_eq_none]
   rw [yL, vI (y8 _)]
   simp [hd]; omega
 ·show w.heap.size ≤ ((w.heap.modify b _) ++ os).size
  simp
 ·rw [hh k hk, if_neg (fun e => hS e.symm)]
theorem zH2 {x y : Int} : cmpI x y < 0 ↔ x < y := by unfold cmpI; split <;> (try split) <;> omega
theorem zL9 {x y : Int} : cmpI x y = 0 ↔ x = y := by unfold cmpI; split <;> (try split) <;> omega
theorem GX {r s : Rec} : cmpR r s < 0 ↔ r.ver < s.ver ∨ r.ver = s.ver ∧ r.lba < s.lba := by
 unfold cmpR
 split
 ·rename_i h
  rw [zH2]
  have : r.ver ≠ s.ver := fun e => h (zL9.2 e)
  omega
 ·rename_i h
  have : r.ver = s.ver := zL9.1 (by omega)
  rw [zH2]; omega
theorem zI0 : SWO (ltOf cmpR) where
 irrefl x := by simp [ltOf, GX]
 trans x y z h1 h2 := by simp only [ltOf, decide_eq_true_eq, GX] at *; omega
 ntrans x y z h1 h2 := by simp only [ltOf, decide_eq_false_iff_not, GX] at *; omega
theorem zDl {g : Nat} (hg : ∀ (r s : Rec) (w : World), Calls Tryz.prog g #[.agg (recV r), .agg (recV s)] w fun e w' => e = .returned (.int .i64 (cmpR r s)) ∧ ∃ q os, w' = grow (w.drewN q) os) (blk off size : Nat) (w : World) :
  CmpLays Tryz.prog g #[] recL 19 cmpR blk off size w := fun m os dk _ x y => hg x y _
theorem zEh {g : Nat} (hg : ∀ (r s : Rec) (w : World), Calls Tryz.prog g #[.agg (recV r), .agg (recV s)] w fun e w' => e = .returned (.int .i64 (cmpR r s)) ∧ ∃ q os, w' = grow (w.drewN q) os)
  (eg : ∀ args w, (callFunc g args).run Tryz.prog w = .ok (.enter g args) w) {w : World} {base : Nat} {T : TypeId} {b l c : Nat} {rs : List Rec} (h : Own w base T 19 (some ⟨b, 0, none⟩) l c (rs.flatMap recL)) (hsz : l < 4611686018427387904)
  {R : Value → World → Prop} (hK : ∀ (rs' : List Rec) (w' : World), rs'.Perm rs → rs'.Pairwise (fun r s => ¬ cmpR s r < 0) → Own w' base T 19 (some ⟨b, 0, none⟩) l c (rs'.flatMap recL) → Keep (fun k => k = b) w w' → R (.tuple #[]) w') :
  zB Tryz.prog 231 #[.slice (some ⟨b, 0, none⟩) l c, .func (.func g) #[] #[]] w R := by
 have hl : l = rs.length := by
  have := h
  rw [yL] at this
  simpa using this.count (y8 rs) (by decide)
 have hds : rs.toArray.size = l := by simp [hl]
 have hlt := h.lt rfl
 have hH : HoldsK recL 19 w b 0 rs.toArray := by
  intro j hj
  have hj' : j < l * 19 := by simpa [hl] using hj
  rcases h.cases with ⟨h0, _⟩ | ⟨b', cur, hp, hb, hg, _⟩
  ·cases h0
  cases hp
  refine ⟨?_, ?_⟩
  ·rw [Nat.zero_add, h.cell hj']
   have := zBw (d := rs.toArray) (t := j) (by rw [hds]; exact hj')
   simpa using this
  ·exact kS hg
 have := AnyQ.slices_SortFunc Tryz.zEi 19 (by intro w; kernel_rfl) (by intro w; kernel_rfl) recL (fun _ => rfl) Q6 cmpR zI0 g #[] b 0 c rs.toArray w eg (zDl hg b 0 _ w) hH hlt.2 (by rw [hds]; exact hsz)
 rw [hds] at this
 refine Calls.mono this fun e w' ⟨he, d', n, os, hp, hs, hw⟩ => ⟨_, he, ?_⟩
 subst hw
 have hd' : d'.size = l := hp.1.trans hds
 obtain ⟨ho, hk⟩ := zLu h d' hd' n os
 refine hK d'.toList _ ?_ ?_ ho hk
 ·have := hp.2.2
  have e1 : d'.extract 0 l = d' := by rw [← hd']; simp
  have e2 : rs.toArray.extract 0 l = rs.toArray := by rw [← hds]; simp
  rw [e1, e2] at this
  simpa using this
 ·rw [List.pairwise_iff_getElem]
  intro i j hi hj hij
  have := hs i j (Nat.zero_le _) hij (by simpa [hd'] using hj)
  rw [getElem!_pos d' j (by simpa using hj), getElem!_pos d' i (by simpa using hi)] at this
  simpa [ltOf] using this
end Go.Proofs
namespace Go.Proofs
open Go.Ev
set_option maxRecDepth 100000
def kJ (a : Array Value) (b : Array Value) (w : World) (R : Value → World → Prop) : Prop :=
 Alc 246 a w fun b1 w => Alc 246 b w fun b2 w => Dr1 w fun w => LdV b1 1 (At w) fun v => OpI .u64 v fun n => LdV b2 1 (At w) fun v1 => OpI .u64 v1 fun n1 => HP Tryz.prog
 234 #[.int .u64 n, .int .u64 n1] w fun v2 => OpI .i64 v2 fun n2 => LdV b1 2 (At w) fun v3 => OpI .i64 v3 fun n3 => LdV b2 2 (At w) fun v4 => OpI .i64 v4 fun n4 => HP
 Tryz.prog 235 #[.int .i64 n3, .int .i64 n4] w fun v5 => OpI .i64 v5 fun n5 => DoV Tryz.prog (Instr.buildSlice 69 2 #[(0, .int .i64 n2), (1, .int .i64 n5)]) w fun v6 w =>
 OpS v6 fun p l c => zB Tryz.prog 233 #[.slice p l c] w fun v7 w => OpI .i64 v7 fun n6 => Ret [] (R (.int .i64 n6) w)
theorem Z4 {a : Array Value} {b : Array Value} {w : World} {R : Value → World → Prop} (h : kJ a b w R) : zB Tryz.prog 286 #[.agg a, .agg b] w R := by
 exact zE (args := [.agg a, .agg b]) (zR [] [] [] [] []) zD Tryz.func286 rfl rfl (by kernel_rfl) h
def j6 (c : Nat) (w : World) (R : Value → World → Prop) : Prop :=
 LdV c 1 (At w) fun v => OpM v fun m => DoV Tryz.prog (Instr.range 242 (.map m)) w fun v1 w => OpN v1 fun b o => yC (σ := (Option Addr × Nat × Nat) × Unit) (fun _ s1 w
 K1 => DoV Tryz.prog (Instr.next (.pointer (some ⟨b, o, none⟩)) false 0) w fun v2 w => OpX v2 (fun k x => DoQ Tryz.prog (Instr.entry (.pointer (some ⟨b, o, none⟩))) (At w)
 fun v3 => T2 v3 fun v4 v5 => OpI .i64 v4 fun n => OpA 17 v5 fun cs => Alc 354 (zc Tryz.prog 354) w fun b1 w => StA 17 b1 0 cs w fun w => LdV b1 16 (At w) fun v6 => OpI
 .u64 v6 fun n1 => LdA 16 b1 0 (At w) fun cs1 => DoQ Tryz.prog (Instr.build 246 #[(0, .int .i64 1), (1, .int .u64 n1), (2, .int .i64 n), (3, .agg cs1)]) (At w) fun v7 =>
 OpA 19 v7 fun cs2 => DoV Tryz.prog (Instr.buildSlice 113 1 #[(0, .agg cs2)]) w fun v8 w => OpS v8 fun p l c1 => DoV Tryz.prog (Builtin.append_ #[113, 113] 113 #[.slice
 s1.1.1 s1.1.2.1 s1.1.2.2, .slice p l c1]) w fun v9 w => OpS v9 fun p1 l1 c2 => K1 ((p1, l1, c2), ()) w) (zB Tryz.prog 231 #[.slice s1.1.1 s1.1.2.1 s1.1.2.2, .func
 (.func 286) #[] #[]] w fun v10 w => Ret [] (R (.slice s1.1.1 s1.1.2.1 s1.1.2.2) w))) ((none, 0, 0), ()) w
theorem W8 {c : Nat} {w : World} {R : Value → World → Prop} (h : j6 c w R) : zB Tryz.prog 262 #[.pointer (some ⟨c, 0, none⟩)] w R := by
 exact zE (args := [.pointer (some ⟨c, 0, none⟩)]) (zR [(5, [(3, .slice)])] [] [] [(15, ((.int .i64), (.agg 17)))] []) zD Tryz.func262 rfl rfl (by kernel_rfl) h
def j0 (c : Nat) (w : World) (R : Value → World → Prop) : Prop :=
 Alc 246 (zc Tryz.prog 246) w fun b w => zB Tryz.prog 262 #[.pointer (some ⟨c, 0, none⟩)] w fun v w => OpS v fun p l c1 => Cb (((l : Nat) : Int) == 0) (DoQ Tryz.prog
 (Instr.build 246 #[]) (At w) fun v1 => OpA 19 v1 fun cs => StA 19 b 0 cs w fun w => LdA 19 b 0 (At w) fun cs1 => Ret [] (R (.tuple #[.agg cs1, .int .i64 10]) w)) (IdxS p l
 0 19 fun b1 o => LdA 19 b1 o (At w) fun cs2 => StA 19 b 0 cs2 w fun w => LdA 19 b 0 (At w) fun cs3 => Ret [] (R (.tuple #[.agg cs3, .int .i64 0]) w))
theorem W7 {c : Nat} {w : World} {R : Value → World → Prop} (h : j0 c w R) : zB Tryz.prog 227 #[.pointer (some ⟨c, 0, none⟩)] w R := by
 exact zE (args := [.pointer (some ⟨c, 0, none⟩)]) (zR [] [] [] [] []) zD Tryz.func227 rfl rfl (by kernel_rfl) h
def jC (c : Nat) (lba : Int) (version : Int) (w : World) (R : Value → World → Prop) : Prop :=
 zB Tryz.prog 225 #[.pointer (some ⟨c, 0, none⟩), .int .i64 lba] w fun v w => T3 v fun v1 v2 v3 => OpA 16 v1 fun cs => OpI .u64 v2 fun n => OpI .i64 v3 fun n1 => Alc 37
 (zc Tryz.prog 37) w fun b w => StA 16 b 0 cs w fun w => Cb (n1 != 0) (Ret [] (R (.int .i64 n1) w)) (Cb (decide (n > version)) (Ret [] (R (.int .i64 12) w)) (LdV c 1 (At w)
 fun v4 => OpM v4 fun m => DoV Tryz.prog (Builtin.delete_ #[242, 3] 0 #[.map m, .int .i64 lba]) w fun v5 w => Ret [] (R (.int .i64 0) w)))
theorem XB {c : Nat} {lba : Int} {version : Int} {w : World} {R : Value → World → Prop} (h : jC c lba version w R) : zB Tryz.prog 228 #[.pointer (some ⟨c, 0, none⟩), .int .i64 lba, .int .u64 version] w R := by
 exact zE (args := [.pointer (some ⟨c, 0, none⟩), .int .i64 lba, .int .u64 version]) (zR [] [] [] [] []) zD Tryz.func228 rfl rfl (by kernel_rfl) h
end Go.Proofs
namespace Go.Proofs
open Go Go.Ev Go.Sort
set_option maxRecDepth 100000
theorem zJt (r s : Rec) (w : World) : Calls Tryz.prog 286 #[.agg (recV r), .agg (recV s)] w fun e w' => e = .returned (.int .i64 (cmpR r s)) ∧ ∃ q os, w' = grow (w.drewN q) os := by
 have key : zB Tryz.prog 286 #[.agg (recV r), .agg (recV s)] w fun v w' => v = .int .i64 (cmpR r s) ∧ ∃ q os, w' = grow (w.drewN q) os := by
  apply Z4
  unfold kJ
  rw [y7, y7]
  have ha := (Has.new w (.cells (recV r) 246)).alloc (y := .cells (recV s) 246)
  have hb := Has.new (w.alloc (.cells (recV r) 246)) (.cells (recV s) 246)
  have hg : ∃ q : Nat, ∀ d, w.drawn ≤ d → ((w.alloc (.cells (recV r) 246)).alloc (.cells (recV s) 246)).dr d = grow (w.drewN (d - w.drawn)) #[.cells (recV r) 246, .cells (recV s) 246] := by
   refine ⟨0, fun d hd => ?_⟩
   have : w.drawn + (d - w.drawn) = d := by omega
   unfold World.dr World.alloc grow World.drewN
   simp only [this]
   congr 1
  obtain ⟨_, hg⟩ := hg
  generalize hw2 : (w.alloc (.cells (recV r) 246)).alloc (.cells (recV s) 246) = w2 at *
  have hdr : w2.drawn = w.drawn := by rw [← hw2]; rfl
  intro d hd
  rw [hdr] at hd
  refine zG (v := .int .u64 r.ver) (ha.dr d) rfl ?_
  simp only [zA]
  refine zG (v := .int .u64 s.ver) (hb.dr d) rfl ?_
  simp only [zA]
  refine ⟨.int .i64 (cmpI r.ver s.ver), ?_, ?_⟩
  ·exact Calls.mono (GU (R := fun v w' => v = .int .i64 (cmpI r.ver s.ver) ∧ w' = w2.dr d) r.ver s.ver (w2.dr d) ⟨rfl, rfl⟩) fun e w' ⟨v, he, hv, hw⟩ => by subst hv; exact ⟨he, hw⟩
  simp only [zA]
  refine zG (v := .int .i64 r.lba) (ha.dr d) rfl ?_
  simp only [zA]
  refine zG (v := .int .i64 s.lba) (hb.dr d) rfl ?_
  simp only [zA]
  refine ⟨.int .i64 (cmpI r.lba s.lba), ?_, ?_⟩
  ·exact Calls.mono (GV (R := fun v w' => v = .int .i64 (cmpI r.lba s.lba) ∧ w' = w2.dr d) r.lba s.lba (w2.dr d) ⟨rfl, rfl⟩) fun e w' ⟨v, he, hv, hw⟩ => by subst hv; exact ⟨he, hw⟩
  simp only [zA]
  refine ⟨_, _, run_buildSlice (w2.dr d) 69 3 2 _ #[.int .i64 (cmpI r.ver s.ver), .int .i64 (cmpI r.lba s.lba)] ((Tryz.prog.info? 3).get (by kernel_rfl)) (.int .i64 0) (by kernel_rfl) (by kernel_rfl) (by kernel_rfl) (by decide +kernel) (by decide +kernel) (by kernel_rfl), ?_⟩
  simp only [zC]
  refine zKv _ _ _ _ _ (Has.new _ _) ?_
  simp only [zA, zF]
  refine ⟨rfl, d - w.drawn, #[.cells (recV r) 246, .cells (recV s) 246, .cells #[.int .i64 (cmpI r.ver s.ver), .int .i64 (cmpI r.lba s.lba)] 3], ?_⟩
  rw [hg d hd, alloc_eq_grow, grow_grow]
  rfl
 exact Calls.mono key fun e w' ⟨v, he, hv, hw⟩ => by subst hv; exact ⟨he, hw⟩
def vS (p : Int × Ent) : Rec := ⟨1, p.2.2, p.1, p.2.1⟩
def zAt (rs : List Rec) : Prop := rs.Pairwise fun r s => ¬ cmpR s r < 0
def numOf : Option Value → Int
 | some (.int _ n) => n
 | _ => 0
def zQi (v : Value) : Ent := (fun i => numOf v.cells[i.val]?, numOf v.cells[16]?)
theorem zLs (e : Ent) : zQi (entV e) = e := by
 obtain ⟨f, n⟩ := e
 refine Prod.ext ?_ rfl
 funext i
 match i with
 | ⟨0, _⟩ => rfl | ⟨1, _⟩ => rfl | ⟨2, _⟩ => rfl | ⟨3, _⟩ => rfl | ⟨4, _⟩ => rfl | ⟨5, _⟩ => rfl | ⟨6, _⟩ => rfl | ⟨7, _⟩ => rfl
 | ⟨8, _⟩ => rfl | ⟨9, _⟩ => rfl | ⟨10, _⟩ => rfl | ⟨11, _⟩ => rfl | ⟨12, _⟩ => rfl | ⟨13, _⟩ => rfl | ⟨14, _⟩ => rfl | ⟨15, _⟩ => rfl
 | ⟨n + 16, hn⟩ => exact absurd hn (by omega)
theorem zEe {α : Type} {f : α → Value} {g : Value → α} (hg : ∀ e, g (f e) = e) {l : List (Int × α)} {x : Int} {v : Value} {r : List (Int × Value)} (h : (tag f l).Perm ((x, v) :: r)) :
  ∃ e l', v = f e ∧ r = tag f l' ∧ l.Perm ((x, e) :: l') := by
 have hmem : ∀ p ∈ (x, v) :: r, ∃ e, p.2 = f e := by
  intro p hp
  have := h.symm.subset hp
  obtain ⟨q, _, rfl⟩ := List.mem_map.1 this
  exact ⟨q.2, rfl⟩
 obtain ⟨e, he⟩ := hmem (x, v) (by simp)
 have hr : r = tag f (r.map fun p => (p.1, g p.2)) := by
  unfold tag
  rw [List.map_map]
  conv => lhs; rw [← List.map_id r]
  apply List.map_congr_left
  intro p hp
  obtain ⟨e', he'⟩ := hmem p (by simp [hp])
  simp only [Function.comp, he', hg, id]
  rw [← he']
 refine ⟨e, _, he, hr, ?_⟩
 have h2 := h.map fun p : Int × Value => (p.1, g p.2)
 have h3 : (tag f l).map (fun p : Int × Value => (p.1, g p.2)) = l := by
  unfold tag
  rw [List.map_map]
  conv => rhs; rw [← List.map_id l]
  apply List.map_congr_left
  intro p _
  simp [hg]
 rw [h3] at h2
 simpa [show v = f e from he, hg] using h2
theorem zB3 {g : Nat} (hg : ∀ (r s : Rec) (w : World), Calls Tryz.prog g #[.agg (recV r), .agg (recV s)] w fun e w' => e = .returned (.int .i64 (cmpR r s)) ∧ ∃ q os, w' = grow (w.drewN q) os)
  (eg : ∀ args w, (callFunc g args).run Tryz.prog w = .ok (.enter g args) w) {w : World} {base : Nat} {T : TypeId} {p : Option Addr} {l c : Nat} {rs : List Rec} (h : Own w base T 19 p l c (rs.flatMap recL)) (hsz : l < 4611686018427387904)
  {R : Value → World → Prop} (hK : ∀ (rs' : List Rec) (w' : World), rs'.Perm rs → zAt rs' → Own w' base T 19 p l c (rs'.flatMap recL) → Keep (fun k => p = some ⟨k, 0, none⟩) w w' → R (.tuple #[]) w') :
  zB Tryz.prog 231 #[.slice p l c, .func (.func g) #[] #[]] w R := by
 rcases h.cases with ⟨rfl, rfl, rfl, h0⟩ | ⟨b, cur, rfl, _⟩
 ·have hrs : rs = [] := by
   cases rs with
   | nil => rfl
   | cons r rs => simp [recL] at h0
  subst hrs
  exact Calls.mono (AnyF.slices_SortFunc_none Tryz.zEi none 0 (.func (.func g) #[] #[]) w) fun e w' ⟨he, hw⟩ => ⟨_, he, by subst hw; exact hK [] _ (List.Perm.refl _) List.Pairwise.nil h (Keep.refl _ _)⟩
 ·exact zEh hg eg h hsz fun rs' w' hp hs ho hk => hK rs' w' hp hs ho (hk.mono fun k hk => by rw [hk])
theorem zNk (k v l : Int) (f : Sec) (w : World) : (Instr.build 246 #[(0, .int .i64 k), (1, .int .u64 v), (2, .int .i64 l), (3, .agg (secV f))]).run Tryz.prog w = .ok (.agg (recV ⟨k, v, l, f⟩)) w := run_build _ _ _ _ (by kernel_rfl)
theorem zAc (r : Rec) (w : World) : (Instr.buildSlice 113 1 #[(0, .agg (recV r))]).run Tryz.prog w = .ok (.slice (some ⟨w.heap.size, 0, none⟩) 1 1) (w.alloc (.cells (recV r) 246)) :=
 run_buildSlice w 113 246 1 _ (recV r) ((Tryz.prog.info? 246).get (by kernel_rfl)) ((((Tryz.prog.info? 246).get (by kernel_rfl)).zero).get (by kernel_rfl)) (by kernel_rfl) (by kernel_rfl) (by kernel_rfl) (by decide +kernel) (by decide +kernel) (by kernel_rfl)
theorem zHd {w : World} {base : Nat} {p : Option Addr} {l c : Nat} {rs : List Rec} (h : Own w base 246 19 p l c (rs.flatMap recL)) {a : Nat} {r : Rec} (ha : Has w a (.cells (recV r) 246 (0, 0))) (hl : l ≤ 1000000000) (hbase : base ≤ w.heap.size) :
  ∃ p' c' w', (Builtin.append_ #[113, 113] 113 #[.slice p l c, .slice (some ⟨a, 0, none⟩) 1 1]).run Tryz.prog w = .ok (.slice p' (l + 1) c') w' ∧
   Own w' base 246 19 p' (l + 1) c' ((rs ++ [r]).flatMap recL) ∧ Keep (fun k => p = some ⟨k, 0, none⟩) w w' := by
 have := q9 (P := Tryz.prog) (t := 113) (ty := 113) (i := ((Tryz.prog.info? 246).get (by kernel_rfl))) (z := ((((Tryz.prog.info? 246).get (by kernel_rfl)).zero).get (by kernel_rfl))) (size := 19) (bytes := 40) (by kernel_rfl) (by kernel_rfl) (by kernel_rfl) (by kernel_rfl) (by kernel_rfl) (by kernel_rfl) (by decide) h
   (a := ⟨a, 0, none⟩) (m := 1) (c2 := 1) (news := recL r) rfl (fun jj u hu => by
    have : Addr.add ⟨a, 0, none⟩ jj = ⟨a, jj, none⟩ := by unfold Addr.add; split <;> simp_all
    rw [this, cell_of ha]
    simpa [recV] using hu) (Q6 r) (by omega) (by simp [maxLen]; omega) hbase
 simpa using this
theorem MZ {c m : Nat} {room : Int} {es : List (Int × Ent)} {w : World} {R : Value → World → Prop} (h : yQ w c m room es) (hlen : es.length ≤ 1000000)
  (hK : ∀ (p : Option Addr) (l cp : Nat) (rs : List Rec) (w' : World), rs.Perm (es.map vS) → zAt rs → Own w' w.heap.size 246 19 p l cp (rs.flatMap recL) → Keep (fun _ => False) w w' → R (.slice p l cp) w') :
  zB Tryz.prog 262 #[.pointer (some ⟨c, 0, none⟩)] w R := by
 apply W8
 unfold j6
 refine zG (v := .map (some m)) h.1 rfl ?_
 simp only [vZ]
 obtain ⟨w1, hr, hI, k1⟩ := VH (P := Tryz.prog) qH h.2
 refine ⟨_, _, hr, ?_⟩
 simp only [zO]
 have hm : m < w.heap.size := h.2.lt
 refine zP (σ := (Option Addr × Nat × Nat) × Unit) (fun s w' => ∃ (left done : List (Int × Ent)), Iter .i64 w' w.heap.size m (tag entV left) ∧ (done ++ left).Perm es ∧
   Own w' (w.heap.size + 1) 246 19 s.1.1 s.1.2.1 s.1.2.2 ((done.map vS).flatMap recL) ∧ s.1.2.1 = done.length ∧ Keep (fun _ => False) w w' ∧ w.heap.size + 1 ≤ w'.heap.size) (fun s w' => es.length - s.1.2.1)
  ⟨es, [], hI, by simp, Own.nil _ _ _ _, rfl, k1, by have := hI.lt.1; omega⟩ ?_
 intro _ s w2 hs
 obtain ⟨⟨p, l, cp⟩, u⟩ := s
 obtain ⟨left, done, hI2, hperm, ho, hl, k2, hsz⟩ := hs
 simp only at ho hl ⊢
 have hln : done.length + left.length = es.length := by have := hperm.length_eq; simpa using this
 rcases Q1 (P := Tryz.prog) (ty := 0) hI2 with ⟨hnil, hr2⟩ | ⟨x, v, left', w3, hp3, hr2, hI3, hA3, k3⟩
 ·refine ⟨_, _, hr2, Or.inr ⟨rfl, ?_⟩⟩
  have hleft : left = [] := by
   cases left with
   | nil => rfl
   | cons a b => simp [tag] at hnil
  subst hleft
  rw [List.append_nil] at hperm
  have eg : ∀ args w, (callFunc 286 args).run Tryz.prog w = .ok (.enter 286 args) w := enters_of Tryz.func286 (by kernel_rfl) rfl
  refine zB3 zJt eg ho (by omega) fun rs w4 hrp hrs ho4 k4 => ?_
  simp only [zF]
  have k4' : Keep (fun _ => False) w w4 := k2.trans' k4 (fun k hk e => by have := (ho.lt e).1; omega)
  refine hK p l cp rs w4 (hrp.trans (hperm.map _)) hrs ?_ k4'
  rcases ho4.cases with ⟨rfl, rfl, rfl, h0⟩ | ⟨b, cur, rfl, hb, hg, hle, hmx, hss, ht⟩
  ·rw [h0]; exact Own.nil _ _ _ _
  ·exact Own.mk (by omega) hg hle hmx hss ht
 ·obtain ⟨e, left2, rfl, rfl, hp2⟩ := zEe zLs hp3
  refine ⟨_, _, hr2, Or.inl ⟨_, _, rfl, ?_⟩⟩
  refine zV (fun d => VI (hA3.keep (Keep.drew (fun _ => False) w3 d) (by simp) (by simp))) ?_
  simp only [yM, zA, entV, zJ]
  refine ⟨rfl, ?_⟩
  have k23 : Keep (fun _ => False) w w3 := k2.trans' k3 (fun k hk e => by omega)
  have ho3 := ho.keep k3 (fun k hp => by have := (ho.lt hp).1; omega)
  have hsz3 : w.heap.size + 1 ≤ w3.heap.size := by have := k3.size; omega
  rw [y7]
  have hb1 := Has.new w3 (.cells (zc Tryz.prog 354) 354)
  have k4 := Keep.new (fun _ => False) w3 (.cells (zc Tryz.prog 354) 354)
  generalize hw4 : w3.alloc (.cells (zc Tryz.prog 354) 354) = w4 at *
  refine yB hb1 rfl (by rw [zE7]; rfl) ?_ ?_
  ·intro v hv
   simp only [List.mem_cons, List.not_mem_nil, or_false] at hv
   rcases hv with rfl | rfl | rfl | rfl | rfl | rfl | rfl | rfl | rfl | rfl | rfl | rfl | rfl | rfl | rfl | rfl | rfl <;> rfl
  generalize hcs : (#[Value.int IntKind.u8 _, _, _, _, _, _, _, _, _, _, _, _, _, _, _, _, _] : Array Value) = cs
  have hb2 := hb1.zL (.cells cs 354)
  have k5 := Keep.one w4 w3.heap.size (.cells cs 354)
  have hI5 := (hI3.keep k4 (by simp) (by simp)).keep k5 (by have := hI3.lt.1; omega) (by have := hI3.lt.2; omega)
  have ho5 := (ho3.keep k4 (by simp)).keep k5 (fun k hp => by have := (ho3.lt hp).2; omega)
  have k25 : Keep (fun _ => False) w (w4.upd w3.heap.size (.cells cs 354)) := (k23.trans k4).trans' k5 (fun k hk e => by omega)
  have hsz5 : w.heap.size + 1 ≤ (w4.upd w3.heap.size (.cells cs 354)).heap.size := by have := k4.size; simp; omega
  generalize hw5 : w4.upd w3.heap.size (.cells cs 354) = w5 at *
  subst hcs
  refine zG (v := .int .u64 e.2) hb2 rfl ?_
  simp only [zA]
  refine xO (cs := secV e.1) hb2 (by simp) rfl ?_
  refine zV (fun d => zNk _ _ _ _ _) ?_
  simp only [zJ]
  refine ⟨rfl, _, _, zAc _ _, ?_⟩
  simp only [zC]
  have ha := Has.new w5 (.cells (recV ⟨1, e.2, x, e.1⟩) 246)
  have k6 := Keep.new (fun _ => False) w5 (.cells (recV ⟨1, e.2, x, e.1⟩) 246)
  have ho6 := ho5.keep k6 (by simp)
  have hI6 := hI5.keep k6 (by simp) (by simp)
  have hlt : left.length = left2.length + 1 := by have := hp2.length_eq; simpa using this
  obtain ⟨p', c', w7, hr7, ho7, k7⟩ := zHd ho6 ha (by omega) (by have := k6.size; omega)
  refine ⟨_, _, hr7, ?_⟩
  simp only [zC]
  have k67 := k25.trans k6
  refine ⟨_, by omega, ⟨left2, done ++ [(x, e)], hI6.keep k7 (fun hp => ?_) (fun hp => ?_), ?_, by simpa [vS] using ho7, by simp [hl], k67.trans' k7 (fun k hk hp => by have := (ho6.lt hp).1; omega), by have := k7.size; have := k6.size; omega⟩, rfl⟩
  ·have := (ho6.lt hp).1; omega
  ·have := (ho6.lt hp).1; omega
  ·have h9 : (done ++ left).Perm (done ++ (x, e) :: left2) := hp2.append_left done
   have := h9.symm.trans hperm
   simpa using this
end Go.Proofs
namespace Go.Proofs
open Go Go.Ev
set_option maxRecDepth 100000
theorem kQ {α : Type} {es : List (Int × α)} {x : Int} {e : α} (h : zS es x = some e) : (x, e) ∈ es := by
 unfold zS at h
 rw [Option.map_eq_some_iff] at h
 obtain ⟨p, hp, rfl⟩ := h
 have h1 := List.mem_of_find?_eq_some hp
 have h2 := List.find?_some hp
 have : p.1 = x := by simpa using h2
 rw [← this]; exact h1
theorem qI {α : Type} {es : List (Int × α)} (hn : (es.map (·.1)).Nodup) {x : Int} {e : α} (h : (x, e) ∈ es) : zS es x = some e := by
 induction es with
 | nil => simp at h
 | cons p es ih =>
  simp only [List.map_cons, List.nodup_cons] at hn
  unfold zS at *
  rw [List.find?_cons]
  rcases List.mem_cons.1 h with rfl | h
  ·simp
  ·have hne : p.1 ≠ x := fun e' => hn.1 (List.mem_map.2 ⟨(x, e), h, e'.symm⟩)
   have : (p.1 == x) = false := beq_eq_false_iff_ne.2 hne
   rw [this]
   exact ih hn.2 h
theorem yQ.nodup {w : World} {c m : Nat} {room : Int} {es : List (Int × Ent)} (h : yQ w c m room es) : (es.map (·.1)).Nodup := by
 obtain ⟨_, arr, clk, _, ho⟩ := h
 have := ho.keys
 unfold tag at this
 rw [List.map_map] at this
 exact this
def zCy : Rec := ⟨0, 0, 0, sec []⟩
theorem QN : zc Tryz.prog 246 = recV zCy := by kernel_rfl
theorem zH9 (w : World) : (Instr.build 246 #[]).run Tryz.prog w = .ok (.agg (recV zCy)) w := run_build _ _ _ _ (by kernel_rfl)
theorem gH (r : Rec) : ∀ v ∈ (recV r).toList, oneV v = true := by intro v hv; exact ZI r v (by simpa [recV] using hv)
theorem zAl {w : World} {base : Nat} {T : TypeId} {p : Option Addr} {l c : Nat} {rs : List Rec} (h : Own w base T 19 p l c (rs.flatMap recL)) {i : Int} {r : Rec} (h0 : 0 ≤ i) (hi : rs[i.toNat]? = some r) {K : Array Value → Prop} (hK : K (recV r)) :
  IdxS p l i 19 fun b o => LdA 19 b o (At w) K := by
 have hlr : l = rs.length := by
  have := h
  rw [yL] at this
  simpa using this.count (y8 rs) (by decide)
 have hlt := (List.getElem?_eq_some_iff.1 hi).1
 have h2 := h
 rw [yL] at h2
 obtain ⟨b, rfl, hc⟩ := h2.at (y8 rs) (by decide) (i := i.toNat) (r := recL r) (by simp [hi])
 refine ⟨b, 0, rfl, h0, by omega, recV r, rfl, ?_, hK⟩
 rintro w' ⟨d, rfl⟩ j hj
 rw [Nat.zero_add]
 have := hc j hj
 rw [show (w.dr d).cell? ⟨b, i.toNat * 19 + j, none⟩ = w.cell? ⟨b, i.toNat * 19 + j, none⟩ from rfl, this]
 simp [recV]
theorem zDm {c m : Nat} {room : Int} {es : List (Int × Ent)} {w : World} {R : Value → World → Prop} (h : yQ w c m room es) (hlen : es.length ≤ 1000000)
  (h0 : ∀ w', es = [] → Keep (fun _ => False) w w' → R (.tuple #[.agg (recV zCy), .int .i64 10]) w')
  (h1 : ∀ p w', p ∈ es → (∀ q ∈ es, ¬ cmpR (vS q) (vS p) < 0) → Keep (fun _ => False) w w' → R (.tuple #[.agg (recV (vS p)), .int .i64 0]) w') :
  zB Tryz.prog 227 #[.pointer (some ⟨c, 0, none⟩)] w R := by
 apply W7
 unfold j0
 rw [y7]
 have hb := Has.new w (.cells (zc Tryz.prog 246) 246)
 have k0 := Keep.new (fun _ => False) w (.cells (zc Tryz.prog 246) 246)
 have hC := h.keep k0 (by simp) (by simp)
 generalize w.alloc (.cells (zc Tryz.prog 246) 246) = w0 at *
 refine MZ hC hlen fun p l cp rs w1 hrp hrs ho k1 => ?_
 simp only [zC]
 have hlr : l = rs.length := by
  have := ho
  rw [yL] at this
  simpa using this.count (y8 rs) (by decide)
 have hle : rs.length = es.length := by have := hrp.length_eq; simpa using this
 have hb1 := k1.has hb (by simp)
 have k01 := k0.trans k1
 cases rs with
 | nil =>
  have hes : es = [] := List.eq_nil_of_length_eq_zero (by rw [← hle]; rfl)
  subst hlr
  rw [show ((((([] : List Rec).length : Nat) : Int)) == 0) = true from rfl, zT]
  refine zV (fun d => zH9 _) ?_
  simp only [zJ]
  refine ⟨rfl, yB hb1 rfl (by rw [QN]; rfl) (gH _) ?_⟩
  refine zQ (hb1.zL _) rfl ?_
  simp only [zF]
  exact h0 _ hes (k01.upd (by omega) _)
 | cons r rs =>
  have hz : (((l : Nat) : Int) == 0) = false := by simp [hlr]; omega
  rw [hz, zH]
  refine zAl ho (by decide) (r := r) rfl ?_
  refine yB hb1 rfl (by rw [QN]; rfl) (gH _) ?_
  refine zQ (hb1.zL _) rfl ?_
  simp only [zF]
  have hr : r ∈ es.map vS := hrp.subset (by simp)
  obtain ⟨q, hq, rfl⟩ := List.mem_map.1 hr
  refine h1 q _ hq (fun q' hq' => ?_) (k01.upd (by omega) _)
  have : vS q' ∈ vS q :: rs := hrp.symm.subset (List.mem_map.2 ⟨q', hq', rfl⟩)
  rcases List.mem_cons.1 this with e | hm
  ·rw [e, GX]; omega
  ·exact (List.pairwise_cons.1 hrs).1 _ hm
def jQ (es : List (Int × Ent)) (lba version : Int) : Int := match zS es lba with
 | none => 10
 | some e => if e.2 > version then 12 else 0
theorem zAb {c m : Nat} {room lba version : Int} {es : List (Int × Ent)} {w : World} {R : Value → World → Prop} (h : yQ w c m room es)
  (hK : ∀ w', Keep (fun k => k = m) w w' → yQ w' c m room (if jQ es lba version = 0 then del es lba else es) → R (.int .i64 (jQ es lba version)) w') :
  zB Tryz.prog 228 #[.pointer (some ⟨c, 0, none⟩), .int .i64 lba, .int .u64 version] w R := by
 apply XB
 unfold jC
 refine LD h fun w1 k1 => ?_
 have go : ∀ (f : Sec), ∃ w2, (w1.alloc (.cells (zc Tryz.prog 37) 37)).upd w1.heap.size (.cells (secV f) 37) = w2 ∧ Keep (fun _ => False) w w2 := by
  intro f
  exact ⟨_, rfl, (k1.alloc _).upd (by have := k1.size; omega) _⟩
 cases hl : zS es lba with
 | none =>
  have e : jQ es lba version = 10 := by simp [jQ, hl]
  rw [e] at hK
  simp only [LS, zJ, zA]
  refine ⟨rfl, ?_⟩
  rw [y7]
  refine yB (Has.new _ _) rfl (by rw [vQ]; rfl) (yS _) ?_
  obtain ⟨w2, hw, k2⟩ := go (sec [])
  rw [hw, show ((10 : Int) != 0) = true from rfl, zT]
  simp only [zF]
  exact hK w2 (k2.mono fun _ h => h.elim) (by simpa using h.keep k2 (by simp) (by simp))
 | some e =>
  simp only [LS, zJ, zA]
  refine ⟨rfl, ?_⟩
  rw [y7]
  refine yB (Has.new _ _) rfl (by rw [vQ]; rfl) (yS _) ?_
  obtain ⟨w2, hw, k2⟩ := go e.1
  rw [hw, show ((0 : Int) != 0) = false from rfl, zH]
  have h2 := h.keep k2 (by simp) (by simp)
  refine zN (fun hv => ?_) (fun hv => ?_)
  ·have hv' : e.2 > version := by simpa using hv
   have ec : jQ es lba version = 12 := by simp only [jQ, hl]; rw [if_pos hv']
   rw [ec] at hK
   simp only [zF]
   exact hK w2 (k2.mono fun _ h => h.elim) (by simpa using h2)
  ·have hv' : ¬ e.2 > version := by simpa using hv
   have ec : jQ es lba version = 0 := by simp only [jQ, hl]; rw [if_neg hv']
   rw [ec] at hK
   refine zG (v := .map (some m)) h2.1 rfl ?_
   simp only [vZ]
   obtain ⟨arr, clk, hr, ho⟩ := zCu (P := Tryz.prog) (ty := 0) qH kN h2.2 lba
   refine ⟨_, _, hr, ?_⟩
   rw [zNa] at ho
   simp only [zF]
   obtain ⟨arr0, clk0, hm, _⟩ := h2.2
   have k3 : Keep (fun k => k = m) w w2 := k2.mono fun _ h => h.elim
   refine hK _ (k3.upd (k := m) (fun _ => rfl) _) ?_
   rw [if_pos rfl]
   exact ⟨h2.1.upd (h2.1.ne hm (by simp)), arr, clk, hm.zL _, ho⟩
def IsD (es : List (Int × Ent)) (D : List Rec) : Prop := D.Perm (es.map vS) ∧ zAt D
theorem zDh {rs : List Rec} (h : (rs.map (·.lba)).Nodup) {a b : Rec} (ha : a ∈ rs) (hb : b ∈ rs) (e : a.lba = b.lba) : a = b := by
 induction rs with
 | nil => simp at ha
 | cons r rs ih =>
  simp only [List.map_cons, List.nodup_cons] at h
  rcases List.mem_cons.1 ha with rfl | ha2
  ·rcases List.mem_cons.1 hb with rfl | hb2
   ·rfl
   ·exact absurd (List.mem_map.2 ⟨b, hb2, e.symm⟩) h.1
  ·rcases List.mem_cons.1 hb with rfl | hb2
   ·exact absurd (List.mem_map.2 ⟨a, ha2, e⟩ : b.lba ∈ List.map (fun x => x.lba) rs) h.1
   ·exact ih h.2 ha2 hb2
theorem zPm {es : List (Int × Ent)} (hn : (es.map (·.1)).Nodup) {C D : List Rec} (hc : IsD es C) (hd : IsD es D) : C = D := by
 have hl : (C.map (·.lba)).Nodup := by
  have h1 : (C.map (·.lba)).Perm ((es.map vS).map (·.lba)) := hc.1.map _
  refine h1.nodup_iff.2 ?_
  rw [List.map_map]
  exact hn
 refine List.Perm.eq_of_pairwise (le := fun r s => ¬ cmpR s r < 0) ?_ hc.2 hd.2 (hc.1.trans hd.1.symm)
 intro r s hr hs h1 h2
 rw [GX] at h1 h2
 have hm : s ∈ C := (hc.1.trans hd.1.symm).symm.subset hs
 have hlba : r.lba = s.lba := by omega
 exact zDh hl hr hm hlba
section calls
variable {w : World} {q : PB} {s : PS} {R : Value → World → Prop}
theorem zBi (h : PairAt w q s) (hlen : s.es.length ≤ 1000000) (hK : ∀ D p l c w', IsD s.es D → OwnL rLay w' w.heap.size 246 p l c D → Keep (fun _ => False) w w' → R (.slice p l c) w') : zB Tryz.prog 236 #[.pointer (some ⟨q.p, 0, none⟩)] w R := by
 apply XA
 unfold jB
 refine zG (v := .pointer (some ⟨q.c, 0, none⟩)) h.cells rfl ?_
 refine zO.2 ?_
 refine MZ h.cache hlen fun p l c rs w' hp hb ho k => ?_
 exact zC.2 (zF.2 (hK rs p l c w' ⟨hp, hb⟩ ho k))
def epR (s : PS) : Rec := ⟨6, IntKind.wrap .u64 s.epoch, 0, sec []⟩
theorem zIn (h : PairAt w q s) (hlen : s.es.length ≤ 1000000) (hK : ∀ D p l c w', IsD s.es D → OwnL rLay w' w.heap.size 246 p l c (epR s :: D) → Keep (fun _ => False) w w' → R (.slice p l c) w') : zB Tryz.prog 171 #[.pointer (some ⟨q.p, 0, none⟩)] w R := by
 apply Y8
 unfold kZ
 intro d
 have kd := Keep.drew (fun _ => False) w d
 have h0 := h.keep kd
 refine ⟨fun w' => Has w' q.p (.cells (NQ q s) 153 (0, 0)), h0.cells, ?_⟩
 refine yO (v := .int .u32 s.epoch) (fun w' hw => ⟨_, _, _, hw, rfl⟩) ?_
 refine zA.2 ?_
 refine ⟨.agg (recV (epR s)), fun w' _ => run_build _ _ _ _ (by kernel_rfl), zJ.2 ⟨rfl, ?_, ?_⟩⟩
 ·refine ⟨_, _, zH7 (epR s) (w.dr d), zC.2 ?_⟩
  have k1 := Keep.new (fun _ => False) (w.dr d) (.cells (recV (epR s)) 246)
  have h1 := Has.new (w.dr d) (.cells (recV (epR s)) 246)
  have z1 : ((w.dr d).alloc (.cells (recV (epR s)) 246)).heap.size = w.heap.size + 1 := by simp
  generalize (w.dr d).alloc (.cells (recV (epR s)) 246) = w1 at *
  have o1 : OwnL rLay w1 w.heap.size 246 (some ⟨w.heap.size, 0, none⟩) 1 1 [epR s] := OwnL.mk (xs := [epR s]) (Nat.le_refl _) h1 (by simp [maxLen]) (by rw [rLay.Q2]; rfl)
  have p1 := h0.keep k1
  refine ⟨p1.cells, ?_⟩
  refine zBi p1 hlen fun D p l c w2 hD o2 k2 => ?_
  refine zC.2 ⟨k2.has p1.cells (by simp), ?_⟩
  have hl2 := o2.length
  have hD2 : D.length = s.es.length := by have := hD.1.length_eq; simpa using this
  have z2 := k2.size
  obtain ⟨p5, c5, w5, hr, o5, k5, hp5⟩ := xD zMc (o1.keep k2 (by simp)) o2.sl (ty := 113) (c2 := c) (by omega) (by simp only [maxLen]; omega) (by omega)
  refine ⟨_, _, hr, zC.2 ⟨k5.has (k2.has p1.cells (by simp)) (fun e => ?_), zF.2 ?_⟩⟩
  ·injection e with e
   injection e with e
   have := h.cells.lt
   omega
  ·refine hK D _ _ _ w5 hD o5 ?_
   exact ((kd.trans k1).trans k2).trans' k5 fun i hi e => by
    injection e with e
    injection e with e
    omega
 ·refine zBi h0 hlen fun D p l c w2 hD o2 k2 => ?_
  refine zC.2 ⟨k2.has h0.cells (by simp), ?_⟩
  have hl2 := o2.length
  have hD2 : D.length = s.es.length := by have := hD.1.length_eq; simpa using this
  have z2 : w.heap.size ≤ w2.heap.size := k2.size
  refine ⟨_, _, zH7 (epR s) w2, zC.2 ?_⟩
  have k1 := Keep.new (fun _ => False) w2 (.cells (recV (epR s)) 246)
  have h1 := Has.new w2 (.cells (recV (epR s)) 246)
  have z1 : (w2.alloc (.cells (recV (epR s)) 246)).heap.size = w2.heap.size + 1 := by simp
  generalize w2.alloc (.cells (recV (epR s)) 246) = w3 at *
  have o1 : OwnL rLay w3 w2.heap.size 246 (some ⟨w2.heap.size, 0, none⟩) 1 1 [epR s] := OwnL.mk (xs := [epR s]) (Nat.le_refl _) h1 (by simp [maxLen]) (by rw [rLay.Q2]; rfl)
  have hc3 := (k2.trans k1).has h0.cells (by simp)
  refine ⟨hc3, ?_⟩
  obtain ⟨p5, c5, w5, hr, o5, k5, hp5⟩ := xD zMc (o1.y5 z2) (o2.keep k1 (by simp)).sl (ty := 113) (c2 := c) (by omega) (by simp only [maxLen]; omega) (by omega)
  refine ⟨_, _, hr, zC.2 ⟨k5.has hc3 (fun e => ?_), zF.2 ?_⟩⟩
  ·injection e with e
   injection e with e
   have := h.cells.lt
   omega
  ·refine hK D _ _ _ w5 hD o5 ?_
   exact ((kd.trans k2).trans k1).trans' k5 fun i hi e => by
    injection e with e
    injection e with e
    omega
def ZU (sz : Int) (rs : List Rec) (f : Bool) (s : PS) : Int × PS :=
 match f with
 | false => let r := HL s.pw sz s.xa rs; (r.1, { s with pw := r.2.1, xa := r.2.2 })
 | true => let r := HL s.pw sz s.xb rs; (r.1, { s with pw := r.2.1, xb := r.2.2 })
theorem KH {pw : Pow} {sz : Int} {bs : List Int} {rs : List Rec} (h : (bs.length : Int) ≤ sz) : ((HL pw sz bs rs).2.2.length : Int) ≤ sz := by
 unfold HL
 split
 ·exact h
 ·split
  ·exact h
  ·split
   ·exact h
   ·show ((rs.flatMap zY).length : Int) ≤ sz
    rw [KK]; omega
theorem zIo (h : PairAt w q s) {rs : List Rec} {f : Bool} {lp : Option Addr} {ll lc : Nat} (hrs : SlL rLay w lp ll rs) (hx : ∀ x ∈ rs, yH x = true) (hll : ll ≤ 1000000) (hK : ∀ w', PairAt w' q (ZU q.sz rs f s).2 → Keep (yE q w) w w' → R (.int .i64 (ZU q.sz rs f s).1) w') :
  zB Tryz.prog 170 #[.pointer (some ⟨ramB q f, 0, none⟩), .slice lp ll lc] w R := by
 obtain ⟨pa, la, ca, pb, lb, cb, ha, hb, hne⟩ := h.rams
 have inj : ∀ {k : Nat} {cs cs' : Array Value} {t t' : TypeId} {f f' : Nat × Nat}, Has w k (.cells cs t f) → Has w k (.cells cs' t' f') → t = t' := by
  intro k cs cs' t t' f f' h1 h2
  have := h1.inj h2
  simp only [Obj.cells.injEq] at this
  exact this.2.1
 have nmap : ∀ {k : Nat} {cs : Array Value} {t : TypeId} {f : Nat × Nat}, Has w k (.cells cs t f) → k ≠ q.mp := by
  intro k cs t f h1 e
  obtain ⟨_, arr, clk, hm, _⟩ := h.cache
  subst e
  cases h1.inj hm
 have c1 : ∀ {r : Nat} {p : Option Addr} {l c : Nat} {bs : List Int}, RaAt w q.base q.m r q.sz p l c bs → ∀ {w' : World}, Keep (fun k => k = q.m ∨ k = r) w w' → (r = q.a ∨ r = q.b) →
   Keep (yE q w) w w' ∧ Has w' q.p (.cells (NQ q s) 153 (0, 0)) ∧ yQ w' q.c q.mp q.room s.es := by
  intro r p l c bs hr w' k hrr
  have hS : ∀ {k' : Nat} {cs : Array Value} {t : TypeId} {f : Nat × Nat}, Has w k' (.cells cs t f) → t ≠ 209 → t ≠ 214 → ¬ (k' = q.m ∨ k' = r) := by
   intro k' cs t f hk h1 h2 hor
   rcases hor with e | e
   ·subst e; exact h1 (inj hk (show Has w _ _ from h.main))
   ·subst e; exact h2 (inj hk hr.cells)
  have hMap : ¬ (q.mp = q.m ∨ q.mp = r) := by
   rintro (e | e)
   ·exact nmap (show Has w _ _ from h.main) e.symm
   ·exact nmap hr.cells e.symm
  refine ⟨k.mono ?_, k.has h.cells (hS h.cells (by decide) (by decide)), h.cache.keep k (hS h.cache.1 (by decide) (by decide)) hMap⟩
  rintro k' (e | e)
  ·exact Or.inr (Or.inr (Or.inl e))
  ·rcases hrr with h1 | h1
   ·exact Or.inr (Or.inr (Or.inr (Or.inl (e.trans h1))))
   ·exact Or.inr (Or.inr (Or.inr (Or.inr (Or.inl (e.trans h1)))))
 have other : ∀ {r r' : Nat} {p p' : Option Addr} {l l' c c' : Nat} {bs bs' : List Int}, RaAt w q.base q.m r q.sz p l c bs → RaAt w q.base q.m r' q.sz p' l' c' bs' → r ≠ r' →
   ∀ {w' : World}, Keep (fun k => k = q.m ∨ k = r) w w' → RaAt w' q.base q.m r' q.sz p' l' c' bs' := by
  intro r r' p p' l l' c c' bs bs' hr hr' hn w' k
  refine hr'.keep k ?_ ?_
  ·rintro (e | e)
   ·subst e; exact absurd (inj hr'.cells (show Has w _ _ from h.main)) (by decide)
   ·exact hn e.symm
  ·rintro k' hk (e | e)
   ·subst e; exact vW hr'.row (show Has w _ _ from h.main) (by decide) hk
   ·subst e; exact vW hr'.row hr.cells (by decide) hk
 cases f
 ·show zB Tryz.prog 170 #[.pointer (some ⟨q.a, 0, none⟩), .slice lp ll lc] w R
  refine zF1 ha h.main hrs hx h.form.1 h.form.2 hll h.hb fun p' l' c' w' hr hm hp k => ?_
  obtain ⟨kf, hc, hca⟩ := c1 ha k (Or.inl rfl)
  refine hK w' ⟨hc, hca, hm, ⟨p', l', c', pb, lb, cb, hr, other ha hb h.ne k, ?_⟩, h.ne, ⟨KH h.fit.1, h.fit.2⟩, h.form, h.low⟩ kf
  intro k' hk' hpb
  rcases hp with e | e
  ·exact hne k' (e ▸ hk') hpb
  ·have := e k' hk'
   have := (hb.row.lt hpb).2
   omega
 ·show zB Tryz.prog 170 #[.pointer (some ⟨q.b, 0, none⟩), .slice lp ll lc] w R
  refine zF1 hb h.main hrs hx h.form.1 h.form.2 hll h.hb fun p' l' c' w' hr hm hp k => ?_
  obtain ⟨kf, hc, hca⟩ := c1 hb k (Or.inr rfl)
  refine hK w' ⟨hc, hca, hm, ⟨pa, la, ca, p', l', c', other hb ha h.ne.symm k, hr, ?_⟩, h.ne, ⟨h.fit.1, KH h.fit.2⟩, h.form, h.low⟩ kf
  intro k' hpa hk'
  rcases hp with e | e
  ·exact hne k' hpa (e ▸ hk')
  ·have := e k' hk'
   have := (ha.row.lt hpa).2
   omega
def zPu (s : PS) (f : Bool) (v : Bool) : PS := { s with ua := cond f s.ua v, ub := cond f v s.ub }
theorem zP5 (h : PairAt w q s) (f v : Bool) {K : World → Prop} (hK : ∀ w', PairAt w' q (zPu s f v) → Keep (yE q w) w w' → K w') : StV q.p (3 + Int.toNat (zZ f) * 1) (.bool v) w K := by
 cases f
 ·refine xZ (o := 3) h.cells (by show 3 < 7; decide) rfl ?_
  exact hK _ (h.setC (e' := s.es) (la := s.last) (ep := s.epoch) (ua := v) (ub := s.ub) rfl) ((Keep.one w q.p _).mono fun _ e => Or.inl e)
 ·refine xZ (o := 4) h.cells (by show 4 < 7; decide) rfl ?_
  exact hK _ (h.setC (e' := s.es) (la := s.last) (ep := s.epoch) (ua := s.ua) (ub := v) rfl) ((Keep.one w q.p _).mono fun _ e => Or.inl e)
def zG1 (s : PS) (f : Bool) : Int × PS := if s.ua = false ∨ s.ub = false then (13, s) else (0, zPu s f false)
theorem zBg (h : PairAt w q s) (f : Bool) (hK : ∀ w', PairAt w' q (zG1 s f).2 → Keep (yE q w) w w' → R (.int .i64 (zG1 s f).1) w') : zB Tryz.prog 143 #[.pointer (some ⟨q.p, 0, none⟩), .int .i64 (zZ f)] w R := by
 apply Y9
 unfold jA
 refine TT _ ?_
 refine zM.2 ?_
 have e : (!(decide (zZ f = 0) || decide (zZ f = 1))) = false := by cases f <;> rfl
 rw [e]
 refine (zH (p := _)).2 ⟨by decide, ?_⟩
 refine zG (v := .bool s.ua) h.cells rfl (zM.2 ?_)
 unfold zG1 at hK
 refine zN (fun hc => ?_) (fun hc => ?_)
 ·have hc : s.ua = false := by simpa using hc
  rw [if_pos (Or.inl hc)] at hK
  exact zF.2 (hK w h (Keep.refl _ _))
 have hua : s.ua = true := by simpa using hc
 refine ⟨by decide, ?_⟩
 refine zG (v := .bool s.ub) h.cells rfl (zM.2 ?_)
 refine zN (fun hc => ?_) (fun hc => ?_)
 ·have hc : s.ub = false := by simpa using hc
  rw [if_pos (Or.inr hc)] at hK
  exact zF.2 (hK w h (Keep.refl _ _))
 have hub : s.ub = true := by simpa using hc
 rw [if_neg (by simp [hua, hub])] at hK
 have hb2 : 0 ≤ zZ f ∧ zZ f < 2 := by cases f <;> decide
 refine ⟨hb2, ?_⟩
 exact zP5 h f false fun w' p' k' => zF.2 (hK w' p' k')
def kC (sz : Int) (rs : List Rec) : List Bool → PS → Int × PS
 | [], s => (0, s)
 | f :: fs, s => if (ZU sz rs f s).1 ≠ 0 then ZU sz rs f s else kC sz rs fs (ZU sz rs f s).2
theorem MH {sz : Int} {rs : List Rec} {f : Bool} {s : PS} : (ZU sz rs f s).2.es = s.es ∧ (ZU sz rs f s).2.epoch = s.epoch := by cases f <;> exact ⟨rfl, rfl⟩
theorem zD3 (h : PairAt w q s) (hlen : s.es.length ≤ 999999) (hg : ∀ e ∈ s.es, 0 ≤ e.1 ∧ e.1 ≤ 2147483647) {D : List Rec} (hD : IsD s.es D) (hK : ∀ w', PairAt w' q (kC q.sz (epR s :: D) (upS s false) s).2 → Keep (yE q w) w w' → R (.int .i64 (kC q.sz (epR s :: D) (upS s false) s).1) w') : zB Tryz.prog 168 #[.pointer (some ⟨q.p, 0, none⟩)] w R := by
 apply ZA
 unfold uX
 refine zMe h false fun p l c w1 o1 k1 => ?_
 refine zC.2 ?_
 have h1 := h.keep k1
 have hl := o1.length
 rw [List.length_map] at hl
 generalize upS s false = fs at *
 have hDl : D.length = s.es.length := by have := hD.1.length_eq; simpa using this
 have hgood : ∀ x ∈ epR s :: D, yH x = true := by
  intro x hx
  rcases List.mem_cons.1 hx with rfl | hx
  ·rfl
  ·obtain ⟨e, he, rfl⟩ := List.mem_map.1 (hD.1.subset hx)
   have := hg e he
   unfold yH vS
   simp only [Bool.and_eq_true, decide_eq_true_eq]
   omega
 have hnd : (s.es.map (·.1)).Nodup := h.cache.nodup
 refine zP (σ := Int × Unit) (fun st w' => ∃ (k : Nat) (s' : PS), st.1 = (k : Int) ∧ k ≤ l ∧ PairAt w' q s' ∧ s'.es = s.es ∧ s'.epoch = s.epoch ∧ kC q.sz (epR s :: D) (fs.drop k) s' = kC q.sz (epR s :: D) fs s ∧ Keep (yE q w) w w' ∧ OwnL pLay w' w.heap.size 104 p l c (fs.map (ramB q)))
  (fun st _ => (l - st.1).toNat) ⟨0, s, rfl, by omega, h1, rfl, rfl, rfl, yE.none k1, o1⟩ ?_
 rintro _ ⟨i, u⟩ w3 ⟨k, s', hi, hk, h3, hes, hep, he, k3, o3⟩
 simp only at hi ⊢
 subst hi
 refine zN (fun hc => ?_) (fun hc => ?_)
 ·have hc : k < l := by simpa using hc
  obtain ⟨g, hg'⟩ : ∃ g, fs[k]? = some g := ⟨_, List.getElem?_eq_getElem (by omega)⟩
  refine o3.ld0 (i := (k : Int)) (n := 1) (x := ramB q g) (v := .pointer (some ⟨ramB q g, 0, none⟩)) rfl (by omega) (by simp [hg']) rfl ?_
  refine zO.2 ?_
  refine zIn h3 (by rw [hes]; omega) fun D' p' l' c' w4 hD' o4 k4 => ?_
  refine zC.2 ?_
  have eD : D' = D := zPm hnd (by rw [← hes]; exact hD') hD
  have eE : epR s' = epR s := by unfold epR; rw [hep]
  rw [eD, eE] at o4
  have h4 := h3.keep k4
  have hl4 := o4.length
  refine zIo h4 o4.sl hgood (by rw [hl4, List.length_cons]; omega) fun w5 p5 k5 => ?_
  refine zA.2 ?_
  have ed : fs.drop k = g :: fs.drop (k + 1) := by
   rw [List.drop_eq_getElem_cons (by omega)]
   congr 1
   have := List.getElem?_eq_getElem (l := fs) (i := k) (by omega)
   rw [hg'] at this
   exact (Option.some.inj this).symm
  rw [ed] at he
  have hst : kC q.sz (epR s :: D) (g :: fs.drop (k + 1)) s' = if (ZU q.sz (epR s :: D) g s').1 ≠ 0 then ZU q.sz (epR s :: D) g s' else kC q.sz (epR s :: D) (fs.drop (k + 1)) (ZU q.sz (epR s :: D) g s').2 := rfl
  rw [hst] at he
  have k35 := yE.trans (yE.trans k3 (yE.none k4)) k5
  refine zN (fun hz => ?_) (fun hz => ?_)
  ·have hz : (ZU q.sz (epR s :: D) g s').1 ≠ 0 := by simpa using hz
   rw [if_pos hz] at he
   rw [← he] at hK
   exact zF.2 (hK w5 p5 k35)
  ·have hz : (ZU q.sz (epR s :: D) g s').1 = 0 := by simpa using hz
   rw [if_neg (by simp [hz])] at he
   have ek : IntKind.wrap .i64 ((k : Int) + 1) = ((k + 1 : Nat) : Int) := by
    have : l ≤ maxLen := Nat.le_trans o3.cap.1 o3.cap.2
    simp only [maxLen] at this
    rw [zW (by omega) (by omega)]; omega
   refine ⟨_, by show ((l : Int) - IntKind.wrap .i64 ((k : Int) + 1)).toNat < ((l : Int) - (k : Int)).toNat; rw [ek]; omega, ⟨k + 1, _, ek, by omega, p5, MH.1.trans hes, MH.2.trans hep, he, k35, ?_⟩, rfl⟩
   refine (o3.keep k4 (by simp)).keep k5 fun k' hk' => ?_
   have o34 := o3.keep k4 (by simp)
   rcases Own.cases o34 with ⟨h0, _⟩ | ⟨b', cur, h0, _, hg', _⟩
   ·rw [h0] at hk'; cases hk'
   ·rw [h0] at hk'; cases hk'
    intro hf
    have := yE.has (w' := w4.upd k' (.cells #[] 0 (0, 0))) (Keep.mono (Keep.one w4 k' (.cells #[] 0 (0, 0))) fun _ e => e ▸ hf) hg' (by decide) h4 (by decide) (by decide) (by decide)
    have h5 : Has (w4.upd k' (.cells #[] 0 (0, 0))) k' (.cells #[] 0 (0, 0)) := hg'.zL _
    have h6 := this.inj h5
    simp only [Obj.cells.injEq] at h6
    exact absurd h6.2.1 (by decide)
 ·have hc : k = l := by
   have : ¬ ((k : Int) < (l : Int)) := by simpa using hc
   omega
  subst hc
  have : fs.drop k = [] := List.drop_of_length_le (by omega)
  rw [this] at he
  have he : (0, s') = kC q.sz (epR s :: D) fs s := he
  rw [← he] at hK
  exact zF.2 (hK w3 h3 k3)
end calls
end Go.Proofs
namespace Go.Proofs
open Go.Ev
set_option maxRecDepth 100000
def WT (epoch : Int) (side : Int) (w : World) (R : Value → World → Prop) : Prop :=
 Req ((side != 0) = (side != 0)) (Req ((side != 0) = (side != 0)) (Cb (cond (side != 0) (side != 1) false) (Ret [] (R (.tuple #[.int .u32 0, .int .i64 2]) w)) (Req ((2 :
 Int) ≠ 0) (Cb (Int.tmod (IntKind.wrap .u64 ((IntKind.wrap .u64 epoch) + 1)) 2 != (IntKind.wrap .u64 side)) (Cb (decide (IntKind.wrap .u64 ((IntKind.wrap .u64
 ((IntKind.wrap .u64 epoch) + 1)) + 1) > 4294967295)) (Ret [] (R (.tuple #[.int .u32 0, .int .i64 14]) w)) (Ret [] (R (.tuple #[.int .u32 (IntKind.wrap .u32 (IntKind.wrap
 .u64 ((IntKind.wrap .u64 ((IntKind.wrap .u64 epoch) + 1)) + 1))), .int .i64 0]) w))) (Cb (decide (IntKind.wrap .u64 ((IntKind.wrap .u64 epoch) + 1) > 4294967295)) (Ret []
 (R (.tuple #[.int .u32 0, .int .i64 14]) w)) (Ret [] (R (.tuple #[.int .u32 (IntKind.wrap .u32 (IntKind.wrap .u64 ((IntKind.wrap .u64 epoch) + 1))), .int .i64 0]) w)))))))
theorem OT {epoch : Int} {side : Int} {w : World} {R : Value → World → Prop} (h : WT epoch side w R) : zB Tryz.prog 145 #[.int .u32 epoch, .int .i64 side] w R := by
 exact zE (args := [.int .u32 epoch, .int .i64 side]) (zR [] [] [] [] []) zD Tryz.func145 rfl rfl (by kernel_rfl) h
end Go.Proofs
namespace Go.Proofs
open Go Go.Ev
set_option maxRecDepth 100000
def QZ (n : Int) : Prop := n = 0 ∨ n = 1
instance (n : Int) : Decidable (QZ n) := inferInstanceAs (Decidable (_ ∨ _))
theorem zQn : QZ 0 := Or.inl rfl
theorem zQm : QZ 1 := Or.inr rfl
def M7 (e side : Int) : Int × Int :=
 if ¬ QZ side then (0, 2) else
  let x := if (e + 1) % 2 = side then e + 1 else e + 2
  if 4294967295 < x then (0, 14) else (x, 0)
theorem TY {e side : Int} {w : World} {R : Value → World → Prop} (h0 : 0 ≤ e) (h1 : e ≤ 4294967295) (hs : -9223372036854775808 ≤ side ∧ side ≤ 9223372036854775807) (hK : R (.tuple #[.int .u32 (M7 e side).1, .int .i64 (M7 e side).2]) w) :
  zB Tryz.prog 145 #[.int .u32 e, .int .i64 side] w R := by
 apply OT
 unfold WT
 simp only [zKf, zO0]
 unfold M7 at hK
 by_cases hn : QZ side
 ·rw [if_neg (by simpa using hn)] at hK
  have e0 : (cond (side != 0) (side != 1) false) = false := by rcases hn with rfl | rfl <;> rfl
  have w1 : IntKind.wrap .u64 e = e := vG (by omega) (by omega)
  have w2 : IntKind.wrap .u64 (e + 1) = e + 1 := vG (by omega) (by omega)
  have w3 : IntKind.wrap .u64 side = side := vG (by rcases hn with rfl | rfl <;> omega) (by rcases hn with rfl | rfl <;> omega)
  have w4 : IntKind.wrap .u64 (e + 1 + 1) = e + 2 := by rw [vG (by omega) (by omega)]; omega
  rw [e0, zH]
  refine ⟨by decide, ?_⟩
  simp only [w1, w2, w3, w4, Int.tmod_eq_emod_of_nonneg (show 0 ≤ e + 1 by omega)]
  refine zN (fun hc => ?_) (fun hc => ?_)
  ·have hx : (if (e + 1) % 2 = side then e + 1 else e + 2) = e + 2 := if_neg (by simpa using hc)
   simp only [hx] at hK
   refine zN (fun hg => ?_) (fun hg => ?_)
   ·have hg' : 4294967295 < e + 2 := by simpa using hg
    rw [if_pos hg'] at hK; simpa using hK
   ·have hg' : ¬ 4294967295 < e + 2 := by simpa using hg
    rw [if_neg hg'] at hK
    rw [TE (by omega) (by omega)]; simpa using hK
  ·have hx : (if (e + 1) % 2 = side then e + 1 else e + 2) = e + 1 := if_pos (by simpa using hc)
   simp only [hx] at hK
   refine zN (fun hg => ?_) (fun hg => ?_)
   ·have hg' : 4294967295 < e + 1 := by simpa using hg
    rw [if_pos hg'] at hK; simpa using hK
   ·have hg' : ¬ 4294967295 < e + 1 := by simpa using hg
    rw [if_neg hg'] at hK
    rw [TE (by omega) (by omega)]; simpa using hK
 ·rw [if_pos hn] at hK
  have e0 : (cond (side != 0) (side != 1) false) = true := by
   unfold QZ at hn
   have h1 : (side != 0) = true := by simp; omega
   have h2 : (side != 1) = true := by simp; omega
   rw [h1, h2]; rfl
  rw [e0, zT]
  simpa using hK
def X7 (sz : Int) (s : PS) (lba v : Int) : Int × PS :=
 if (getV s.es lba).2.2 ≠ 0 then ((getV s.es lba).2.2, s) else if v < (getV s.es lba).2.1 then (12, s)
 else
  let r := gR sz ⟨2, v, lba, sec []⟩ false s
  if r.1 ≠ 0 then r else (jQ s.es lba v, { r.2 with es := if jQ s.es lba v = 0 then del s.es lba else s.es })
section calls
variable {w : World} {q : PB} {s : PS} {R : Value → World → Prop}
theorem PairAt.zMn {w' : World} {es : List (Int × Ent)} (h : PairAt w q s) (hc : yQ w' q.c q.mp q.room es) (k : Keep (fun k => k = q.mp) w w') : PairAt w' q { s with es := es } := by
 obtain ⟨pa, la, ca, pb, lb, cb, ha, hb, hne⟩ := h.rams
 have nm : ∀ {k : Nat} {cs : Array Value} {t : TypeId} {f : Nat × Nat}, Has w k (.cells cs t f) → ¬ k = q.mp := by
  intro k cs t f h1 e
  obtain ⟨_, arr, clk, hm, _⟩ := h.cache
  subst e
  cases h1.inj hm
 have rw_ : ∀ {p : Option Addr} {l c : Nat} {bs : List Int}, OwnL zU w q.base 5 p l c bs → ∀ k, p = some ⟨k, 0, none⟩ → ¬ k = q.mp := by
  intro p l c bs ho k hk
  rcases Own.cases ho with ⟨h0, _⟩ | ⟨b', cur, h0, hb', hg, _⟩
  ·rw [h0] at hk; cases hk
  ·rw [h0] at hk; cases hk; exact nm hg
 exact ⟨k.has h.cells (nm h.cells), hc, k.has (show Has w _ _ from h.main) (nm h.main), ⟨pa, la, ca, pb, lb, cb, ha.keep k (nm ha.cells) (rw_ ha.row), hb.keep k (nm hb.cells) (rw_ hb.row), hne⟩, h.ne, h.fit, h.form, h.low⟩
theorem zMf (h : PairAt w q s) (hlen : s.es.length ≤ 1000000) (h0 : ∀ w', s.es = [] → Keep (fun _ => False) w w' → R (.tuple #[.agg (recV zCy), .int .i64 10]) w')
  (h1 : ∀ p w', p ∈ s.es → (∀ q ∈ s.es, ¬ cmpR (vS q) (vS p) < 0) → Keep (fun _ => False) w w' → R (.tuple #[.agg (recV (vS p)), .int .i64 0]) w') :
  zB Tryz.prog 157 #[.pointer (some ⟨q.p, 0, none⟩)] w R := by
 apply W4
 unfold jX
 refine zK fun w1 hb1 k1 z1 => ?_
 have p1 := h.keep k1
 refine zG (v := .pointer (some ⟨q.c, 0, none⟩)) p1.cells rfl (zO.2 ?_)
 have fin : ∀ {w2 : World} {r : Rec} {n : Int} {K : Value → World → Prop}, Keep (fun _ => False) w1 w2 → (∀ w', Keep (fun _ => False) w w' → K (.tuple #[.agg (recV r), .int .i64 n]) w') → StA 19 w.heap.size 0 (recV r) w2 fun w3 => LdA 19 w.heap.size 0 (At w3) fun cs1 => Ret [] (K (.tuple #[.agg cs1, .int .i64 n]) w3) := fun k2 hh => by
  have hb2 := k2.has hb1 (by simp)
  refine yB hb2 rfl (by rw [QN]; rfl) (gH _) (zQ (hb2.zL _) rfl (zF.2 (hh _ ((k1.trans k2).upd (fun hi => absurd hi (by omega)) _))))
 refine zDm p1.cache hlen (fun w2 he k2 => ?_) (fun p w2 hp hm k2 => ?_)
 ·exact yM.2 (zJ.2 ⟨rfl, zA.2 (fin k2 fun w' k' => h0 w' he k')⟩)
 ·exact yM.2 (zJ.2 ⟨rfl, zA.2 (fin k2 fun w' k' => h1 p w' hp hm k')⟩)
theorem zD2 (h : PairAt w q s) {lba v : Int} (h0 : 0 ≤ lba) (h1 : lba ≤ 2147483647) (hK : ∀ w', PairAt w' q (X7 q.sz s lba v).2 → Keep (yE q w) w w' → R (.int .i64 (X7 q.sz s lba v).1) w') :
  zB Tryz.prog 160 #[.pointer (some ⟨q.p, 0, none⟩), .int .i64 lba, .int .u64 v] w R := by
 apply hY
 unfold uW
 unfold X7 at hK
 refine zBh h fun w1 k1 => LS.2 (zJ.2 ⟨rfl, zA.2 (zA.2 ?_)⟩)
 refine yN (by rw [vQ]; rfl) rfl (yS _) fun w2 hb2 k2 z2 => ?_
 have k02 := k1.trans k2
 have p2 := h.keep k02
 refine zN (fun hc => ?_) (fun hc => ?_)
 ·have hc : (getV s.es lba).2.2 ≠ 0 := by simpa using hc
  rw [if_pos hc] at hK
  exact zF.2 (hK w2 p2 (yE.none k02))
 have hc : ¬ (getV s.es lba).2.2 ≠ 0 := by simpa using hc
 rw [if_neg hc] at hK
 refine zN (fun hv => ?_) (fun hv => ?_)
 ·have hv : v < (getV s.es lba).2.1 := by simpa using hv
  rw [if_pos hv] at hK
  exact zF.2 (hK w2 p2 (yE.none k02))
 have hv : ¬ v < (getV s.es lba).2.1 := by simpa using hv
 rw [if_neg hv] at hK
 refine zV (v := .agg (recV ⟨2, v, lba, sec []⟩)) (fun _ => run_build _ _ _ _ (by kernel_rfl)) (zJ.2 ⟨rfl, ?_⟩)
 have hg : yH ⟨2, v, lba, sec []⟩ = true := by
  unfold yH
  simp only [Bool.and_eq_true, decide_eq_true_eq]
  omega
 refine zF5 p2 false hg fun w3 p3 k3 => zA.2 ?_
 have hes : (gR q.sz ⟨2, v, lba, sec []⟩ false s).2.es = s.es := (MU s).1
 generalize gR q.sz ⟨2, v, lba, sec []⟩ false s = r at *
 have k03 := yE.trans (yE.none k02) k3
 simp only at hK
 refine zN (fun hr => ?_) (fun hr => ?_)
 ·have hr : r.1 ≠ 0 := by simpa using hr
  rw [if_pos hr] at hK
  exact zF.2 (hK w3 p3 k03)
 have hr : ¬ r.1 ≠ 0 := by simpa using hr
 rw [if_neg hr] at hK
 refine zG (v := .pointer (some ⟨q.c, 0, none⟩)) p3.cells rfl (zO.2 ?_)
 have hca : yQ w3 q.c q.mp q.room s.es := by rw [← hes]; exact p3.cache
 refine zAb hca fun w4 k4 hc4 => zA.2 (zF.2 ?_)
 exact hK w4 (p3.zMn hc4 k4) (k03.trans' k4 fun i hi e => Or.inr (Or.inl e))
end calls
def AB.mb (q : AB) : MB := ⟨q.pb.m, q.pb.a, q.pb.b, q.pb.base, q.pb.sz⟩
section plain
variable {w w' : World} {q : AB} {lk : Int} {s : AS}
theorem ArAt.stm (h : ArAt w q lk s) : StmAt w q.mb q.g q.bks q.pb.base q.sp q.sc s.ss s.ps.xa s.ps.xb := ⟨h.set, h.disks, ⟨h.pair.main, h.pair.rams, h.pair.ne, h.pair.fit, h.pair.form, h.pair.hb⟩⟩
theorem y0.arF {i : Nat} (e : y0 q.mb q.g q.bks w i) : ArF q w i := by
 rcases e with (e | e | e | e) | e
 ·exact Or.inr (Or.inr (Or.inr (Or.inr (Or.inl e))))
 ·exact Or.inr (Or.inr (Or.inr (Or.inr (Or.inr (Or.inl e)))))
 ·exact Or.inr (Or.inr (Or.inr (Or.inr (Or.inr (Or.inr (Or.inl e))))))
 ·exact Or.inr (Or.inr (Or.inr (Or.inr (Or.inr (Or.inr (Or.inr e))))))
 ·exact Or.inr (Or.inl e)
theorem ArAt.zFg (h : ArAt w q lk s) {s' : SS} {xa xb : List Int} (hs : StmAt w' q.mb q.g q.bks q.pb.base q.sp q.sc s' xa xb) (k : Keep (y0 q.mb q.g q.bks w) w w') : ArAt w' q lk { s with ds := s'.ds, ps := { s.ps with pw := s'.pw, xa := xa, xb := xb } } := by
 have st := h.stm
 have nmap : ¬ y0 q.mb q.g q.bks w q.pb.mp := fun e => by
  obtain ⟨_, arr, clk, hm, _⟩ := h.pair.cache
  obtain ⟨_, _, _, _, _, _, ha, hb, _⟩ := h.pair.rams
  have no : ∀ {k : Nat} {cs : Array Value} {t : TypeId} {f : Nat × Nat}, Has w k (.cells cs t f) → k ≠ q.pb.mp := fun h1 e => by subst e; cases h1.inj hm
  rcases e with (e | e | e | ⟨_, cs, hc⟩) | e
  ·exact no (show Has w _ _ from h.pair.main) e.symm
  ·exact no ha.cells e.symm
  ·exact no hb.cells e.symm
  ·exact no hc rfl
  ·obtain ⟨cs, t, hc⟩ := h.set.blk e
   exact no hc rfl
 refine ⟨y0.has st k h.cells (by decide) (by decide) (by decide) (by decide) (by decide), hs.set, hs.disks,
  ⟨y0.has st k h.pair.cells (by decide) (by decide) (by decide) (by decide) (by decide), h.pair.cache.keep k (y0.not st h.pair.cache.1 (by decide) (by decide) (by decide) (by decide) (by decide)) nmap, hs.mems.main, hs.mems.rams, h.pair.ne, hs.mems.fit, h.pair.form, h.pair.low⟩,
  y0.has st k (show Has w _ _ from h.desk) (by decide) (by decide) (by decide) (by decide) (by decide), h.marks.keep k fun b hb => ?_⟩
 obtain ⟨_, cur, hh⟩ := yI h.marks b 0 hb
 exact y0.not st hh (by decide) (by decide) (by decide) (by decide) (by decide)
theorem yE.arF {i : Nat} (e : yE q.pb w i) : ArF q w i := Or.inr (Or.inr e)
end plain
def outB (q : AB) (s : AS) (f : Bool) (p : Int × Ent) (s2 : PS) : Int × AS :=
 let r := uT q.pb.sz q.g (upS s2 f) s2.last p.1 p.2.1 (epA s f) ⟨s.ds, s2.pw⟩ s2.xa s2.xb
 let s3 : PS := { s2 with pw := r.2.1.pw, xa := r.2.2.1, xb := r.2.2.2 }
 if r.1 ≠ 0 then (r.1, { s with ds := r.2.1.ds, ps := s3 })
 else ((X7 q.pb.sz s3 p.1 p.2.2).1, { s with ds := r.2.1.ds, ps := (X7 q.pb.sz s3 p.1 p.2.2).2 })
def outA (q : AB) (s : AS) (f : Bool) (p : Int × Ent) : Int × AS := outB q s f p { s.ps with last := IntKind.wrap .u64 (s.ps.last + 1) }
theorem zQs (q : AB) (f : Bool) : ramM q.mb f = ramB q.pb f := by cases f <;> rfl
section calls
variable {w : World} {q : AB} {lk : Int} {s : AS} {R : Value → World → Prop}
theorem zNs (h : ArAt w q lk s) (hok : ∀ D ∈ s.ds, jN D) (f : Bool) (hlen : s.ps.es.length ≤ 1000) (hne : s.ps.es ≠ []) (hes : ∀ e ∈ s.ps.es, 0 ≤ e.1 ∧ e.1 < (q.g.d - 2) * q.g.c * q.g.s ∧ yD e.2.1)
  (hr : ∀ f, upA s f = true → 64 ≤ (q.pb.sz - ((xsA s.ps f).length : Int)) / 37)
  (hK : ∀ p w', p ∈ s.ps.es → (∀ x ∈ s.ps.es, ¬ cmpR (vS x) (vS p) < 0) → ArAt w' q lk (outA q s f p).2 → Keep (ArF q w) w w' → R (.int .i64 (outA q s f p).1) w') :
  zB Tryz.prog 84 #[.pointer (some ⟨q.a, 0, none⟩), .int .i64 (zZ f)] w R := by
 apply V4
 unfold q6
 have hcap : 2 ≤ (q.g.d - 2) * q.g.c * q.g.s ∧ (q.g.d - 2) * q.g.c * q.g.s ≤ 15360 := h.set.geo.cap
 refine zG (v := .pointer (some ⟨q.pb.p, 0, none⟩)) h.cells rfl (zO.2 ?_)
 refine zMf h.pair (by omega) (fun w1 he => absurd he hne) fun p w1 hp hmin k1 => yM.2 (zJ.2 ⟨rfl, zA.2 ?_⟩)
 obtain ⟨hp0, hp1, hp2⟩ := hes p hp
 refine yN (by rw [QN]; rfl) rfl (gH _) fun w2 hb2 k2 z2 => (zH (p := _)).2 ?_
 have k02 := k1.trans k2
 refine G0 (h.zX k02) hr fun w3 k3 => zA.2 ((zH (p := _)).2 ?_)
 have h3 := h.zX (k02.trans k3)
 have hb3 := k3.has hb2 (by simp)
 have k03 := k02.trans k3
 refine zG (v := .pointer (some ⟨q.pb.p, 0, none⟩)) h3.cells rfl (zO.2 ?_)
 refine zF6 h3.pair fun w4 p4 k4 => zA.2 ?_
 have h4 := h3.gI p4 k4
 have hb4 := yE.has k4 hb3 (by decide) h3.pair (by decide) (by decide) (by decide)
 have k04 : Keep (ArF q w) w w4 := ArF.trans (ArF.none k03) (k4.mono fun i e => yE.arF e)
 generalize hs2 : ({ s.ps with last := IntKind.wrap .u64 (s.ps.last + 1) } : PS) = s2 at *
 have hv : IntKind.wrap .u64 (s.ps.last + 1) = s2.last := by rw [← hs2]
 rw [hv]
 intro d
 have kd := Keep.drew (fun _ => False) w4 d
 have h5 := h4.zX kd
 have hb5 : Has (w4.dr d) w1.heap.size _ := hb4
 have k05 := ArF.trans k04 (ArF.none kd)
 generalize w4.dr d = w5 at *
 generalize hs5 : ({ s with ps := s2 } : AS) = s5 at h5
 have e5 : s5.ps = s2 ∧ s5.ss = ⟨s.ds, s2.pw⟩ ∧ epA s5 f = epA s f := by rw [← hs5]; exact ⟨rfl, rfl, by cases f <;> rfl⟩
 refine ⟨fun w' => Has w' q.a (.cells (arC q lk s5) 143 (0, 0)) ∧ Has w' w1.heap.size (.cells (recV (vS p)) 246 (0, 0)), ⟨h5.cells, hb5⟩, ?_⟩
 refine jR (cs := setV q.g q.sp q.g.d.toNat q.sc) rfl (fun w' hw => ⟨_, _, _, hw.1, by show 3 + 4 ≤ 21; decide, zAh q lk s5⟩) ?_
 refine yO (v := .pointer (some ⟨q.pb.p, 0, none⟩)) (fun w' hw => ⟨_, _, _, hw.1, rfl⟩) (zO.2 ?_)
 refine yO (v := .int .i64 p.1) (fun w' hw => ⟨_, _, _, hw.2, rfl⟩) (zA.2 ?_)
 refine jR (cs := secV p.2.1) rfl (fun w' hw => ⟨_, _, _, hw.2, by show 3 + 16 ≤ 19; decide, by
  apply Array.ext'
  simp only [Array.toList_extract, List.extract_eq_take_drop]
  rfl⟩) ⟨uO f, ?_⟩
 refine yO (v := .int .u32 (epA s5 f)) (fun w' hw => ⟨_, _, _, hw.1, by cases f <;> rfl⟩) (zA.2 ?_)
 refine zMe h5.pair f fun rp rl rc w6 o6 k6 => zC.2 ⟨⟨k6.has h5.cells (by simp), k6.has hb5 (by simp)⟩, ?_⟩
 have h6 := h5.zX k6
 have hl6 := o6.length
 have hlu : (upS s5.ps f).length ≤ 2 := Nat.le_trans (List.length_filter_le _ _) (by simp)
 have sl6 : SlT dLay w6 104 rp rl rc ((upS s5.ps f).map (ramM q.mb)) := by
  have : (upS s5.ps f).map (ramM q.mb) = (upS s5.ps f).map (ramB q.pb) := List.map_congr_left fun g _ => zQs q g
  rw [this]
  exact SlT.of o6
 have hds : s5.ss.ds = s.ds := by rw [e5.2.1]
 refine zJa (q := q.mb) h6.stm (by rw [hds]; exact hok) sl6 (by rw [hl6, List.length_map]; omega) hp0 hp1 hp2 fun w7 st7 k7 => zA.2 ?_
 have h7 := h6.zFg st7 k7
 have hb7 := y0.has h6.stm k7 (k6.has hb5 (by simp)) (by decide) (by decide) (by decide) (by decide) (by decide)
 have k07 := ArF.trans (ArF.trans k05 (ArF.none k6)) (k7.mono fun i e => y0.arF e)
 refine ⟨⟨y0.has h6.stm k7 h6.cells (by decide) (by decide) (by decide) (by decide) (by decide), hb7⟩, ?_⟩
 have hW := hK p
 unfold outA at hW
 rw [hs2] at hW
 unfold outB at hW
 simp only at hW
 have hsz : q.mb.sz = q.pb.sz := rfl
 rw [e5.1, e5.2.1, e5.2.2, hsz] at h7 ⊢
 generalize uT q.pb.sz q.g (upS s2 f) s2.last p.1 p.2.1 (epA s f) ⟨s.ds, s2.pw⟩ s2.xa s2.xb = r at h7 hW ⊢
 clear st7 k7
 subst hs5
 refine zN (fun hc => ?_) (fun hc => ?_)
 ·have hc : r.1 ≠ 0 := by simpa using hc
  rw [if_pos hc] at hW
  exact zF.2 (hW w7 hp hmin h7 k07)
 have hc : ¬ r.1 ≠ 0 := by simpa using hc
 rw [if_neg hc] at hW
 intro d
 have kd := Keep.drew (fun _ => False) w7 d
 have h8 := h7.zX kd
 have hb8 : Has (w7.dr d) w1.heap.size _ := hb7
 have k08 := ArF.trans k07 (ArF.none kd)
 generalize w7.dr d = w8 at *
 refine ⟨fun _ => True, trivial, ?_⟩
 refine zG (v := .pointer (some ⟨q.pb.p, 0, none⟩)) h8.cells rfl (zO.2 ?_)
 refine zG (v := .int .i64 p.1) hb8 rfl (zA.2 ?_)
 refine zG (v := .int .u64 p.2.2) hb8 rfl (zA.2 ?_)
 refine zD2 h8.pair hp0 (by omega) fun w9 p9 k9 => zA.2 ⟨trivial, zF.2 ?_⟩
 exact hW w9 hp hmin (h8.gI p9 k9) (ArF.trans k08 (k9.mono fun i e => yE.arF e))
theorem zC3 (s : SS) (e : Int) : (xM s e).2.pw = s.pw := by unfold xM; split <;> rfl
theorem ArAt.O8 {w' : World} (h : ArAt w q lk s) {s' : SS} (hs : SetAt w' q.sb s') (k : Keep (vJ q.sb) w w') : ArAt w' q lk { s with ds := s'.ds, ps := { s.ps with pw := s'.pw } } :=
 h.zFg (h.stm.O8 hs k) (k.mono fun i e => Or.inr e)
end calls
section calls
variable {w : World} {q : AB} {lk : Int} {s : AS} {R : Value → World → Prop}
theorem zHc (h : ArAt w q lk s) (hon : s.ps.pw.on = true) {n : Nat} {b r : Nat} (hb : q.bks[n]? = some (b, r)) (hK : R (.tuple #[.pointer (some ⟨b, 0, none⟩), .int .i64 0]) w) : zB Tryz.prog 86 #[.pointer (some ⟨q.a, 0, none⟩), .int .i64 (n : Int)] w R := by
 apply VB
 unfold j9
 have hlen : q.bks.length = q.g.d.toNat := by have := h.disks.length; rw [List.length_map] at this; exact this.symm
 have hn : n < q.g.d.toNat := by rw [← hlen]; exact (List.getElem?_eq_some_iff.1 hb).1
 refine zK5 h (GB h.pair.main (zM.2 ?_))
 rw [hon]
 refine (zH (p := _)).2 ?_
 rw [decide_eq_false (by omega)]
 refine (zH (p := _)).2 ?_
 refine zG (v := .slice q.sp q.g.d.toNat q.sc) h.cells rfl (zC.2 ?_)
 rw [decide_eq_false (by omega)]
 refine (zH (p := _)).2 ?_
 refine zG (v := .slice q.sp q.g.d.toNat q.sc) h.cells rfl (zC.2 ?_)
 refine h.disks.ld0 (x := b) rfl (by omega) (by rw [Int.toNat_natCast, List.getElem?_map, hb]; rfl) rfl (zO.2 (zF.2 hK))
def UU (s : AS) (n : Nat) : AS := { s with ds := s.ds.set n { s.ds.getD n dsk0 with dead := true } }
theorem zCd (h : ArAt w q lk s) (hon : s.ps.pw.on = true) {n : Nat} (hn : n < s.ds.length) (hal : (s.ds.getD n dsk0).dead = false) (hother : ∃ i : Nat, i < s.ds.length ∧ i ≠ n ∧ (s.ds.getD i dsk0).dead = false)
  (hK : ∀ w', ArAt w' q lk (UU s n) → Keep (ArF q w) w w' → R (.int .i64 0) w') : zB Tryz.prog 20 #[.pointer (some ⟨q.a, 0, none⟩), .int .i64 (n : Int)] w R := by
 apply qA
 unfold uB
 obtain ⟨b, r, D, hb, hD, hdk, hdl⟩ := h.set.get (show n < s.ss.ds.length from hn)
 have hlen : q.bks.length = q.g.d.toNat := by have := h.disks.length; rw [List.length_map] at this; exact this.symm
 have hlen2 : s.ds.length = q.g.d.toNat := by rw [← hlen]; exact h.set.len.symm
 have hgd := h.set.geo.d
 have hgd : q.g.d ≤ 32 := hgd.2
 have hDg : s.ds.getD n dsk0 = D := by
  have hD : s.ds[n]? = some D := hD
  rw [List.getD_eq_getElem?_getD, hD]; rfl
 refine zHc h hon hb (yM.2 (WJ.2 (zA.2 ((zH (p := _)).2 ?_))))
 refine GS hdk (zM.2 ?_)
 rw [← hDg, hal]
 refine (zH (p := _)).2 ?_
 refine zG (v := .slice q.sp q.g.d.toNat q.sc) h.cells rfl (zC.2 ?_)
 refine zP (σ := Int × Unit) (fun st w' => w' = w ∧ ∃ k : Nat, st.1 = (k : Int) ∧ k ≤ q.g.d.toNat ∧ ∀ i : Nat, i < k → i ≠ n → (s.ds.getD i dsk0).dead = true) (fun st _ => ((q.g.d.toNat : Int) - st.1).toNat) ⟨rfl, 0, rfl, by omega, fun i hi => absurd hi (by omega)⟩ ?_
 rintro _ ⟨j, u⟩ w2 ⟨rfl, k, hj, hk, hd⟩
 simp only at hj ⊢
 subst hj
 have nx : (∀ i : Nat, i < k + 1 → i ≠ n → (s.ds.getD i dsk0).dead = true) → k < q.g.d.toNat → ∃ m, m < ((q.g.d.toNat : Int) - (k : Int)).toNat ∧ ((w2 = w2 ∧ ∃ k' : Nat, IntKind.wrap .i64 ((k : Int) + 1) = (k' : Int) ∧ k' ≤ q.g.d.toNat ∧ ∀ i : Nat, i < k' → i ≠ n → (s.ds.getD i dsk0).dead = true) ∧ ((q.g.d.toNat : Int) - IntKind.wrap .i64 ((k : Int) + 1)).toNat = m) := fun hh hlt => by
  rw [zW (by omega) (by omega)]
  exact ⟨_, by omega, ⟨rfl, k + 1, by omega, hlt, hh⟩, rfl⟩
 refine zN (fun hc => ?_) (fun hc => ?_)
 ·have hc : k < q.g.d.toNat := by simp at hc; omega
  obtain ⟨b2, r2, D2, hb2, hD2, hdk2, _⟩ := h.set.get (show k < s.ss.ds.length by show k < s.ds.length; omega)
  have hb2 : q.bks[k]? = some (b2, r2) := hb2
  have hDg2 : s.ds.getD k dsk0 = D2 := by
   have hD2 : s.ds[k]? = some D2 := hD2
   rw [List.getD_eq_getElem?_getD, hD2]; rfl
  refine h.disks.ld0 (x := b2) rfl (by omega) (by rw [Int.toNat_natCast, List.getElem?_map, hb2]; rfl) rfl (zO.2 ?_)
  refine zN (fun hne => ?_) (fun hne => ?_)
  ·have hne : k ≠ n := by simp at hne; omega
   refine GS hdk2 (zM.2 ?_)
   rw [← hDg2]
   refine zN (fun ha => ?_) (fun ha => ?_)
   ·refine zPv hdk fun w3 hd3 k3 => zF.2 ?_
    have hs := h.set.upd hb (k3.mono fun i e => Or.inr (Or.inl e)) hd3 hdl (k3.has (show Has w2 _ _ from h.set.main) fun e => (hdk.nem h.set.main).1 e.symm)
    have hsf : Keep (vJ q.sb) w2 w3 := k3.mono fun i e => Or.inr (Or.inl (by rw [e]; exact List.mem_map.2 ⟨(b, r), List.mem_of_getElem? hb, rfl⟩))
    have h3 := h.O8 hs hsf
    have e : ({ s with ds := s.ds.set n { D with dead := true }, ps := { s.ps with pw := s.ss.pw } } : AS) = UU s n := by unfold UU; rw [hDg]; rfl
    have h3 : ArAt w3 q lk { s with ds := s.ds.set n { D with dead := true }, ps := { s.ps with pw := s.ss.pw } } := h3
    rw [e] at h3
    exact hK w3 h3 (hsf.mono fun i e => Or.inr (Or.inl e))
   ·have ha : (s.ds.getD k dsk0).dead = true := by simpa using ha
    exact nx (fun i hi hin => by
     by_cases hik : i = k
     ·rw [hik]; exact ha
     ·exact hd i (by omega) hin) hc
  ·have hne : k = n := by simp at hne; omega
   obtain ⟨m, m1, ⟨_, m2⟩, m3⟩ := nx (fun i hi hin => hd i (by omega) hin) hc
   exact ⟨m, m1, ⟨by trivial, m2⟩, m3⟩
 ·have hc : ¬ k < q.g.d.toNat := by simp at hc; omega
  obtain ⟨i, hi, hin, hia⟩ := hother
  rw [hd i (by omega) hin] at hia
  cases hia
end calls
end Go.Proofs
namespace Go.Proofs
open Go Go.Ev Go.RowKit
set_option maxRecDepth 100000
def kT (bs : List Int) (L : List Rec) : Prop := (∀ r ∈ L, RcOk r) ∧ ∃ t : List Int, t.length < 37 ∧ By t ∧ bs = L.flatMap zY ++ t
theorem kT.scan {bs : List Int} {L : List Rec} (h : kT bs L) : VF bs = L := by
 obtain ⟨h1, t, h2, _, rfl⟩ := h
 unfold VF
 exact VE L t _ (fun r hr => h1 r hr) h2 (by rw [List.length_append, XS]; omega)
theorem kT.byb {bs : List Int} {L : List Rec} (h : kT bs L) : By bs := by
 obtain ⟨h1, t, _, h3, rfl⟩ := h
 intro x hx
 rcases List.mem_append.1 hx with h | h
 ·exact zM9 h1 x h
 ·exact h3 x h
theorem kT.mk {L : List Rec} (h : ∀ r ∈ L, RcOk r) : kT (L.flatMap zY) L := ⟨h, [], by decide, fun x hx => by simp at hx, by simp⟩
def gT (bs : List Int) (L : List Rec) : Prop := (∀ r ∈ L, RcOk r) ∧ bs = L.flatMap zY
theorem gT.kept {bs : List Int} {L : List Rec} (h : gT bs L) : kT bs L := by obtain ⟨h1, rfl⟩ := h; exact kT.mk h1
theorem gT.app {bs : List Int} {L : List Rec} (h : gT bs L) {r : Rec} (hr : RcOk r) : gT (bs ++ zY r) (L ++ [r]) := by
 obtain ⟨h1, rfl⟩ := h
 refine ⟨fun x hx => ?_, by simp⟩
 rcases List.mem_append.1 hx with hx | hx
 ·exact h1 x hx
 ·rw [List.mem_singleton.1 hx]; exact hr
theorem ML {D : List Rec} {G : List (Int × List PutS)} : ∀ (xs pre : List Rec), (∀ x ∈ xs, x.kind = 4 → YY D x.ver = true ∨ zS G x.ver ≠ none) → X6 D pre xs G = G
 | [], _, _ => rfl
 | x :: xs, pre, h => by
  have e : UT D pre x G = G := by
   unfold UT
   rw [if_neg]
   rintro ⟨h1, h2, h3⟩
   rcases h x (by simp) h1 with h | h
   ·rw [h2] at h; cases h
   ·exact h h3
  show X6 D (pre ++ [x]) xs (UT D pre x G) = G
  rw [e]
  exact ML xs _ fun y hy => h y (by simp [hy])
theorem zFb {LL : List (List Rec)} (h : u7 LL = []) : XW LL = [] := by unfold XW; rw [h]; simp [VD]
theorem zGr {D : List Rec} {v : Int} : YY D v = true ↔ ∃ x ∈ D, x.kind = 5 ∧ x.ver = v := by
 unfold YY
 rw [List.any_eq_true]
 constructor
 ·rintro ⟨x, h1, h2⟩
  simp only [Bool.and_eq_true, beq_iff_eq] at h2
  exact ⟨x, h1, h2⟩
 ·rintro ⟨x, h1, h2⟩
  exact ⟨x, h1, by simp only [Bool.and_eq_true, beq_iff_eq]; exact h2⟩
def YT (v : Int) (P : List PutS) : List Rec := zEw v P ++ [recK 5 v]
theorem GA {α : Type} {l : List α} {n : Nat} {x : α} (h : x ∈ l.take n) : ∃ k, k < n ∧ l[k]? = some x := by
 obtain ⟨k, hk⟩ := List.mem_iff_getElem?.1 h
 have hk2 := (List.getElem?_eq_some_iff.1 hk).1
 rw [List.length_take] at hk2
 refine ⟨k, by omega, ?_⟩
 rw [List.getElem?_take_of_lt (by omega)] at hk
 exact hk
theorem ZH {g : Geo} {s : SS} (hs : SsOk g s) {now : Int → Sec} (hi : Inv g s now) (hn : ∀ l, yD (now l)) (hon : s.pw.on = true) {lba : Int} (h0 : 0 ≤ lba) (h1 : lba < (g.d - 2) * g.c * g.s) {data : Sec} (hd : yD data) (hlost : xA (yU g s (yT g lba).1 (yT g lba).2.2) ≤ 2) :
  (yR g s lba data).2 = 0 ∧ ∀ x ∈ (yR g s lba data).1, zCh g s x ∧ zQo x = x := by
 have hg := hs.geo
 obtain ⟨pst, pco, pof⟩ := vR hg h0 h1
 have hrow := hi.rowR hg hn pst pof hlost
 have hplan : yR g s lba data = (uK g s (yT g lba).1 (yT g lba).2.2 (rowW (Go.Proofs.rowR (yU g s (yT g lba).1 (yT g lba).2.2)) (yT g lba).2.1.toNat data) [(yT g lba).2.1, g.d - 2, g.d - 1], 0) := by
  unfold yR
  simp only
  rw [if_neg (by rw [hon]; decide), if_pos hlost]
 rw [hplan, hrow]
 have hd' := hg.d
 have hls := GI hg lba
 generalize yT g lba = x at *
 rw [O4 (by rw [xW]; omega), ← wB hg pst.1 pof pco, hls]
 refine ⟨rfl, fun y hy => ?_⟩
 have hfull := zBy (zEt (g := g) (zAz hn hd lba) x.1 x.2.2)
 have hpo := zBk hg pst pof y hy
 unfold uK at hy
 obtain ⟨k, hk, hyk⟩ := List.mem_filterMap.1 hy
 unfold HI at hyk
 split at hyk
 ·cases hyk
 ·rename_i hal
  cases hyk
  refine ⟨⟨hpo, ?_, rfl, ?_⟩, rfl⟩
  ·show yD ((vT (rowT g (upd now lba data) x.1 x.2.2)).getD k.toNat (sec []))
   rw [List.getD_eq_getElem?_getD]
   cases hx : (vT (rowT g (upd now lba data) x.1 x.2.2))[k.toNat]? with
   | none => exact kO
   | some f => exact hfull f (List.mem_of_getElem? hx)
  ·unfold xN
   show (s.ds.getD (plcP g x.1 x.2.2 k).dk.toNat dsk0).dead = false
   simpa using hal
theorem zB8 {g : Geo} {s : SS} {x : PutS} (hg : GeoOk g) (h : zCh g s x) : InR x := by
 obtain ⟨⟨⟨a1, a2⟩, a3, a4⟩, _⟩ := h
 have h1 := hg.d
 have h2 := hg.c
 have h3 := hg.s
 have : g.c * g.s ≤ 8 * 64 := Int.mul_le_mul h2.2 h3.2 (by omega) (by omega)
 exact ⟨⟨a1, by omega⟩, a3, by omega⟩
theorem zIf {v : Int} (hv : 0 ≤ v ∧ v ≤ 18446744073709551615) {P : List PutS} (h : ∀ x ∈ P, InR x ∧ yD x.cel.data) : ∀ r ∈ YT v P, RcOk r := fun r hr => by
 unfold YT at hr
 rcases List.mem_append.1 hr with hr | hr
 ·exact zIg hv h r hr
 ·rw [List.mem_singleton.1 hr]
  exact ⟨rfl, hv, zB7⟩
theorem LH {x : PutS} (h : InR x) : vX x = false := by
 obtain ⟨⟨a1, a2⟩, a3, a4⟩ := h
 unfold vX
 rw [decide_eq_false (by omega), decide_eq_false (by omega), decide_eq_false (by omega), decide_eq_false (by omega)]
 rfl
end Go.Proofs
namespace Go.Proofs
open Go Go.Ev
set_option maxRecDepth 100000
def X8 (s : SS) (i : Int) : SS := ⟨s.ds.set i.toNat { (s.ds.getD i.toNat dsk0) with dead := true }, s.pw⟩
theorem GO {s : SS} {i : Int} (hi : i.toNat < s.ds.length) (j : Nat) : (X8 s i).ds.getD j dsk0 = if i.toNat = j then { (s.ds.getD i.toNat dsk0) with dead := true } else s.ds.getD j dsk0 := by
 unfold X8
 exact qJ hi _ _
theorem zO8 {s : SS} {i j : Int} (h0 : 0 ≤ i) (hi : i.toNat < s.ds.length) (hj : 0 ≤ j) : xN (X8 s i) j = true ↔ (j = i ∨ xN s j = true) := by
 unfold xN
 rw [GO hi]
 by_cases e : i.toNat = j.toNat
 ·rw [if_pos e]
  have : j = i := by omega
  simp [this]
 ·rw [if_neg e]
  have : ¬ j = i := fun h => e (by rw [h])
  simp [this]
theorem zGl {s : SS} {i : Int} (hi : i.toNat < s.ds.length) (j : Nat) : ((X8 s i).ds.getD j dsk0).key = (s.ds.getD j dsk0).key := by
 rw [GO hi]
 by_cases e : i.toNat = j
 ·rw [if_pos e, ← e]
 ·rw [if_neg e]
theorem MP {s : SS} {i j a : Int} (h0 : 0 ≤ i) (hi : i.toNat < s.ds.length) (hj : 0 ≤ j) : xR (X8 s i) j a = if j = i then none else xR s j a := by
 unfold xR
 rw [GO hi]
 by_cases e : i.toNat = j.toNat
 ·rw [if_pos e, if_pos (by omega)]
  unfold wF
  rw [if_pos rfl]
 ·rw [if_neg e, if_neg (fun h => e (by rw [h]))]
theorem zJp {g : Geo} {s : SS} (h : SsOk g s) {i : Int} (h0 : 0 ≤ i) (hi : i < g.d) : SsOk g (X8 s i) := by
 have hm := h.get h0 hi
 refine ⟨h.geo, by unfold X8; simpa using h.num, fun D hD => ?_, fun D hD => ?_⟩
 ·unfold X8 at hD
  rcases List.mem_or_eq_of_mem_set hD with hD | rfl
  ·exact h.len D hD
  ·exact h.len (s.ds.getD i.toNat dsk0) hm
 ·unfold X8 at hD
  rcases List.mem_or_eq_of_mem_set hD with hD | rfl
  ·exact h.ok D hD
  ·exact h.ok (s.ds.getD i.toNat dsk0) hm
theorem zGm {g : Geo} {s : SS} {now : Int → Sec} (hs : SsOk g s) (h : Inv g s now) {i : Int} (h0 : 0 ≤ i) (hi : i < g.d) : Inv g (X8 s i) now := by
 have hn := hs.num
 intro st off hst hof k hk f hv
 obtain ⟨pk1, pk2⟩ := qC hs.geo hst hof (k : Int)
 rw [MP h0 (by omega) pk1.1] at hv
 split at hv
 ·cases hv
 ·exact h st off hst hof k hk f hv
section calls
variable {w0 w : World} {g : Geo} {b2 b3 m : Nat} {bks : List (Nat × Nat)} {p : Option Addr} {c : Nat} {pr : Option Addr} {cr : Nat} {xs : List (Nat × Nat × Nat)}
end calls
end Go.Proofs
namespace Go.Proofs
open Go Go.Ev Go.RowKit
set_option maxRecDepth 100000
theorem zBj {g : Geo} {ds : List Dsk} {p p' : Pow} (h : p.on = true) (h' : p'.on = true) (lba : Int) (data : Sec) : yR g ⟨ds, p⟩ lba data = yR g ⟨ds, p'⟩ lba data := by
 unfold yR
 rw [show ({ ds := ds, pw := p } : SS).pw.on = true from h, show ({ ds := ds, pw := p' } : SS).pw.on = true from h']
 rfl
end Go.Proofs
namespace Go.Proofs
open Go Go.Ev
set_option maxRecDepth 100000
theorem QM {sz : Int} {x : Rec} {pw : Pow} {bs : List Int} (h : Lit0 pw) (hr : 37 ≤ sz - (bs.length : Int)) : appP pw sz bs x = (0, (yW pw).2, bs ++ zY x) := by
 unfold appP
 rw [if_neg (by rw [h.1]; decide), if_neg (by omega), if_neg (by rw [(vF h).1]; decide)]
structure LitM (sz n : Int) (s s' : MS) : Prop where
 lit : Lit0 s'.pw
 steps : s'.pw.steps = s.pw.steps + n
 a : (s'.xa.length : Int) ≤ (s.xa.length : Int) + 37 * n
 b : (s'.xb.length : Int) ≤ (s.xb.length : Int) + 37 * n
theorem vV {sz : Int} {x : Rec} : ∀ (fs : List Bool) (s : MS), Lit0 s.pw → 0 ≤ s.pw.steps → s.pw.steps + (fs.length : Int) < 1000000000000000 → 37 * (fs.length : Int) ≤ sz - (s.xa.length : Int) → 37 * (fs.length : Int) ≤ sz - (s.xb.length : Int) →
  (yF sz x fs s).1 = 0 ∧ LitM sz (fs.length : Int) s (yF sz x fs s).2
 | [], s, h, _, _, _, _ => ⟨rfl, h, by simp [yF], by simp [yF], by simp [yF]⟩
 | f :: fs, s, h, h0, h1, ha, hb => by
  simp only [List.length_cons] at h1 ha hb
  have hap : (appM sz x f s).1 = 0 ∧ Lit0 (appM sz x f s).2.pw ∧ (appM sz x f s).2.pw.steps = s.pw.steps + 1 ∧ ((appM sz x f s).2.xa.length : Int) ≤ (s.xa.length : Int) + 37 ∧ ((appM sz x f s).2.xb.length : Int) ≤ (s.xb.length : Int) + 37 := by
   have hp : (zY x).length = 37 := rfl
   have hs := ZF h h0 (by omega)
   cases f
   ·have e := QM (sz := sz) (x := x) (bs := s.xa) h (by omega)
    simp only [appM, e]
    refine ⟨by trivial, (vF h).2, hs, ?_, by omega⟩
    rw [List.length_append, hp]; omega
   ·have e := QM (sz := sz) (x := x) (bs := s.xb) h (by omega)
    simp only [appM, e]
    refine ⟨by trivial, (vF h).2, hs, by omega, ?_⟩
    rw [List.length_append, hp]; omega
  obtain ⟨p1, p2, p3, p4, p5⟩ := hap
  have e : yF sz x (f :: fs) s = yF sz x fs (appM sz x f s).2 := by
   show (if _ then _ else _) = _
   rw [if_neg (by simp [p1])]
  rw [e]
  generalize (appM sz x f s).2 = t at *
  obtain ⟨i1, i2, i3, i4, i5⟩ := vV (sz := sz) (x := x) fs t p2 (by omega) (by omega) (by omega) (by omega)
  refine ⟨i1, i2, ?_, ?_, ?_⟩ <;> simp only [List.length_cons] <;> omega
theorem GQ {sz : Int} {fs : List Bool} (hfs : fs.length ≤ 2) : ∀ (rs : List Rec) (s : MS), Lit0 s.pw → 0 ≤ s.pw.steps → s.pw.steps + 2 * (rs.length : Int) < 100000000000000 → 74 * (rs.length : Int) ≤ sz - (s.xa.length : Int) → 74 * (rs.length : Int) ≤ sz - (s.xb.length : Int) →
  (kL sz fs rs s).1 = 0 ∧ LitM sz ((rs.length : Int) * (fs.length : Int)) s (kL sz fs rs s).2
 | [], s, h, _, _, _, _ => ⟨rfl, h, by simp [kL], by simp [kL], by simp [kL]⟩
 | r :: rs, s, h, h0, h1, ha, hb => by
  simp only [List.length_cons] at h1 ha hb
  obtain ⟨j1, j2, j3, j4, j5⟩ := vV (sz := sz) (x := r) fs s h h0 (by omega) (by omega) (by omega)
  have e : kL sz fs (r :: rs) s = kL sz fs rs (yF sz r fs s).2 := by
   show (if _ then _ else _) = _
   rw [if_neg (by simp [j1])]
  rw [e]
  generalize (yF sz r fs s).2 = t at *
  obtain ⟨i1, i2, i3, i4, i5⟩ := GQ (sz := sz) hfs rs t j2 (by omega) (by omega) (by omega) (by omega)
  have em : ((rs.length + 1 : Nat) : Int) * (fs.length : Int) = (rs.length : Int) * (fs.length : Int) + (fs.length : Int) := by
   rw [Int.natCast_add, Int.add_mul]; simp
  refine ⟨i1, i2, ?_, ?_, ?_⟩ <;> simp only [List.length_cons] <;> rw [em] <;> omega
theorem WB {sz : Int} {x : Rec} : ∀ (fs : List Bool) (s : PS), ZX sz x fs s = ((yF sz x fs ⟨s.pw, s.xa, s.xb⟩).1, { s with pw := (yF sz x fs ⟨s.pw, s.xa, s.xb⟩).2.pw, xa := (yF sz x fs ⟨s.pw, s.xa, s.xb⟩).2.xa, xb := (yF sz x fs ⟨s.pw, s.xa, s.xb⟩).2.xb })
 | [], s => rfl
 | f :: fs, s => by
  have e : app1 sz x f s = ((appM sz x f ⟨s.pw, s.xa, s.xb⟩).1, { s with pw := (appM sz x f ⟨s.pw, s.xa, s.xb⟩).2.pw, xa := (appM sz x f ⟨s.pw, s.xa, s.xb⟩).2.xa, xb := (appM sz x f ⟨s.pw, s.xa, s.xb⟩).2.xb }) := by cases f <;> rfl
  show (if (app1 sz x f s).1 ≠ 0 then app1 sz x f s else ZX sz x fs (app1 sz x f s).2) = _
  have e2 : yF sz x (f :: fs) ⟨s.pw, s.xa, s.xb⟩ = if (appM sz x f ⟨s.pw, s.xa, s.xb⟩).1 ≠ 0 then appM sz x f ⟨s.pw, s.xa, s.xb⟩ else yF sz x fs (appM sz x f ⟨s.pw, s.xa, s.xb⟩).2 := rfl
  rw [e2, e]
  simp only
  split
  ·rfl
  ·rw [WB fs]
theorem qD (s : PS) (f : Bool) : (upS s f).length ≤ 2 := Nat.le_trans (List.length_filter_le _ _) (by simp)
theorem QD {es : List (Int × Ent)} (hn : (es.map (·.1)).Nodup) {p : Int × Ent} (hp : p ∈ es) : zS es p.1 = some p.2 := by
 induction es with
 | nil => cases hp
 | cons e es ih =>
  simp only [List.map_cons, List.nodup_cons] at hn
  unfold zS
  rw [List.find?_cons]
  by_cases h : e.1 = p.1
  ·rw [show (e.1 == p.1) = true by simpa using h]
   rcases List.mem_cons.1 hp with rfl | h'
   ·rfl
   ·exact absurd (List.mem_map.2 ⟨p, h', h.symm⟩) hn.1
  ·rw [show (e.1 == p.1) = false by simpa using h]
   rcases List.mem_cons.1 hp with rfl | h'
   ·exact absurd rfl h
   ·exact ih hn.2 h'
theorem zJ3 {es : List (Int × Ent)} {x : Int} (h : zS es x = none) (v : Ent) : ins es x v = es ++ [(x, v)] := by
 unfold ins
 rw [if_neg]
 intro hh
 obtain ⟨p, hp, he⟩ := List.any_eq_true.1 hh
 unfold zS at h
 rw [Option.map_eq_none_iff, List.find?_eq_none] at h
 exact h p hp he
theorem zGx {es : List (Int × Ent)} {p : Int × Ent} (h : p ∈ es) : (del es p.1).length < es.length := by
 unfold del
 exact List.length_filter_lt_length_iff_exists.2 ⟨p, h, by simp⟩
def yV (g : Geo) : Int := (g.d - 2) * g.c * g.s
structure Cost (s s' : AS) (n m : Int) : Prop where
 steps : s'.ps.pw.steps = s.ps.pw.steps + n
 a : (s'.ps.xa.length : Int) ≤ (s.ps.xa.length : Int) + m
 b : (s'.ps.xb.length : Int) ≤ (s.ps.xb.length : Int) + m
 last : s'.ps.last = s.ps.last + 1
 up : s'.ps.ua = s.ps.ua ∧ s'.ps.ub = s.ps.ub
def KR (l : List Int) : List (Int × Value) := l.foldl (fun es k => ins es k (.agg #[])) []
theorem zDf (l : List Int) (x : Int) : zS (KR l) x = if x ∈ l then some (.agg #[]) else none := by
 have key : ∀ (l : List Int) (es : List (Int × Value)), zS (l.foldl (fun es k => ins es k (.agg #[])) es) x = if x ∈ l then some (.agg #[]) else zS es x := by
  intro l
  induction l with
  | nil => intro es; simp
  | cons k l ih =>
   intro es
   rw [List.foldl_cons, ih]
   by_cases h : x ∈ l
   ·rw [if_pos h, if_pos (List.mem_cons_of_mem _ h)]
   ·rw [if_neg h, xT]
    by_cases e : x = k
    ·rw [if_pos e, if_pos (by rw [e]; exact List.mem_cons_self ..)]
    ·rw [if_neg e, if_neg (fun h' => by rcases List.mem_cons.1 h' with h' | h'; exact e h'; exact h h')]
 unfold KR
 rw [key, zJ2]
theorem zDe (l : List Int) (k : Int) : KR (l ++ [k]) = ins (KR l) k (.agg #[]) := by unfold KR; rw [List.foldl_append]; rfl
theorem zPz (f h : Sec) (w : World) : (Instr.buildSlice 32 2 #[(0, .agg (secV f)), (1, .agg (secV h))]).run Tryz.prog w = .ok (.slice (some ⟨w.heap.size, 0, none⟩) 2 2) (w.alloc (.cells (secV f ++ secV h) 37)) :=
 run_buildSlice w 32 37 2 _ (secV f ++ secV h) ((Tryz.prog.info? 37).get (by kernel_rfl)) (((Tryz.prog.info? 37).get (by kernel_rfl)).zero.get (by kernel_rfl)) (by kernel_rfl) (by kernel_rfl) (by kernel_rfl) (by decide +kernel) (by decide +kernel) (by kernel_rfl)
section calls
variable {w0 w : World} {p : Option Addr} {l c : Nat} {xs : List Sec}
end calls
section calls
variable {w : World} {q : SB} {s : SS} {R : Value → World → Prop}
end calls
section calls
variable {w : World} {q : SB} {s : SS} {R : Value → World → Prop}
end calls
section calls
variable {w : World} {q : SB} {s : SS} {R : Value → World → Prop}
end calls
section calls
variable {w : World} {q : SB} {s : SS} {R : Value → World → Prop}
end calls
section calls
variable {w : World} {q : SB} {s : SS} {g : Geo} {R : Value → World → Prop}
end calls
structure Good (g : Geo) (s : SS) (now : Int → Sec) (N : Int) : Prop where
 ss : SsOk g s
 lit : Lit0 s.pw
 key : ∀ i : Nat, (s.ds.getD i dsk0).key ≤ 0
 inv : Inv g s now
 nok : ∀ l, yD (now l)
 st0 : 0 ≤ s.pw.steps
 stN : s.pw.steps ≤ N
theorem zFl {g : Geo} (hg : GeoOk g) : Good g (newS g pw0) now0 0 := ⟨zMp hg pw0, lit0, fun i => by rw [zIw]; omega, zIx hg pw0, zFk, by show (0 : Int) ≤ 0; omega, by show (0 : Int) ≤ 0; omega⟩
section calls
variable {w w' : World} {base : Nat} {g : Geo} {m : Nat} {bks : List (Nat × Nat)} {p : Option Addr} {c : Nat} {s : SS} {now : Int → Sec} {N : Int} {R : Value → World → Prop}
end calls
def V2 (g : Geo) (s : SS) (x y : Int) : Prop := ∀ j a, (0 ≤ j ∧ j < g.d) → (0 ≤ a ∧ a < g.c * g.s) → xR s j a = none → j = x ∨ j = y
theorem V2.lost {g : Geo} (hg : GeoOk g) {s : SS} {x y : Int} (h : V2 g s x y) (st off : Int) (hst : 0 ≤ st ∧ st < g.s) (hof : 0 ≤ off ∧ off < g.c) : xA (yU g s st off) ≤ 2 :=
 zJ1 hg hst hof x y fun k hk hv => by
  obtain ⟨pk1, pk2⟩ := qC hg hst hof (k : Int)
  exact h _ _ pk1 pk2 hv
theorem V2.fail {g : Geo} {s : SS} (hs : SsOk g s) {x y : Int} (h : V2 g s x x) (hy : 0 ≤ y ∧ y < g.d) : V2 g (X8 s y) x y := fun j a hj ha hv => by
 rw [MP hy.1 (by have := hs.num; omega) hj.1] at hv
 split at hv
 ·exact Or.inr ‹_›
 ·exact Or.inl ((h j a hj ha hv).elim id id)
theorem zBf {room sz : Int} {s : PS} {f : Bool} {lba : Int} {d : Sec} (hl : Lit0 s.pw) (hs0 : 0 ≤ s.pw.steps) (hs1 : s.pw.steps < 10000000000000) (hl0 : 0 ≤ s.last) (hl1 : s.last < 1000000000000) (h0 : 0 ≤ lba) (h1 : lba ≤ 100000) (hup : (cond f s.ub s.ua) = true)
  (hroom : zS s.es lba = none → (s.es.length : Int) < room) (hver : ∀ e, zS s.es lba = some e → e.2 ≤ s.last) (ha : 100 ≤ sz - (s.xa.length : Int)) (hb : 100 ≤ sz - (s.xb.length : Int)) :
  ∃ M : MS, LitM sz ((upS s f).length : Int) ⟨s.pw, s.xa, s.xb⟩ M ∧ putP room sz s f lba d = ((s.last + 1, 0), { s with last := s.last + 1, pw := M.pw, xa := M.xa, xb := M.xb, es := ins s.es lba (d, s.last + 1) }) := by
 have hlu := qD s f
 have hv : IntKind.wrap .u64 (s.last + 1) = s.last + 1 := vG (by omega) (by omega)
 have hpe : putE room s.es lba (s.last + 1) = 0 := by
  unfold putE
  rw [if_neg (by omega)]
  cases hm : zS s.es lba with
  | none => simp only; rw [if_neg (by have := hroom hm; omega)]
  | some e => simp only; rw [if_neg (by have := hver e hm; omega)]
 obtain ⟨m1, m2⟩ := vV (sz := sz) (x := ⟨1, s.last + 1, lba, d⟩) (upS s f) ⟨s.pw, s.xa, s.xb⟩ hl hs0 (by show s.pw.steps + _ < _; omega) (by show _ ≤ sz - (s.xa.length : Int); omega) (by show _ ≤ sz - (s.xb.length : Int); omega)
 refine ⟨_, m2, ?_⟩
 unfold putP
 rw [if_neg (by omega), if_neg (by rw [hup]; decide), if_neg (by rintro ⟨e1, e2⟩; have := hroom e1; omega)]
 simp only [hv]
 unfold gR
 rw [WB]
 have hu : upS { s with last := s.last + 1 } f = upS s f := rfl
 rw [hu]
 simp only [m1, hpe]
 rfl
structure GoodE (g : Geo) (s : SS) (now : Int → Sec) (ep : Int) : Prop where
 ss : SsOk g s
 lit : Lit0 s.pw
 key : ∀ i : Nat, (s.ds.getD i dsk0).key ≤ ep
 inv : Inv g s now
 nok : ∀ l, yD (now l)
 st0 : 0 ≤ s.pw.steps
theorem GoodE.pow {g : Geo} {s : SS} {now : Int → Sec} {ep : Int} (h : GoodE g s now ep) {pw : Pow} (hl : Lit0 pw) (h0 : 0 ≤ pw.steps) : GoodE g ⟨s.ds, pw⟩ now ep :=
 ⟨⟨h.ss.geo, h.ss.num, h.ss.len, h.ss.ok⟩, hl, h.key, h.inv.see h.ss.geo (fun _ _ _ _ => rfl), h.nok, h0⟩
theorem Good.toE {g : Geo} {s : SS} {now : Int → Sec} {N : Int} (h : Good g s now N) : GoodE g s now 0 := ⟨h.ss, h.lit, h.key, h.inv, h.nok, h.st0⟩
structure Qv (q : AB) (s : AS) (fin : Int → Sec) (ep x y : Int) : Prop where
 good : ∃ now, GoodE q.g s.ss now ep ∧ ∀ l, zS s.ps.es l = none → now l = fin l
 v2 : V2 q.g s.ss x y
 es : ∀ l e, zS s.ps.es l = some e → (0 ≤ l ∧ l < yV q.g) ∧ e.1 = fin l ∧ 0 ≤ e.2 ∧ e.2 ≤ s.ps.last
 nd : (s.ps.es.map (·.1)).Nodup
 last : 0 ≤ s.ps.last
 fok : ∀ l, yD (fin l)
theorem Qv.read {q : AB} {s : AS} {fin : Int → Sec} {ep x y : Int} (h : Qv q s fin ep x y) {l : Int} (h0 : 0 ≤ l) (h1 : l < yV q.g) : jL q s l = (fin l, 0) := by
 unfold jL getV
 cases hl : zS s.ps.es l with
 | some e => simp only [if_pos]; rw [(h.es l e hl).2.1]
 | none =>
  simp only
  rw [if_neg (by decide)]
  obtain ⟨now, hg, hf⟩ := h.good
  obtain ⟨pst, pco, pof⟩ := vR hg.ss.geo h0 h1
  rcases hg.inv.read hg.ss.geo hg.nok hg.lit.1 h0 h1 with e | ⟨_, e, _⟩
  ·rw [e, hf l hl]
  ·exact absurd (h.v2.lost hg.ss.geo _ _ pst pof) e
theorem Qv.put {q : AB} {s : AS} {fin : Int → Sec} {ep x y : Int} (h : Qv q s fin ep x y) {f : Bool} {lba : Int} {d : Sec} (hd : yD d) (h0 : 0 ≤ lba) (h1 : lba < yV q.g) (hup : (cond f s.ps.ub s.ps.ua) = true)
  (hroom : zS s.ps.es lba = none → (s.ps.es.length : Int) < q.pb.room) (hst : s.ps.pw.steps < 10000000000000) (hla : s.ps.last < 1000000000000) (ha : 100 ≤ q.pb.sz - (s.ps.xa.length : Int)) (hb : 100 ≤ q.pb.sz - (s.ps.xb.length : Int)) (hcap : yV q.g ≤ 100000) :
  (putP q.pb.room q.pb.sz s.ps f lba d).1.2 = 0 ∧ Qv q { s with ps := (putP q.pb.room q.pb.sz s.ps f lba d).2 } (upd fin lba d) ep x y ∧ Cost s { s with ps := (putP q.pb.room q.pb.sz s.ps f lba d).2 } ((upS s.ps f).length : Int) 74 ∧
   (putP q.pb.room q.pb.sz s.ps f lba d).2.es = ins s.ps.es lba (d, s.ps.last + 1) := by
 obtain ⟨now, hg, hf⟩ := h.good
 have hs0 : 0 ≤ s.ps.pw.steps := hg.st0
 have hl0 := h.last
 have hlu := qD s.ps f
 obtain ⟨M, m, hput⟩ := zBf (room := q.pb.room) (sz := q.pb.sz) (d := d) hg.lit hs0 hst hl0 hla h0 (by omega) hup hroom (fun e he => (h.es lba e he).2.2.2) ha hb
 rw [hput]
 have m3 : M.pw.steps = s.ps.pw.steps + ((upS s.ps f).length : Int) := m.steps
 have m4 : (M.xa.length : Int) ≤ (s.ps.xa.length : Int) + 37 * ((upS s.ps f).length : Int) := m.a
 have m5 : (M.xb.length : Int) ≤ (s.ps.xb.length : Int) + 37 * ((upS s.ps f).length : Int) := m.b
 refine ⟨rfl, ⟨⟨now, hg.pow (pw := M.pw) m.lit (by omega), fun l hl => ?_⟩, h.v2, fun l e hl => ?_, uQ h.nd _ _, by show 0 ≤ s.ps.last + 1; omega, zAz h.fok hd lba⟩, ⟨m3, by show (M.xa.length : Int) ≤ _; omega, by show (M.xb.length : Int) ≤ _; omega, rfl, rfl, rfl⟩, rfl⟩
 ·have hl : zS (ins s.ps.es lba (d, s.ps.last + 1)) l = none := hl
  rw [xT] at hl
  split at hl
  ·cases hl
  ·rename_i hne
   unfold upd
   rw [if_neg hne, hf l hl]
 ·have hl : zS (ins s.ps.es lba (d, s.ps.last + 1)) l = some e := hl
  rw [xT] at hl
  unfold upd
  split at hl
  ·rename_i he
   cases hl
   subst he
   exact ⟨⟨h0, h1⟩, by rw [if_pos rfl], by show 0 ≤ s.ps.last + 1; omega, by show s.ps.last + 1 ≤ s.ps.last + 1; omega⟩
  ·rename_i hne
   obtain ⟨e1, e2, e3, e4⟩ := h.es l e hl
   exact ⟨e1, by rw [if_neg hne]; exact e2, e3, by show e.2 ≤ s.ps.last + 1; omega⟩
theorem KS {s : SS} {f : Dsk → Dsk} {pw : Pow} (i : Nat) : (SS.mk (s.ds.map f) pw).ds.getD i dsk0 = if i < s.ds.length then f (s.ds.getD i dsk0) else dsk0 := by
 simp only
 rw [List.getD_eq_getElem?_getD, List.getElem?_map, List.getD_eq_getElem?_getD]
 by_cases h : i < s.ds.length
 ·rw [if_pos h, List.getElem?_eq_getElem h]; rfl
 ·rw [if_neg h, List.getElem?_eq_none (by omega)]; rfl
theorem MN (s : SS) (e : Int) (i a : Int) : xR (xM s e).2 i a = xR s i a := by
 unfold xM
 split
 ·rfl
 ·show xR ⟨s.ds.map fun D => (xE s.pw D e).2, s.pw⟩ i a = _
  unfold xR
  rw [KS]
  split
  ·unfold wF
   rw [ZO]
   have : (xE s.pw (s.ds.getD i.toNat dsk0) e).2.dead = (s.ds.getD i.toNat dsk0).dead := by
    unfold xE
    split
    ·rfl
    ·split <;> rfl
   rw [this]
  ·rename_i h
   rw [List.getD_eq_getElem?_getD, List.getElem?_eq_none (by omega)]; rfl
theorem zJo {g : Geo} {s : SS} (h : SsOk g s) {e : Int} (he : 0 ≤ e ∧ e ≤ 4294967295) : SsOk g (xM s e).2 := by
 unfold xM
 split
 ·exact h
 ·refine ⟨h.geo, by simpa using h.num, fun D hD => ?_, fun D hD => ?_⟩
  ·obtain ⟨E, hE, rfl⟩ := List.mem_map.1 hD
   rw [ZO]
   exact h.len E hE
  ·obtain ⟨E, hE, rfl⟩ := List.mem_map.1 hD
   exact zGk (h.ok E hE) he
theorem zGj {s : SS} {e : Int} (h0 : 0 ≤ e) (h : ∀ i : Nat, (s.ds.getD i dsk0).key ≤ e) (i : Nat) : ((xM s e).2.ds.getD i dsk0).key ≤ e := by
 unfold xM
 split
 ·exact h i
 ·show ((SS.mk (s.ds.map fun D => (xE s.pw D e).2) s.pw).ds.getD i dsk0).key ≤ e
  rw [KS]
  split
  ·have := h i
   unfold xE
   split
   ·exact this
   ·split
    ·exact this
    ·show max _ _ ≤ e
     omega
  ·exact h0
theorem zG6 {e : Int} : ∀ (l : List Dsk) (k : Int), k ≤ e → (∀ D ∈ l, D.key ≤ e) → keyL k l ≤ e
 | [], k, hk, _ => hk
 | D :: l, k, hk, h => by
  show keyL (if D.dead = true then k else max k D.key) l ≤ e
  refine zG6 l _ ?_ fun E hE => h E (by simp [hE])
  have := h D (by simp)
  split <;> omega
theorem zG5 {s : SS} {e : Int} (h0 : 0 ≤ e) (h : ∀ i : Nat, (s.ds.getD i dsk0).key ≤ e) : keyS s ≤ e := by
 refine zG6 _ _ h0 fun D hD => ?_
 obtain ⟨i, hi, rfl⟩ := List.mem_iff_getElem.1 hD
 have := h i
 rw [List.getD_eq_getElem?_getD, List.getElem?_eq_getElem hi] at this
 exact this
theorem zG4 (s : SS) : 0 ≤ keyS s := by
 have : ∀ (l : List Dsk) (k : Int), 0 ≤ k → 0 ≤ keyL k l := by
  intro l
  induction l with
  | nil => intro k h; exact h
  | cons D l ih =>
   intro k h
   show 0 ≤ keyL (if D.dead = true then k else max k D.key) l
   refine ih _ ?_
   split <;> omega
 exact this _ _ (by decide)
theorem zGe {d : Dk} {cap init : Int} {c : Cmd} (hk : ¬ c.k = 4) (h : (gN d cap init c).2 = false) : 1 ≤ cntC c ∧ cntC c ≤ 8 ∧ 0 ≤ c.lba ∧ c.lba + cntC c ≤ cap := by
 unfold gN at h
 split at h
 ·cases h
 ·rename_i h1
  have h2 : cdE c cap = 0 := Classical.byContradiction fun e => h1 (Or.inr (Or.inr e))
  unfold cdE at h2
  rw [if_neg hk] at h2
  split at h2
  ·cases h2
  ·rename_i h3
   refine ⟨?_, ?_, ?_, ?_⟩ <;> omega
section calls
variable {w w0 : World} {q : AB} {s : AS} {b b1 : Nat} {c : Cmd} {R : Value → World → Prop}
theorem DoSt.grow (h : DoSt w0 w q s b b1 c) {w' : World} {p : Option Addr} {l cc : Nat} {xs : List Sec} (o : OwnL yG w w0.heap.size 37 p l cc xs) (k : Keep (fun k => p = some ⟨k, 0, none⟩) w w') : DoSt w0 w' q s b b1 c := by
 cases p with
 | none => exact h.zX (k.mono fun i e => by cases e)
 | some a =>
  obtain ⟨b', cur, h0, hb', hg, _⟩ := (Own.cases o).resolve_left (by rintro ⟨e, _⟩; cases e)
  cases h0
  refine h.tmp hg (Or.inl rfl) hb' (fun e => ?_) (k.mono fun i e => by cases e; rfl)
  subst e
  have := hg.inj h.rep
  simp only [Obj.cells.injEq] at this
  exact absurd this.2.1 (by decide)
def Z8 (q : AB) (s : AS) (lba : Int) (n : Nat) : List Sec := (List.range n).map fun (k : Nat) => (jL q s (lba + (k : Int))).1
theorem TQ (q : AB) (s : AS) (lba : Int) (n : Nat) : Z8 q s lba (n + 1) = Z8 q s lba n ++ [(jL q s (lba + (n : Int))).1] := by
 unfold Z8; rw [List.range_succ, List.map_append]; rfl
theorem LM (h : ArAt w q 0 s) (f : Bool) {init : Int} (hk : c.k = 2) (hr : vM s f = true) {s' : AS} (hd : s'.d = s.d) (ha : ∀ (w1 : World) (R1 : Value → World → Prop), ArAt w1 q 1 s → (∀ w2, ArAt w2 q 1 s' → Keep (ArF q w1) w1 w2 → R1 (.int .i64 0) w2) → zB Tryz.prog 79 #[.pointer (some ⟨q.a, 0, none⟩), .int .i64 (zZ f)] w1 R1)
  (hg : (gN s.d ((q.g.d - 2) * q.g.c * q.g.s) init c).2 = false) (hok : ∀ D ∈ s'.ds, jN D) (hgood : ∀ k : Nat, (k : Int) < c.n → (jL q s' (c.lba + (k : Int))).2 = 0)
  (hK : ∀ p cc w', ArAt w' q 0 s' → Keep (ArF q w) w w' → OwnL yG w' w.heap.size 37 p c.n.toNat cc (Z8 q s' c.lba c.n.toNat) → R (.agg (repC 1 0 p c.n.toNat cc)) w') :
  zB Tryz.prog 16 #[.pointer (some ⟨q.a, 0, none⟩), .int .i64 (zZ f), .int .i64 init, .agg (cmdC c)] w R := by
 refine LN h f (Or.inl hk) hr hd ha (fun ht => by rw [hg] at ht; cases ht) fun _ b b1 w1 hS => ?_
 obtain ⟨g1, g2, g3, g4⟩ := zGe (by omega) hg
 have hn : cntC c = c.n := by unfold cntC; rw [if_pos hk]
 rw [hn] at g1 g2 g4
 clear hn
 have hcap : 2 ≤ (q.g.d - 2) * q.g.c * q.g.s ∧ (q.g.d - 2) * q.g.c * q.g.s ≤ 15360 := h.set.geo.cap
 unfold zHo
 refine zV (fun _ => QK 1 _) (zJ.2 ⟨rfl, ?_⟩)
 refine zK fun w2 hb2 k2 z2 => ?_
 rw [Z5] at hb2
 have hS2 := hS.zX k2
 have hne : w1.heap.size ≠ b1 := fun e => by have := hS.rep.lt; omega
 have hlo : w.heap.size ≤ w1.heap.size := hS.keep.size
 refine yB hb2 rfl rfl (vE _ _ _ _ _) ?_
 have hS3 := hS2.tmp hb2 (Or.inr rfl) hlo hne (Keep.one _ _ (.cells (repC 1 0 none 0 0) 34 (0, 0)))
 have hb3 := hb2.zL (.cells (repC 1 0 none 0 0) 34 (0, 0))
 clear hS2 hb2 k2
 generalize w2.upd w1.heap.size (.cells (repC 1 0 none 0 0) 34 (0, 0)) = w3 at *
 generalize w1.heap.size = b7 at *
 refine zG (v := .int .i64 c.k) hS3.cmd rfl (zA.2 ?_)
 rw [hk]
 refine ⟨fun _ w' => ∃ p cc, Has w' b7 (.cells (repC 1 0 p c.n.toNat cc) 34 (0, 0)) ∧ OwnL yG w' w.heap.size 37 p c.n.toNat cc (Z8 q s' c.lba c.n.toNat) ∧ DoSt w w' q s' b b1 c, ?_, ?_⟩
 ·refine (zT (q := _)).2 ?_
  refine zG (v := .int .i64 c.n) hS3.cmd rfl (zA.2 ?_)
  refine zP (σ := Int × Unit) (fun st w' => ∃ (k : Nat) (p : Option Addr) (cc : Nat), st.1 = (k : Int) ∧ (k : Int) ≤ c.n ∧ Has w' b7 (.cells (repC 1 0 p k cc) 34 (0, 0)) ∧ OwnL yG w' w.heap.size 37 p k cc (Z8 q s' c.lba k) ∧ DoSt w w' q s' b b1 c) (fun st _ => (c.n - st.1).toNat)
   ⟨0, none, 0, rfl, by omega, hb3, OwnL.nil, hS3⟩ ?_
  clear hS3 hb3 hS
  rintro _ ⟨i, u⟩ w4 ⟨k, p, cc, hi, hkn, hb4, o4, hS4⟩
  simp only at hi ⊢
  subst hi
  refine zN (fun hc => ?_) (fun hc => ?_)
  ·have hc : (k : Int) < c.n := by simpa using hc
   refine zG (v := .int .i64 c.lba) hS4.cmd rfl (zA.2 ?_)
   rw [zW (by omega) (by omega)]
   refine zNr hS4.ar hok (by omega) (by omega) fun w5 k5 => ?_
   rw [hgood k hc]
   refine yM.2 (zJ.2 ⟨rfl, zA.2 ?_⟩)
   refine zK fun w6 hb6 k6 z6 => ?_
   have k46 := k5.trans k6
   have hS6 := hS4.zX k46
   have hne5 : w5.heap.size ≠ b1 := fun e => by have := (hS4.zX k5).rep.lt; omega
   have hlo5 : w.heap.size ≤ w5.heap.size := (hS4.zX k5).keep.size
   have hb46 := k46.has hb4 (by simp)
   have h75 : w5.heap.size ≠ b7 := fun e => by have := (k5.has hb4 (by simp)).lt; omega
   refine yB hb6 rfl (by rw [vQ]; rfl) (yS _) ?_
   have ku := Keep.one w6 w5.heap.size (.cells (secV (jL q s' (c.lba + (k : Int))).1) 37 (0, 0))
   have hS7 := hS6.tmp hb6 (Or.inl rfl) hlo5 hne5 ku
   have hb7 := hb6.zL (.cells (secV (jL q s' (c.lba + (k : Int))).1) 37 (0, 0))
   have hr7 := ku.has hb46 (fun e => h75 e.symm)
   have o7 := (o4.keep k46 (by simp)).keep ku fun x hx e => by
    have := (o4.keep k5 (by simp)).lt hx
    omega
   clear ku hS6 hb46 hb6
   generalize w6.upd w5.heap.size (.cells (secV (jL q s' (c.lba + (k : Int))).1) 37 (0, 0)) = w7 at *
   refine (zH (p := _)).2 ?_
   refine zG (v := .slice p k cc) hr7 rfl (zC.2 ?_)
   refine zQ hb7 rfl ?_
   refine ⟨_, _, zH6 _ w7, zC.2 ?_⟩
   have k8 : Keep (fun _ => False) w7 (w7.alloc (.cells (secV (jL q s' (c.lba + (k : Int))).1) 37)) := Keep.new _ _ _
   have hb8 : Has (w7.alloc (.cells (secV (jL q s' (c.lba + (k : Int))).1) 37)) w7.heap.size (.cells (secV (jL q s' (c.lba + (k : Int))).1) 37 (0, 0)) := Has.new _ _
   generalize w7.alloc (.cells (secV (jL q s' (c.lba + (k : Int))).1) 37) = w8 at *
   have hS8 := hS7.zX k8
   have hr8 := k8.has hr7 (by simp)
   have o8 := o7.keep k8 (by simp)
   obtain ⟨p9, c9, w9, hr, o9, k9, _⟩ := yK zEn o8 (y := (jL q s' (c.lba + (k : Int))).1) hb8 (by show secV _ = ((secV _).toList).toArray; simp) (ty := 32) (by omega) (by simp only [maxLen]; omega) hS8.keep.size (c2 := 1)
   refine ⟨_, _, hr, zC.2 ?_⟩
   have hS9 := hS8.grow o8 k9
   have hr9 := k9.has hr8 fun e => by
    obtain ⟨_, cur, hh⟩ := yI o8 _ _ e
    have := hh.inj hr8
    simp only [Obj.cells.injEq] at this
    exact absurd this.2.1 (by decide)
   refine xZ hr9 (by show 2 < 3; decide) rfl ?_
   have ku := Keep.one w9 b7 (.cells ((repC 1 0 p k cc).setIfInBounds 2 (.slice p9 (k + 1) c9)) 34 (0, 0))
   have hS10 := hS9.tmp hr9 (Or.inr rfl) hlo hne ku
   have hr10 := hr9.zL (.cells (repC 1 0 p9 (k + 1) c9) 34 (0, 0))
   have o10 := o9.keep ku fun x hx e => by
    obtain ⟨_, cur, hh⟩ := yI o9 _ _ hx
    subst e
    have := hh.inj hr9
    simp only [Obj.cells.injEq] at this
    exact absurd this.2.1 (by decide)
   rw [zW (by omega) (by omega)]
   refine ⟨_, ?_, ⟨k + 1, p9, c9, by show (k : Int) + 1 = ((k + 1 : Nat) : Int); omega, by omega, hr10, by rw [TQ]; exact o10, hS10⟩, rfl⟩
   show (c.n - ((k : Int) + 1)).toNat < (c.n - (k : Int)).toNat
   omega
  ·have hc : ¬ (k : Int) < c.n := by simpa using hc
   have e : c.n.toNat = k := by omega
   rw [e]
   exact ⟨p, cc, hb4, o4, hS4⟩
 rintro _ _ w4 ⟨p, cc, hb4, o4, hS4⟩
 refine zQ hb4 rfl ?_
 refine zJs hS4 rfl (vE _ _ _ _ _) fun w5 h5 k5 kk => hK p cc w5 h5 k5 (o4.keep kk fun x hx e => ?_)
 obtain ⟨_, cur, hh⟩ := yI o4 _ _ hx
 rcases e with e | e
 ·subst e
  have := hh.inj hS4.rep
  simp only [Obj.cells.injEq] at this
  exact absurd this.2.1 (by decide)
 ·subst e
  have := hh.inj hS4.ar.cells
  simp only [Obj.cells.injEq] at this
  exact absurd this.2.1 (by decide)
theorem M6 (h : ArAt w q 0 s) (f : Bool) {init : Int} (hk : c.k = 3) (hr : vM s f = true) {s' : AS} (hd : s'.d = s.d) (ha : ∀ (w1 : World) (R1 : Value → World → Prop), ArAt w1 q 1 s → (∀ w2, ArAt w2 q 1 s' → Keep (ArF q w1) w1 w2 → R1 (.int .i64 0) w2) → zB Tryz.prog 79 #[.pointer (some ⟨q.a, 0, none⟩), .int .i64 (zZ f)] w1 R1)
  (hg : (gN s.d ((q.g.d - 2) * q.g.c * q.g.s) init c).2 = false) {xs : List Sec} (hlen : c.dl = xs.length) (hx : ∀ w', Keep (ArF q w) w w' → SlL yG w' c.dp c.dl xs) (Iv : Nat → AS → Prop) (Bad : AS → Prop) (h0 : Iv 0 s')
  (hstep : ∀ (k : Nat) (x : Sec) (s1 : AS) (w1 : World) (R1 : Value → World → Prop), xs[k]? = some x → Iv k s1 → ArAt w1 q 1 s1 → (∀ e s2 w2, ArAt w2 q 1 s2 → Keep (ArF q w1) w1 w2 → (e = 0 ∧ Iv (k + 1) s2 ∨ e ≠ 0 ∧ Bad s2) → R1 (.int .i64 e) w2) →
   zB Tryz.prog 82 #[.pointer (some ⟨q.a, 0, none⟩), .int .i64 (zZ f), .int .i64 (c.lba + (k : Int)), .agg (secV x)] w1 R1)
  (hK : ∀ s' w', Iv xs.length s' → ArAt w' q 0 s' → Keep (ArF q w) w w' → R (.agg (repC 1 0 none 0 0)) w')
  (hB : ∀ s' w', Bad s' → ArAt w' q 0 s' → Keep (ArF q w) w w' → R (.agg (if s'.ps.pw.on = true then repC 2 13 none 0 0 else repC 0 0 none 0 0)) w') :
  zB Tryz.prog 16 #[.pointer (some ⟨q.a, 0, none⟩), .int .i64 (zZ f), .int .i64 init, .agg (cmdC c)] w R := by
 refine LN h f (Or.inr (Or.inl hk)) hr hd ha (fun ht => by rw [hg] at ht; cases ht) fun _ b b1 w1 hS => ?_
 obtain ⟨g1, g2, g3, g4⟩ := zGe (by omega) hg
 have hn : cntC c = (c.dl : Int) := by unfold cntC; rw [if_neg (by omega)]
 rw [hn] at g1 g2 g4
 clear hn
 have hcap : 2 ≤ (q.g.d - 2) * q.g.c * q.g.s ∧ (q.g.d - 2) * q.g.c * q.g.s ≤ 15360 := h.set.geo.cap
 unfold zHo
 refine zV (fun _ => QK 1 _) (zJ.2 ⟨rfl, ?_⟩)
 refine zK fun w2 hb2 k2 z2 => ?_
 rw [Z5] at hb2
 have hS2 := hS.zX k2
 have hne : w1.heap.size ≠ b1 := fun e => by have := hS.rep.lt; omega
 have hlo : w.heap.size ≤ w1.heap.size := hS.keep.size
 refine yB hb2 rfl rfl (vE _ _ _ _ _) ?_
 have hS3 := hS2.tmp hb2 (Or.inr rfl) hlo hne (Keep.one _ _ (.cells (repC 1 0 none 0 0) 34 (0, 0)))
 have hb3 := hb2.zL (.cells (repC 1 0 none 0 0) 34 (0, 0))
 clear hS2 hb2 k2
 generalize w2.upd w1.heap.size (.cells (repC 1 0 none 0 0) 34 (0, 0)) = w3 at *
 generalize w1.heap.size = b7 at *
 refine zG (v := .int .i64 c.k) hS3.cmd rfl (zA.2 ?_)
 rw [hk]
 refine ⟨fun _ w' => ∃ s', Iv xs.length s' ∧ Has w' b7 (.cells (repC 1 0 none 0 0) 34 (0, 0)) ∧ DoSt w w' q s' b b1 c, ?_, ?_⟩
 ·refine (zH (p := _)).2 ⟨fun st w' => st.1 = true ∧ w' = w3, (zT (q := _)).2 ⟨rfl, rfl⟩, ?_⟩
  rintro _ ⟨g, u⟩ w4 ⟨hg4, rfl⟩
  simp only at hg4 ⊢
  subst hg4
  refine (zT (q := _)).2 ?_
  refine zG (v := .slice c.dp c.dl c.dc) hS3.cmd rfl (zC.2 ?_)
  refine zG (v := .int .i64 c.k) hS3.cmd rfl (zA.2 ?_)
  rw [hk]
  refine ⟨fun st w' => st.1 = (c.dp, c.dl, c.dc) ∧ w' = w4, (zH (p := _)).2 ⟨rfl, rfl⟩, ?_⟩
  rintro _ ⟨g, u⟩ w5 ⟨hg5, rfl⟩
  simp only at hg5 ⊢
  subst hg5
  refine zP (σ := Int × Unit) (fun st w' => ∃ (k : Nat) (s' : AS), st.1 = (k : Int) ∧ k ≤ xs.length ∧ Iv k s' ∧ Has w' b7 (.cells (repC 1 0 none 0 0) 34 (0, 0)) ∧ DoSt w w' q s' b b1 c) (fun st _ => ((xs.length : Int) - st.1).toNat)
   ⟨0, s', rfl, by omega, h0, hb3, hS3⟩ ?_
  clear hS3 hb3 hS
  rintro _ ⟨i, u⟩ w4 ⟨k, s', hi, hkn, hv, hb4, hS4⟩
  simp only at hi ⊢
  subst hi
  refine zN (fun hc => ?_) (fun hc => ?_)
  ·have hc : (k : Int) < (c.dl : Int) := by simpa using hc
   obtain ⟨x, hxk⟩ : ∃ x, xs[k]? = some x := ⟨_, List.getElem?_eq_getElem (show k < xs.length by omega)⟩
   have hx4 := hx _ hS4.keep
   refine hx4.ldA rfl (by omega) (by simpa using hxk) ?_
   show Alc _ _ _ _
   refine yN (by rw [vQ]; rfl) (by simp [yG]) (by intro v hv; exact yS x v (by simpa [yG] using hv)) fun w6 hb6 k6 z6 => ?_
   have e : (yG.row x).toArray = secV x := by simp [yG]
   rw [e] at hb6
   have hS6 := hS4.zX k6
   have hb46 := k6.has hb4 (by simp)
   refine zG (v := .int .i64 c.lba) hS6.cmd rfl (zA.2 ?_)
   refine zQ hb6 rfl ?_
   rw [zW (by omega) (by omega)]
   refine hstep k x s' w6 _ hxk hv hS6.ar fun e2 s2 w7 h7 k7 hor => zA.2 ?_
   have hS7 := hS6.to h7 k7
   have hb7 := k7.has hb46 (ArF.not hS6.ar hb46 (by decide) (by decide) (by decide) (by decide) (by decide) (by decide) (by decide))
   rcases hor with ⟨he, hv2⟩ | ⟨he, hbad⟩
   ·subst he
    refine (zH (p := _)).2 ?_
    rw [zW (by omega) (by omega)]
    refine ⟨_, ?_, ⟨k + 1, s2, by show (k : Int) + 1 = ((k + 1 : Nat) : Int); omega, by omega, hv2, hb7, hS7⟩, rfl⟩
    show ((xs.length : Int) - ((k : Int) + 1)).toNat < ((xs.length : Int) - (k : Int)).toNat
    omega
   ·have e3 : (e2 != 0) = true := by simpa using he
    rw [e3]
    refine (zT (q := _)).2 ?_
    refine zK7 hS7.ar 13 fun w8 k8 => ?_
    refine zJ.2 ⟨by split <;> rfl, ?_⟩
    refine zJs (hS7.zX k8) (by split <;> rfl) (by intro v hv; split at hv <;> exact vE _ _ _ _ _ v hv) fun w9 h9 k9 _ => hB s2 w9 hbad h9 k9
  ·have hc : ¬ (k : Int) < (c.dl : Int) := by simpa using hc
   have e : xs.length = k := by omega
   rw [e]
   exact ⟨s', hv, hb4, hS4⟩
 rintro _ _ w4 ⟨s', hv, hb4, hS4⟩
 refine zQ hb4 rfl ?_
 exact zJs hS4 rfl (vE _ _ _ _ _) fun w5 h5 k5 _ => hK s' w5 hv h5 k5
end calls
end Go.Proofs
namespace Go.Proofs
open Go Go.Ev Go.ChangeShapes Go.WideShapes Go.ChangeAt Go.RowKit
open Go.Proofs.YthhimblbnnafkaaGreat.Rows (uptoBulk uptoBulkAll uptoBulkEntries uptoSmall)
section
variable {H : Type} {enc : TypeId × Value → H} {P : Program} {w : World} {base : Nat} {spare : Nat → Bool} {held : Bool}
theorem zJy : ∀ d : DataW H, 1 ≤ uptoBulk d
 | .lit l => by cases l <;> simp [uptoBulk]
 | .nil => by simp [uptoBulk]
 | .ptr d => by simp [uptoBulk]
 | .slice e s => by simp [uptoBulk]
 | .agg p => by simp [uptoBulk]
 | .iface _ d => by simp [uptoBulk]
 | .map e => by simp [uptoBulk]
 | .held _ => by simp [uptoBulk]
theorem Y1 : ∀ l : List (DataW H), uptoBulkAll l = (l.map uptoBulk).sum
 | [] => rfl
 | d :: l => by simp [uptoBulkAll, Y1 l]
theorem zKq {α : Type} {f g : α → Nat} : ∀ {l : List α}, (∀ x ∈ l, f x ≤ g x) → (l.map f).sum ≤ (l.map g).sum
 | [], _ => by simp
 | a :: l, h => by
  simp only [List.map_cons, List.sum_cons]
  have := h a (by simp)
  have := zKq (l := l) fun x hx => h x (by simp [hx])
  omega
theorem zDo (D : Nat → DataW H) (n : Nat) (s : List (DataW H)) (f : Nat → Nat) (h : ∀ i, i < n → f i ≤ uptoBulk (D i)) : ((List.range n).map f).sum + 1 ≤ uptoBulk (.slice ((List.range n).map D) s) := by
 simp only [uptoBulk, Y1, List.map_map]
 have := zKq (l := List.range n) (f := f) (g := uptoBulk ∘ D) fun i hi => h i (List.mem_range.1 hi)
 omega
theorem zI1 (n : Nat) : ((List.range n).map fun _ => 1).sum = n := by
 induction n with
 | zero => rfl
 | succ n ih => rw [List.range_succ, List.map_append, List.sum_append, ih]; rfl
theorem small_mem {ds : List (DataW H)} (h : uptoSmall H ds = true) {d : DataW H} (hd : d ∈ ds) : uptoBulk d ≤ 1048576 := by
 have h1 : uptoBulkAll ds ≤ 1048576 := by simpa [uptoSmall] using h
 rw [Y1] at h1
 have : ∀ l : List (DataW H), d ∈ l → uptoBulk d ≤ (l.map uptoBulk).sum := by
  intro l
  induction l with
  | nil => simp
  | cons a l ih =>
   intro hd
   simp only [List.map_cons, List.sum_cons]
   rcases List.mem_cons.1 hd with rfl | hd
   ·omega
   ·have := ih hd; omega
 have := this ds hd
 omega
theorem zI8 {t e : TypeId} {ks : List CK} {fuel : Nat} {cs : List Value} {x : DataW H × List MemPlace} (ht : P.underlying t = some (.slice e)) (hf : flat P 9 e = some ks) (hc : P.cellsOf e = ks.length) (hpos : 0 < ks.length)
  (hfu : DataW.trod enc P w base spare held fuel t cs = some x) :
  ∃ xp l c g, cs = [.slice xp l c] ∧ l ≤ c ∧ c ≤ maxLen ∧ Sl w ks.length xp l g ∧ (∀ i, i < l → Fits ks (g i)) ∧ l + 1 ≤ uptoBulk x.1 := by
 rcases Deep.open_slice ht hfu with ⟨rfl, rfl⟩ | ⟨a, len, cap, m, n, D, Pl, rfl, hb, hl, hm, hmm, rfl, hx⟩
 ·exact ⟨none, 0, 0, fun _ => [], rfl, Nat.le_refl _, by simp [maxLen], fun i hi => absurd hi (Nat.not_lt_zero _), fun i hi => absurd hi (Nat.not_lt_zero _), by simp [uptoBulk]⟩
 ·have hlm : len ≤ m := by rw [hmm]; split <;> omega
  obtain ⟨g, hg⟩ := Deep.choose_lt (α := List Value) (n := len) (p := fun i es => w.cells? base (a.add (i * P.cellsOf e)) (P.cellsOf e) = some es ∧ Fits ks es) (fun i hi => by
   obtain ⟨es, h1, h2⟩ := hx i (by omega)
   exact ⟨es, h1, gP hf h2⟩)
  refine ⟨some a, len, cap, g, rfl, hl, hm, fun i hi => ?_, fun i hi => (hg i hi).2, ?_⟩
  ·obtain ⟨h1, h2⟩ := hg i hi
   obtain ⟨_, hlen, hcell⟩ := World.cells?_some h1
   rw [hc] at hlen hcell
   refine ⟨hlen, ?_⟩
   have hsp : a.spot = none := by
    obtain ⟨k1, k2⟩ := hg 0 (by omega)
    obtain ⟨_, klen, kcell⟩ := World.cells?_some k1
    rw [hc] at klen kcell
    have h0 := kcell 0 hpos
    rw [List.getElem?_eq_getElem (by omega)] at h0
    have e0 : (a.add (0 * ks.length)).add 0 = a := by simp [Addr.add]
    rw [e0] at h0
    unfold World.cell? at h0
    split at h0
    ·split at h0
     ·cases h0
     ·rename_i hs
      cases hsa : a.spot with
      | none => rfl
      | some q => exact absurd (by simp [hsa]) hs
    ·cases h0
   obtain ⟨b, o, sp⟩ := a
   simp only at hsp
   subst hsp
   refine ⟨b, o, rfl, fun j hj => ?_⟩
   have := hcell j hj
   rw [Deep.add_add] at this
   rw [← this]
   congr 1
   unfold Addr.add
   split
   ·rename_i hz; rw [Nat.add_assoc, hz, Nat.add_zero]
   ·rw [Nat.add_assoc]
  ·have := zDo D len ((List.range (m - len)).map fun j => D (len + j)) (fun _ => 1) (fun i _ => zJy _)
   rw [zI1] at this
   exact this
theorem sl_openB {t e : TypeId} {ks : List CK} {v : Value} {r : Reach} {b0 : Nat} {dd : DataW H} {ps : List MemPlace} (ht : P.underlying t = some (.slice e)) (hf : flat P 9 e = some ks) (hc : P.cellsOf e = ks.length) (hpos : 0 < ks.length)
  (hval : Value.okWide P w r b0 t v) (hd : DataW.Trod enc P w base spare held t v dd ps) :
  ∃ xp l c g, v = .slice xp l c ∧ l ≤ c ∧ c ≤ maxLen ∧ Sl w ks.length xp l g ∧ (∀ i, i < l → Fits ks (g i)) ∧ l + 1 ≤ uptoBulk dd := by
 obtain ⟨xp, l, c, rfl⟩ := okWide_slice ht hval
 obtain ⟨fuel, hfu⟩ := hd
 obtain ⟨xp', l', c', g, h0, h1, h2, h3, h4, h5⟩ := zI8 ht hf hc hpos hfu
 simp only [Value.cells, List.cons.injEq, Value.slice.injEq, and_true] at h0
 obtain ⟨rfl, rfl, rfl⟩ := h0
 exact ⟨_, _, _, g, rfl, h1, h2, h3, h4, h5⟩
theorem zOk {α : Type} {L : Lay α} {n : Nat} {xp : Option Addr} {l : Nat} {g : Nat → List Value} (h : Sl w n xp l g) (hn : L.size = n) {f : Nat → α} (hg : ∀ i, i < l → g i = L.row (f i)) : SlL L w xp l ((List.range l).map f) := by
 subst hn
 refine ⟨by simp, fun i x hi => ?_⟩
 have hlt : i < l := by have := (List.getElem?_eq_some_iff.1 hi).1; simpa using this
 have : x = f i := by simp [hlt] at hi; exact hi.symm
 subst this
 obtain ⟨_, b, o, hp, hc⟩ := h i hlt
 exact ⟨b, o, hp, fun j hj => by rw [hc j hj, hg i hlt]⟩
theorem zOl {α : Type} [Inhabited α] {L : Lay α} {ks : List CK} {ok : α → Prop} {n : Nat} {xp : Option Addr} {l : Nat} {g : Nat → List Value} (h : Sl w n xp l g) (hn : L.size = n) (hf : ∀ i, i < l → Fits ks (g i)) (ho : ∀ cs, Fits ks cs → ∃ x, cs = L.row x ∧ ok x) :
  ∃ xs : List α, SlL L w xp l xs ∧ ∀ x ∈ xs, ok x := by
 obtain ⟨f, hf2⟩ := Deep.choose_lt (α := α) (n := l) (p := fun i o => g i = L.row o ∧ ok o) fun i hi => ho _ (hf i hi)
 refine ⟨_, zOk h hn fun i hi => (hf2 i hi).1, fun x hx => ?_⟩
 obtain ⟨i, hi, rfl⟩ := List.mem_map.1 hx
 exact (hf2 i (List.mem_range.1 hi)).2
theorem zJn {cs : List Value} (h : Fits [] cs) : cs = [] := by cases cs with | nil => rfl | cons a l => exact h.elim
theorem zGi {k : CK} {ks : List CK} {cs : List Value} (h : Fits (k :: ks) cs) : ∃ a l, cs = a :: l ∧ CK.ok k a ∧ Fits ks l := by cases cs with | nil => exact h.elim | cons a l => exact ⟨a, l, rfl, h.1, h.2⟩
end
end Go.Proofs
namespace Go.Proofs
open Go Go.Ev Go.RowKit
set_option maxRecDepth 100000
instance : Inhabited Sec := ⟨sec []⟩
theorem zR2 {cs : List Value} (h : Fits [.int .u8] cs) : ∃ y : Int, cs = zU.row y ∧ (0 ≤ y ∧ y ≤ 255) := by
 obtain ⟨_, _, rfl, ⟨a, rfl, a1, a2⟩, h1⟩ := zGi h
 cases zJn h1
 exact ⟨a, rfl, a1, a2⟩
theorem bytes_list {W : World} {xp : Option Addr} {l : Nat} {g : Nat → List Value} (h : Sl W 1 xp l g) (hf : ∀ i, i < l → Fits [.int .u8] (g i)) : ∃ ys : List Int, SlL zU W xp l ys ∧ By ys := zOl h rfl hf fun cs hc => zR2 hc
end Go.Proofs
namespace Go.Proofs
open Go Go.Ev
set_option maxRecDepth 100000
section calls
variable {w : World} {R : Value → World → Prop}
end calls
structure Like (s1 s : AS) : Prop where
 ua : s.ps.ua = s1.ps.ua
 ub : s.ps.ub = s1.ps.ub
 rest : s = { s1 with ds := s.ds, ps := s.ps }
theorem Like.ep {s1 s : AS} (h : Like s1 s) (f : Bool) : epA s f = epA s1 f := by rw [h.rest]; cases f <;> rfl
theorem Like.upA {s1 s : AS} (h : Like s1 s) (f : Bool) : upA s f = upA s1 f := by rw [h.rest]; cases f <;> rfl
theorem Like.T7 {s1 s : AS} (h : Like s1 s) (f : Bool) : gJ s f = gJ s1 f := by rw [h.rest]; cases f <;> rfl
theorem Like.split {s1 s : AS} (h : Like s1 s) : s.split = s1.split := by rw [h.rest]
theorem Like.d {s1 s : AS} (h : Like s1 s) : s.d = s1.d := by rw [h.rest]
theorem KI (s : AS) : Like s s := ⟨rfl, rfl, rfl⟩
theorem zNb {es : List (Int × Ent)} (hn : (es.map (·.1)).Nodup) {p : Int × Ent} (hp : p ∈ es) : (del es p.1).length + 1 = es.length := by
 induction es with
 | nil => cases hp
 | cons e es ih =>
  simp only [List.map_cons, List.nodup_cons] at hn
  unfold del
  rw [List.filter_cons]
  rcases List.mem_cons.1 hp with rfl | h'
  ·rw [show (!(p.1 == p.1)) = false by simp]
   have : es.filter (fun r => !(r.1 == p.1)) = es := by
    rw [List.filter_eq_self]
    intro r hr
    have : r.1 ≠ p.1 := fun e => hn.1 (List.mem_map.2 ⟨r, hr, e⟩)
    simpa using this
   rw [if_neg (by decide), this]
   rfl
  ·have hne : e.1 ≠ p.1 := fun he => hn.1 (List.mem_map.2 ⟨p, h', he.symm⟩)
   rw [show (!(e.1 == p.1)) = true by simpa using hne, if_pos rfl]
   have := ih hn.2 h'
   unfold del at this
   simp only [List.length_cons]
   omega
structure WrV (g : Geo) (s : SS) (now : Int → Sec) (lba : Int) (data : Sec) (ep n : Int) (xa xb : List Int) (r : Int × SS × List Int × List Int) : Prop where
 ok : r.1 = 0
 good : GoodE g r.2.1 (upd now lba data) ep
 steps : s.pw.steps ≤ r.2.1.pw.steps ∧ r.2.1.pw.steps ≤ s.pw.steps + (5 * n + 3)
 dead : ∀ i, xN r.2.1 i = xN s i
 keq : ∀ i : Nat, (r.2.1.ds.getD i dsk0).key = (s.ds.getD i dsk0).key
 view : ∀ i a, 0 ≤ i → 0 ≤ a → xR r.2.1 i a = none → xR s i a = none ∨ xN s i = true
 a : (r.2.2.1.length : Int) ≤ (xa.length : Int) + 370
 b : (r.2.2.2.length : Int) ≤ (xb.length : Int) + 370
theorem zAx {g : Geo} {s : SS} {now : Int → Sec} {ep : Int} (h : GoodE g s now ep) (hst1 : s.pw.steps < 100000000000) {lba : Int} (h0 : 0 ≤ lba) (h1 : lba < (g.d - 2) * g.c * g.s) (hl2 : xA (yU g s (yT g lba).1 (yT g lba).2.2) ≤ 2)
  {data : Sec} (hd : yD data) {v : Int} {fs : List Bool} (hfs : fs.length ≤ 2) {sz : Int} {xa xb : List Int} (ha : 400 ≤ sz - (xa.length : Int)) (hb : 400 ≤ sz - (xb.length : Int)) : WrV g s now lba data ep (fs.length : Int) xa xb (uT sz g fs v lba data ep s xa xb) := by
 have hs := h.ss
 have hi := h.inv
 have hn := h.nok
 have hl := h.lit
 have hst0 := h.st0
 obtain ⟨pst, pco, pof⟩ := vR hs.geo h0 h1
 obtain ⟨hp2, hps⟩ := ZH hs hi hn hl.1 h0 h1 hd hl2
 have hp3 : (yR g s lba data).1.length ≤ 3 := gF
 generalize hW : uT sz g fs v lba data ep s xa xb = W
 unfold uT at hW
 rw [if_neg (by simp [hp2])] at hW
 simp only at hW
 have hin : ∀ x ∈ (yR g s lba data).1, InR x := fun x hx => zB8 hs.geo (hps x hx).1
 have hnb : (yR g s lba data).1.any vX = false := by
  rw [List.any_eq_false]
  intro x hx
  rw [LH (hin x hx)]; decide
 have hbg : YD sz v (yR g s lba data).1 fs ⟨s.pw, xa, xb⟩ = kL sz fs ((yR g s lba data).1.map (recI v) ++ [recK 4 v]) ⟨s.pw, xa, xb⟩ := by
  unfold YD
  rw [if_neg (by rw [hnb]; decide)]
 rw [hbg] at hW
 obtain ⟨L, hL, hL4⟩ : ∃ L : Int, (((yR g s lba data).1.map (recI v) ++ [recK 4 v]).length : Int) = L ∧ (0 ≤ L ∧ L ≤ 4) := ⟨_, rfl, by simp; omega⟩
 have hprod : 0 ≤ L * (fs.length : Int) ∧ L * (fs.length : Int) ≤ 4 * (fs.length : Int) := ⟨Int.mul_nonneg hL4.1 (by omega), Int.mul_le_mul_of_nonneg_right hL4.2 (by omega)⟩
 obtain ⟨a1, a2, a3, a4, a5⟩ := GQ (sz := sz) hfs ((yR g s lba data).1.map (recI v) ++ [recK 4 v]) ⟨s.pw, xa, xb⟩ hl hst0 (by rw [hL]; show s.pw.steps + _ < _; omega) (by rw [hL]; show _ ≤ sz - (xa.length : Int); omega) (by rw [hL]; show _ ≤ sz - (xb.length : Int); omega)
 rw [hL] at a3 a4 a5
 generalize kL sz fs ((yR g s lba data).1.map (recI v) ++ [recK 4 v]) ⟨s.pw, xa, xb⟩ = B at *
 rw [if_neg (by simp [a1])] at hW
 have hs1 : SsOk g ⟨s.ds, B.2.pw⟩ := ⟨hs.geo, hs.num, hs.len, hs.ok⟩
 have hi1 : Inv g ⟨s.ds, B.2.pw⟩ now := hi.see hs.geo (fun _ _ _ _ => rfl)
 have hpp : yR g s lba data = yR g ⟨s.ds, B.2.pw⟩ lba data := zBj hl.1 a2.1 lba data
 rw [hpp] at hW
 obtain ⟨_, s', happ, hw⟩ := hi1.write (ep := ep) hs1 hn a2 h0 h1 hd h.key hl2
 have a3 : B.2.pw.steps = s.pw.steps + L * (fs.length : Int) := a3
 have a4 : (B.2.xa.length : Int) ≤ (xa.length : Int) + 37 * (L * (fs.length : Int)) := a4
 have a5 : (B.2.xb.length : Int) ≤ (xb.length : Int) + 37 * (L * (fs.length : Int)) := a5
 obtain ⟨_, hps1⟩ := ZH hs1 hi1 hn a2.1 h0 h1 hd hl2
 have hp31 : (yR g ⟨s.ds, B.2.pw⟩ lba data).1.length ≤ 3 := gF
 obtain ⟨s2, c1, _, _, c2, _, _, _⟩ := LO (ep := ep) hs1 a2 (by show 0 ≤ B.2.pw.steps; omega) (by show B.2.pw.steps + _ < _; omega) (fun x hx => (hps1 x hx).1) h.key
 rw [happ] at c1
 have e2 : s' = s2 := congrArg Prod.snd c1
 subst e2
 rw [happ] at hW
 rw [if_neg (by simp)] at hW
 have c2 : s'.pw.steps = B.2.pw.steps + ((yR g ⟨s.ds, B.2.pw⟩ lba data).1.length : Int) := c2
 obtain ⟨e1, e2, e3, e4, e5⟩ := vV (sz := sz) (x := recK 5 v) fs ⟨s'.pw, B.2.xa, B.2.xb⟩ hw.lit (by show 0 ≤ s'.pw.steps; omega) (by show s'.pw.steps + _ < _; omega) (by show _ ≤ sz - (B.2.xa.length : Int); omega) (by show _ ≤ sz - (B.2.xb.length : Int); omega)
 generalize yF sz (recK 5 v) fs ⟨s'.pw, B.2.xa, B.2.xb⟩ = E at *
 subst hW
 have e3 : E.2.pw.steps = s'.pw.steps + (fs.length : Int) := e3
 have e4 : (E.2.xa.length : Int) ≤ (B.2.xa.length : Int) + 37 * (fs.length : Int) := e4
 have e5 : (E.2.xb.length : Int) ≤ (B.2.xb.length : Int) + 37 * (fs.length : Int) := e5
 refine ⟨e1, ⟨⟨hw.ss.geo, hw.ss.num, hw.ss.len, hw.ss.ok⟩, e2, fun i => ?_, hw.inv.see hs.geo (fun _ _ _ _ => rfl), zAz hn hd lba, by show 0 ≤ E.2.pw.steps; omega⟩, ⟨by show s.pw.steps ≤ E.2.pw.steps; omega, by show E.2.pw.steps ≤ _; omega⟩, fun i => hw.dead i, fun i => hw.key i, fun i a hi' ha' => hw.view i a hi' ha', by show (E.2.xa.length : Int) ≤ _; omega, by show (E.2.xb.length : Int) ≤ _; omega⟩
 show (s'.ds.getD i dsk0).key ≤ ep
 rw [hw.key]
 exact h.key i
structure CostLe (s s' : AS) (n m : Int) : Prop where
 steps : s.ps.pw.steps ≤ s'.ps.pw.steps ∧ s'.ps.pw.steps ≤ s.ps.pw.steps + n
 a : (s'.ps.xa.length : Int) ≤ (s.ps.xa.length : Int) + m
 b : (s'.ps.xb.length : Int) ≤ (s.ps.xb.length : Int) + m
 last : s'.ps.last = s.ps.last + 1
 up : s'.ps.ua = s.ps.ua ∧ s'.ps.ub = s.ps.ub
structure Seen (s s' : SS) : Prop where
 dead : ∀ i, xN s' i = xN s i
 keq : ∀ i : Nat, (s'.ds.getD i dsk0).key = (s.ds.getD i dsk0).key
 view : ∀ i a, 0 ≤ i → 0 ≤ a → xR s' i a = none → xR s i a = none
theorem Qv.lost {q : AB} {s : AS} {fin : Int → Sec} {ep x y : Int} (h : Qv q s fin ep x y) {st off : Int} (hst : 0 ≤ st ∧ st < q.g.s) (hof : 0 ≤ off ∧ off < q.g.c) : xA (yU q.g s.ss st off) ≤ 2 := by
 obtain ⟨now, hg, _⟩ := h.good
 exact h.v2.lost hg.ss.geo _ _ hst hof
theorem Qv.out {q : AB} {s : AS} {fin : Int → Sec} {ep x y : Int} {f : Bool} (h : Qv q s fin ep x y) (hep : epA s f = ep) {p : Int × Ent} (hp : p ∈ s.ps.es) (hst : s.ps.pw.steps < 10000000000) (hla : s.ps.last < 1000000000000) (ha : 500 ≤ q.pb.sz - (s.ps.xa.length : Int)) (hb : 500 ≤ q.pb.sz - (s.ps.xb.length : Int)) :
  (outA q s f p).1 = 0 ∧ Qv q (outA q s f p).2 fin ep x y ∧ CostLe s (outA q s f p).2 (6 * ((upS s.ps f).length : Int) + 3) 444 ∧ (outA q s f p).2.ps.es = del s.ps.es p.1 ∧ Seen s.ss (outA q s f p).2.ss ∧
   (outA q s f p).2 = { s with ds := (outA q s f p).2.ds, ps := (outA q s f p).2.ps } := by
 have hm := QD h.nd hp
 obtain ⟨⟨p0, p1⟩, p2, p3, p4⟩ := h.es p.1 p.2 hm
 have hl0 := h.last
 obtain ⟨now, hg, hf⟩ := h.good
 have hs0 : 0 ≤ s.ps.pw.steps := hg.st0
 have hv : IntKind.wrap .u64 (s.ps.last + 1) = s.ps.last + 1 := vG (by omega) (by omega)
 unfold outA
 rw [hv]
 have hd : yD p.2.1 := by rw [p2]; exact h.fok _
 obtain ⟨pst, _, pof⟩ := vR hg.ss.geo p0 p1
 have hW := zAx (s := s.ss) (v := s.ps.last + 1) (fs := upS s.ps f) (sz := q.pb.sz) (xa := s.ps.xa) (xb := s.ps.xb) hg (by show s.ps.pw.steps < _; omega) p0 p1 (h.lost pst pof) hd (qD _ _) (by omega) (by omega)
 have hlu := qD s.ps f
 have hlu2 : (upS s.ps false).length = (upS s.ps f).length := by
  unfold upS
  cases f <;> cases s.ps.ua <;> cases s.ps.ub <;> rfl
 unfold outB
 have hu : upS { s.ps with last := s.ps.last + 1 } f = upS s.ps f := rfl
 have hss : (⟨s.ds, s.ps.pw⟩ : SS) = s.ss := rfl
 simp only [hu, hss, hep]
 generalize uT q.pb.sz q.g (upS s.ps f) (s.ps.last + 1) p.1 p.2.1 ep s.ss s.ps.xa s.ps.xb = r at *
 have w1 := hW.steps
 have w1 : s.ps.pw.steps ≤ r.2.1.pw.steps ∧ r.2.1.pw.steps ≤ s.ps.pw.steps + (5 * ((upS s.ps f).length : Int) + 3) := w1
 have wa := hW.a
 have wb := hW.b
 rw [if_neg (by simp [hW.ok])]
 have hgv : getV s.ps.es p.1 = (p.2.1, p.2.2, 0) := by unfold getV; rw [hm]
 have hcl : jQ s.ps.es p.1 p.2.2 = 0 := by unfold jQ; rw [hm]; simp only; rw [if_neg (by omega)]
 have hu2 : upS { s.ps with last := s.ps.last + 1, pw := r.2.1.pw, xa := r.2.2.1, xb := r.2.2.2 } false = upS s.ps false := rfl
 obtain ⟨m1, m2, m3, m4, m5⟩ := vV (sz := q.pb.sz) (x := ⟨2, p.2.2, p.1, sec []⟩) (upS s.ps false) ⟨r.2.1.pw, r.2.2.1, r.2.2.2⟩ hW.good.lit (by show 0 ≤ r.2.1.pw.steps; omega) (by show r.2.1.pw.steps + _ < _; omega) (by show _ ≤ q.pb.sz - (r.2.2.1.length : Int); omega) (by show _ ≤ q.pb.sz - (r.2.2.2.length : Int); omega)
 have hfl : X7 q.pb.sz { s.ps with last := s.ps.last + 1, pw := r.2.1.pw, xa := r.2.2.1, xb := r.2.2.2 } p.1 p.2.2 = (0, { s.ps with last := s.ps.last + 1, es := del s.ps.es p.1, pw := (yF q.pb.sz ⟨2, p.2.2, p.1, sec []⟩ (upS s.ps false) ⟨r.2.1.pw, r.2.2.1, r.2.2.2⟩).2.pw, xa := (yF q.pb.sz ⟨2, p.2.2, p.1, sec []⟩ (upS s.ps false) ⟨r.2.1.pw, r.2.2.1, r.2.2.2⟩).2.xa, xb := (yF q.pb.sz ⟨2, p.2.2, p.1, sec []⟩ (upS s.ps false) ⟨r.2.1.pw, r.2.2.1, r.2.2.2⟩).2.xb }) := by
  unfold X7
  simp only [hgv]
  rw [if_neg (by decide), if_neg (by omega)]
  unfold gR
  rw [hu2, WB]
  simp only [m1, hcl]
  rfl
 rw [hfl]
 generalize yF q.pb.sz ⟨2, p.2.2, p.1, sec []⟩ (upS s.ps false) ⟨r.2.1.pw, r.2.2.1, r.2.2.2⟩ = M at *
 have m3 : M.2.pw.steps = r.2.1.pw.steps + ((upS s.ps false).length : Int) := m3
 have m4 : (M.2.xa.length : Int) ≤ (r.2.2.1.length : Int) + 37 * ((upS s.ps false).length : Int) := m4
 have m5 : (M.2.xb.length : Int) ≤ (r.2.2.2.length : Int) + 37 * ((upS s.ps false).length : Int) := m5
 rw [hlu2] at m3 m4 m5
 have hseen : Seen s.ss ⟨r.2.1.ds, M.2.pw⟩ := ⟨fun i => hW.dead i, fun i => hW.keq i, fun i a hi ha hv => by
  rcases hW.view i a hi ha hv with hh | hh
  ·exact hh
  ·exact OZ hh⟩
 refine ⟨rfl, ⟨⟨upd now p.1 p.2.1, hW.good.pow m2 (by show 0 ≤ M.2.pw.steps; omega), fun l hl => ?_⟩, fun j a hj ha hv => h.v2 j a hj ha (hseen.view j a hj.1 ha.1 hv), fun l e hl => ?_, HM h.nd _, by show 0 ≤ s.ps.last + 1; omega, h.fok⟩, ⟨⟨by show s.ps.pw.steps ≤ M.2.pw.steps; omega, by show M.2.pw.steps ≤ _; omega⟩, by show (M.2.xa.length : Int) ≤ _; omega, by show (M.2.xb.length : Int) ≤ _; omega, rfl, rfl, rfl⟩, rfl, hseen, rfl⟩
 ·have hl : zS (del s.ps.es p.1) l = none := hl
  rw [QE] at hl
  unfold upd
  by_cases he : l = p.1
  ·rw [if_pos he, p2, he]
  ·rw [if_neg he] at hl ⊢
   exact hf l hl
 ·have hl : zS (del s.ps.es p.1) l = some e := hl
  rw [QE] at hl
  split at hl
  ·cases hl
  ·obtain ⟨e1, e2, e3, e4⟩ := h.es l e hl
   exact ⟨e1, e2, e3, by show e.2 ≤ s.ps.last + 1; omega⟩
theorem Qv.set {q : AB} {s : AS} {fin : Int → Sec} {ep ep' x y x' y' : Int} (h : Qv q s fin ep x y) {s' : SS} (hg : ∀ now, GoodE q.g s.ss now ep → GoodE q.g s' now ep') (hv : V2 q.g s' x' y') {u v : Bool} {ea eb : Int} {la lb sp : Bool} {mk : List Int} {lt : Int} {d : Dk} :
  Qv q ⟨s'.ds, { s.ps with pw := s'.pw }, u, v, la, ea, lb, eb, sp, mk, lt, d⟩ fin ep' x' y' := by
 obtain ⟨now, g1, g2⟩ := h.good
 exact ⟨⟨now, hg now g1, g2⟩, hv, h.es, h.nd, h.last, h.fok⟩
theorem V2.all {g : Geo} {s : SS} (h : ∀ j a, (0 ≤ j ∧ j < g.d) → (0 ≤ a ∧ a < g.c * g.s) → xR s j a ≠ none) (x y : Int) : V2 g s x y := fun j a hj ha hv => absurd hv (h j a hj ha)
theorem zMo {g : Geo} (hg : GeoOk g) (x y : Int) : V2 g (newS g pw0) x y := V2.all (fun j a hj ha => by rw [KA hg hj ha]; simp) x y
theorem zP1 {q : AB} {g : Geo} (hg : GeoOk g) (hqg : q.g = g) (x y : Int) : Qv q (arS0 g) now0 0 x y := by
 refine ⟨⟨now0, by rw [hqg]; exact (zFl hg).toE, fun _ _ => rfl⟩, by rw [hqg]; exact zMo hg x y, fun l e h => absurd (show (none : Option Ent) = some e from h) (by simp), List.nodup_nil, (show (0 : Int) ≤ 0 by decide), zFk⟩
theorem zG3 {g : Geo} {s : SS} {now : Int → Sec} (h : GoodE g s now 0) : keyS s = 0 := by
 have h1 := zG5 (s := s) (e := 0) (by decide) h.key
 have h2 := zG4 s
 omega
theorem Qv.ready {q : AB} {s : AS} {fin : Int → Sec} {ep x y : Int} {f : Bool} (h : Qv q s fin ep x y) (hl : gJ s f = true) (he : ep ≤ epA s f) (h0 : 0 ≤ ep) : vM s f = true := by
 obtain ⟨now, hg, _⟩ := h.good
 have := zG5 (s := s.ss) h0 hg.key
 have hon : s.ps.pw.on = true := hg.lit.1
 unfold vM
 rw [hon, hl, decide_eq_true (by omega)]
 rfl
theorem zA1 {g : Geo} {s : SS} {now : Int → Sec} {ep : Int} (h : GoodE g s now ep) {i : Int} (hi : 0 ≤ i ∧ i < g.d) : GoodE g (X8 s i) now ep :=
 ⟨zJp h.ss hi.1 hi.2, h.lit, fun j => by rw [zGl (by have := h.ss.num; omega)]; exact h.key j, zGm h.ss h.inv hi.1 hi.2, h.nok, h.st0⟩
theorem zC4 (s : AS) (n : Nat) : (UU s n).ss = X8 s.ss (n : Int) := by unfold X8; rw [Int.toNat_natCast]; rfl
theorem Qv.fail {q : AB} {s : AS} {fin : Int → Sec} {ep x : Int} (h : Qv q s fin ep x x) {n : Nat} (hn : (n : Int) < q.g.d) : Qv q (UU s n) fin ep x n := by
 obtain ⟨now, hg, _⟩ := h.good
 have := h.set (s' := (UU s n).ss) (x' := x) (y' := n) (fun now' g' => by rw [zC4]; exact zA1 g' ⟨by omega, hn⟩) (by rw [zC4]; exact h.v2.fail hg.ss ⟨by omega, hn⟩) (u := s.ua) (v := s.ub) (ea := s.ea) (eb := s.eb) (la := s.la) (lb := s.lb) (sp := s.split) (mk := s.marks) (lt := s.later) (d := s.d)
 exact this
section rb
variable {q : AB} {k ph : Nat} {left S A L : Int} {fin : Int → Sec} {s : AS}
end rb
end Go.Proofs
