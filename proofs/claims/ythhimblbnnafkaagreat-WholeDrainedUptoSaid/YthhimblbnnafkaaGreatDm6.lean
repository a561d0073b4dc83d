import Derived.Test.YthhimblbnnafkaaGreatDm5
set_option linter.unusedSimpArgs false
set_option linter.unusedVariables false
namespace Go.Proofs
open Go Go.Ev Go.RowKit
set_option maxRecDepth 100000
def YB (s : AS) : Option Bool := if vM s false = true then some false else if vM s true = true then some true else none
def zPs (o : Option Bool) : Int := match o with
 | some f => zZ f
 | none => 0
section plain
variable {w w' : World} {q : AB} {lk : Int} {s : AS}
end plain
section calls
variable {w : World} {q : AB} {lk : Int} {s : AS} {R : Value → World → Prop}
theorem zK6 (h : ArAt w q lk s) (hK : ∀ w', Keep (fun _ => False) w w' → R (.tuple #[.int .i64 (zPs (YB s)), .bool (YB s).isSome]) w') : zB Tryz.prog 161 #[.pointer (some ⟨q.a, 0, none⟩)] w R := by
 apply XD
 unfold jE
 unfold YB at hK
 refine zP (σ := Int × Unit) (fun st w' => Keep (fun _ => False) w w' ∧ (st.1 = 0 ∨ (st.1 = 1 ∧ vM s false = false) ∨ (st.1 = 2 ∧ vM s false = false ∧ vM s true = false))) (fun st _ => (2 - st.1).toNat) ⟨Keep.refl _ _, Or.inl rfl⟩ ?_
 rintro _ ⟨i, u⟩ w1 ⟨k1, hi⟩
 simp only at hi ⊢
 have h1 := h.zX k1
 rcases hi with hi | ⟨hi, r0⟩ | ⟨hi, r0, r1⟩
 ·subst hi
  refine (zT (q := _)).2 ?_
  refine OD h1 false fun w2 k2 => zM.2 ?_
  cases hr : vM s false with
  | true =>
   rw [hr, if_pos rfl] at hK
   exact (zT (q := _)).2 (zF.2 (hK w2 (k1.trans k2)))
  | false => exact (zH (p := _)).2 ⟨_, by decide, ⟨k1.trans k2, Or.inr (Or.inl ⟨by decide, rfl⟩)⟩, rfl⟩
 ·subst hi
  refine (zT (q := _)).2 ?_
  refine OD h1 true fun w2 k2 => zM.2 ?_
  rw [r0, if_neg (by decide)] at hK
  cases hr : vM s true with
  | true =>
   rw [hr, if_pos rfl] at hK
   exact (zT (q := _)).2 (zF.2 (hK w2 (k1.trans k2)))
  | false => exact (zH (p := _)).2 ⟨_, by decide, ⟨k1.trans k2, Or.inr (Or.inr ⟨by decide, r0, rfl⟩)⟩, rfl⟩
 ·subst hi
  refine (zH (p := _)).2 ?_
  rw [r0, r1, if_neg (by decide), if_neg (by decide)] at hK
  exact zF.2 (hK w1 k1)
theorem zK8 (h : ArAt w q lk s) (hK : ∀ w', Keep (fun _ => False) w w' → R (if s.ps.pw.on = false then .tuple #[.int .i64 0, .int .i64 4] else match YB s with
      | some f => .tuple #[.int .i64 (zZ f), .int .i64 0]
      | none => .tuple #[.int .i64 0, .int .i64 13]) w') : zB Tryz.prog 85 #[.pointer (some ⟨q.a, 0, none⟩)] w R := by
 apply XF
 unfold jG
 refine zK5 h (GB h.pair.main (zM.2 ?_))
 cases hon : s.ps.pw.on with
 | false =>
  rw [hon, if_pos rfl] at hK
  exact (zT (q := _)).2 (zF.2 (hK w (Keep.refl _ _)))
 | true =>
  rw [hon, if_neg (by decide)] at hK
  refine (zH (p := _)).2 ?_
  refine zK6 h fun w1 k1 => yM.2 (zA.2 (zM.2 ?_))
  cases hf : YB s with
  | some f =>
   rw [hf] at hK
   exact (zH (p := _)).2 (zF.2 (hK w1 k1))
  | none =>
   rw [hf] at hK
   exact (zT (q := _)).2 (zF.2 (hK w1 k1))
theorem M5 (h : ArAt w q lk s) {f : Bool} (hon : s.ps.pw.on = true) (hf : YB s = some f) (hK : ∀ w', Keep (fun _ => False) w w' → R (.tuple #[.int .i64 (zZ f), .int .i64 0]) w') : zB Tryz.prog 85 #[.pointer (some ⟨q.a, 0, none⟩)] w R := by
 refine zK8 h fun w' k => ?_
 rw [if_neg (by rw [hon]; decide), hf]
 exact hK w' k
end calls
theorem zE6 : zc Tryz.prog 246 = recV ⟨0, 0, 0, sec []⟩ := by kernel_rfl
def esOf (D : List Rec) : List (Int × Ent) := D.map fun r => (r.lba, (r.data, r.ver))
theorem X9 (D : List Rec) : (esOf D).map (·.1) = D.map (·.lba) := by unfold esOf; rw [List.map_map]; rfl
theorem zGp (D : List Rec) (r : Rec) : esOf (D ++ [r]) = esOf D ++ [(r.lba, (r.data, r.ver))] := by unfold esOf; simp
theorem KF {α : Type} {es : List (Int × α)} {x : Int} (h : x ∉ es.map (·.1)) : zS es x = none := by
 unfold zS
 rw [Option.map_eq_none_iff, List.find?_eq_none]
 intro p hp he
 exact h (List.mem_map.2 ⟨p, hp, by simpa using he⟩)
section calls
variable {w : World} {R : Value → World → Prop}
theorem zF7 {base m a b : Nat} {room sz : Int} {pw : Pow} {xa xb : List Int} (hm : MaAt w m pw) (hr : ∃ pa la ca pb lb cb, RaAt w base m a sz pa la ca xa ∧ RaAt w base m b sz pb lb cb xb ∧ ∀ k, pa = some ⟨k, 0, none⟩ → ¬ pb = some ⟨k, 0, none⟩)
  (hne : a ≠ b) (hfit : (xa.length : Int) ≤ sz ∧ (xb.length : Int) ≤ sz) (hform : 37 ≤ sz ∧ sz ≤ 65536) (h1 : 1 ≤ room) (h2 : room ≤ 64) (hbase : base ≤ w.heap.size)
  {epoch last : Int} {dp : Option Addr} {dl dc : Nat} {D : List Rec} (hD : SlL rLay w dp dl D) (hk : ∀ r ∈ D, r.kind = 1 ∧ (0 ≤ r.lba ∧ r.lba ≤ 2147483647) ∧ r.ver ≤ last) (hnd : (D.map (·.lba)).Nodup) (hlen : (dl : Int) ≤ room)
  (hK : ∀ p c mp w', PairAt w' ⟨p, c, mp, m, a, b, base, room, sz⟩ ⟨esOf D, last, epoch, true, true, pw, xa, xb⟩ → Keep (fun _ => False) w w' → w.heap.size ≤ p → w.heap.size ≤ mp → R (.tuple #[.pointer (some ⟨p, 0, none⟩), .int .i64 0]) w') :
  zB Tryz.prog 139 #[.pointer (some ⟨a, 0, none⟩), .pointer (some ⟨b, 0, none⟩), .int .i64 room, .int .u32 epoch, .int .u64 last, .slice dp dl dc] w R := by
 apply hU
 unfold kY
 obtain rfl : dl = D.length := hD.1
 refine LC h1 h2 fun c mp w1 hc k1 hcb hmb => ?_
 refine yM.2 ?_
 refine Or.inr ⟨c, 0, rfl, ?_⟩
 refine zA.2 ⟨rfl, rfl, ?_⟩
 obtain ⟨pa, la, ca, pb, lb, cb, ha, hb, hpp⟩ := hr
 refine zHn hne (k1.has ha.cells (by simp)) (k1.has hb.cells (by simp)) ?_
 refine ⟨rfl, rfl, ?_⟩
 refine (zH (p := _)).2 ?_
 refine ⟨_, _, run_makeMap, ?_⟩
 refine vZ.2 ?_
 have k2 : Keep (fun _ => False) w1 (w1.alloc (.map #[] 0)) := Keep.new _ _ _
 have hm2 : x8 .i64 (w1.alloc (.map #[] 0)) w1.heap.size [] := ⟨_, _, Has.new _ _, MapOk.nil _⟩
 generalize w1.alloc (.map #[] 0) = w2 at *
 have k02 := k1.trans k2
 have hc2 := hc.keep k2 (by simp) (by simp)
 have hD2 := hD.yA k02 (by simp)
 have hml := hm2.lt
 have hcl := hc.lt
 refine zP (σ := Int × Unit) (fun st w' => ∃ j : Nat, st.1 = (j : Int) ∧ j ≤ D.length ∧ x8 .i64 w' w1.heap.size (KR ((D.take j).map (·.lba))) ∧ Keep (fun k => k = w1.heap.size) w2 w') (fun st _ => ((D.length : Int) - st.1).toNat) ⟨0, rfl, by omega, hm2, Keep.refl _ _⟩ ?_
 rintro _ ⟨i, u⟩ w3 ⟨j, hi, hj, hm3, k3⟩
 simp only at hi ⊢
 subst hi
 have z2 := k2.size
 have k03 : Keep (fun _ => False) w w3 := k02.trans' k3 fun i hi e => by have := k1.size; omega
 have lowk : ∀ {w' : World} {S : Nat → Prop}, Keep S w2 w' → (∀ i, S i → i = w1.heap.size) → Keep (fun _ => False) w w' := fun k h => k02.trans' k fun i hi e => by have := h i e; have := k1.size; omega
 refine zN (fun hcc => ?_) (fun hcc => ?_)
 ·have hj : j < D.length := by simp at hcc; omega
  obtain ⟨r, hr⟩ : ∃ r, D[j]? = some r := ⟨_, List.getElem?_eq_getElem hj⟩
  obtain ⟨r1, r2, r3⟩ := hk r (List.mem_of_getElem? hr)
  refine (hD.yA k03 (by simp)).ldA (x := r) rfl (by omega) (by rw [Int.toNat_natCast]; exact hr) ?_
  rw [O5]
  refine yN (by rw [zE6]; rfl) rfl (uP _) fun w4 hb4 k4 z4 => ?_
  have hm4 := hm3.keep k4 (by simp)
  refine zG (v := .int .i64 r.lba) hb4 rfl (zA.2 ?_)
  have hnot : r.lba ∉ (D.take j).map (·.lba) := fun hmem => by
   obtain ⟨r', hr', he⟩ := List.mem_map.1 hmem
   obtain ⟨i', hi', hg'⟩ := GA hr'
   have hi2 : (D.map (·.lba))[i']? = some r.lba := by rw [List.getElem?_map, hg', ← he]; rfl
   have hj2 : (D.map (·.lba))[j]? = some r.lba := by rw [List.getElem?_map, hr]; rfl
   have := (List.getElem?_inj (by rw [List.length_map]; omega) hnd).1 (hi2.trans hj2.symm)
   omega
  have hlk := zDf ((D.take j).map (·.lba)) r.lba
  rw [if_neg hnot] at hlk
  refine zV (v := .tuple #[.agg #[], .bool false]) (fun d => ?_) (yM.2 (zJ.2 ⟨rfl, zM.2 ?_⟩))
  ·have := uJ (P := Tryz.prog) (t := 316) (kt := 3) (et := 130) (z := .agg #[]) (by kernel_rfl) (by kernel_rfl) (fun w => xS (i := (Tryz.prog.info? 130).get (by kernel_rfl)) (by kernel_rfl) (by kernel_rfl)) (hm4.dr d) r.lba true
   rw [this, hlk]; rfl
  refine yN (by kernel_rfl) rfl (by simp) fun w5 hb5 k5 z5 => ?_
  have hb5' := k5.has hb4 (by simp)
  have hm5 := hm4.keep k5 (by simp)
  have k35 := k4.trans k5
  refine zG (v := .int .i64 r.kind) hb5' rfl (zA.2 ?_)
  rw [r1]
  refine (zH (p := _)).2 ?_
  refine zG (v := .int .i64 r.lba) hb5' rfl (zA.2 ?_)
  rw [decide_eq_false (show ¬ r.lba < 0 by omega)]
  refine (zH (p := _)).2 (zG (v := .int .i64 r.lba) hb5' rfl (zA.2 ?_))
  rw [decide_eq_false (show ¬ r.lba > 2147483647 by omega)]
  refine (zH (p := _)).2 (zG (v := .int .u64 r.ver) hb5' rfl (zA.2 ⟨by trivial, ?_⟩))
  rw [decide_eq_false (show ¬ r.ver > last by omega)]
  refine (zH (p := _)).2 (zG (v := .int .i64 r.lba) hb5' rfl (zA.2 ?_))
  refine zV (v := .agg #[]) (fun _ => run_build _ _ _ _ (by kernel_rfl)) (zJ.2 ⟨rfl, ?_⟩)
  obtain ⟨arr, clk, hru, ho⟩ := x6 (P := Tryz.prog) (t := 316) (kt := 3) (et := 130) (by kernel_rfl) (by kernel_rfl) hm5 r.lba (.agg #[])
  refine ⟨_, hru, ?_⟩
  have ek : IntKind.wrap .i64 ((j : Int) + 1) = ((j + 1 : Nat) : Int) := by
   have : (D.length : Int) ≤ 64 := by omega
   rw [zW (by omega) (by omega)]; omega
  refine ⟨_, by show ((D.length : Int) - IntKind.wrap .i64 ((j : Int) + 1)).toNat < ((D.length : Int) - (j : Int)).toNat; rw [ek]; omega, ⟨j + 1, ek, by omega, ?_, (k3.trans (k35.mono fun _ h => h.elim)).trans (Keep.one _ _ _)⟩, rfl⟩
  rw [List.take_add_one, hr]
  show x8 .i64 _ _ (KR ((D.take j ++ [r]).map (·.lba)))
  rw [List.map_append]
  show x8 .i64 _ _ (KR ((D.take j).map (·.lba) ++ [r.lba]))
  rw [zDe]
  exact ⟨_, _, (by obtain ⟨a, c, hb, _⟩ := hm5; exact hb.zL _), ho⟩
 have hc3 : yQ w3 c mp room [] := hc2.keep k3 (by omega) (by omega)
 rw [decide_eq_false (show ¬ ((D.length : Nat) : Int) > room by omega)]
 refine (zH (p := _)).2 ?_
 clear hm3 hcc hj
 refine zP (σ := Int × Unit) (fun st w' => ∃ j : Nat, st.1 = (j : Int) ∧ j ≤ D.length ∧ yQ w' c mp room (esOf (D.take j)) ∧ Keep (fun k => k = mp) w3 w') (fun st _ => ((D.length : Int) - st.1).toNat) ⟨0, rfl, by omega, hc3, Keep.refl _ _⟩ ?_
 rintro _ ⟨i, u⟩ w4 ⟨j, hi, hj, hc4, k4⟩
 simp only at hi ⊢
 subst hi
 have k04 : Keep (fun _ => False) w w4 := k03.trans' k4 fun i hi e => by omega
 refine zN (fun hcc => ?_) (fun hcc => ?_)
 ·have hj : j < D.length := by simp at hcc; omega
  obtain ⟨r, hr⟩ : ∃ r, D[j]? = some r := ⟨_, List.getElem?_eq_getElem hj⟩
  obtain ⟨r1, r2, r3⟩ := hk r (List.mem_of_getElem? hr)
  refine (hD.yA k04 (by simp)).ldA (x := r) rfl (by omega) (by rw [Int.toNat_natCast]; exact hr) ?_
  rw [O5]
  refine yN (by rw [zE6]; rfl) rfl (uP _) fun w5 hb5 k5 z5 => ?_
  refine zG (v := .int .i64 r.lba) hb5 rfl (zA.2 ?_)
  refine xO (cs := secV r.data) hb5 (by show 3 + 16 ≤ 19; decide) (by
   apply Array.ext'
   simp only [Array.toList_extract, List.extract_eq_take_drop]
   rfl) ?_
  refine zG (v := .int .u64 r.ver) hb5 rfl (zA.2 ?_)
  have hnot : r.lba ∉ (D.take j).map (·.lba) := fun hmem => by
   obtain ⟨r', hr', he⟩ := List.mem_map.1 hmem
   obtain ⟨i', hi', hg'⟩ := GA hr'
   have hi2 : (D.map (·.lba))[i']? = some r.lba := by rw [List.getElem?_map, hg', ← he]; rfl
   have hj2 : (D.map (·.lba))[j]? = some r.lba := by rw [List.getElem?_map, hr]; rfl
   have := (List.getElem?_inj (by rw [List.length_map]; omega) hnd).1 (hi2.trans hj2.symm)
   omega
  have hmn : zS (esOf (D.take j)) r.lba = none := KF (by rw [X9]; exact hnot)
  have hpe : putE room (esOf (D.take j)) r.lba r.ver = 0 := by
   unfold putE
   rw [if_neg (by omega), hmn]
   simp only
   rw [if_neg]
   unfold esOf
   rw [List.length_map, List.length_take]
   omega
  refine K9 (hc4.keep k5 (by simp) (by simp)) fun w6 k6 hc6 => zA.2 ?_
  rw [hpe, if_pos rfl] at hc6
  have ek : IntKind.wrap .i64 ((j : Int) + 1) = ((j + 1 : Nat) : Int) := by
   have : (D.length : Int) ≤ 64 := by omega
   rw [zW (by omega) (by omega)]; omega
  refine ⟨_, by show ((D.length : Int) - IntKind.wrap .i64 ((j : Int) + 1)).toNat < ((D.length : Int) - (j : Int)).toNat; rw [ek]; omega, ⟨j + 1, ek, by omega, ?_, (k4.trans (k5.mono fun _ h => h.elim)).trans k6⟩, rfl⟩
  rw [List.take_add_one, hr]
  show yQ w6 c mp room (esOf (D.take j ++ [r]))
  rw [zGp]
  have : ins (esOf (D.take j)) r.lba (r.data, r.ver) = esOf (D.take j) ++ [(r.lba, (r.data, r.ver))] := by
   unfold ins
   rw [if_neg]
   intro hh
   obtain ⟨p, hp, he⟩ := List.any_eq_true.1 hh
   have : r.lba ∈ (esOf (D.take j)).map (·.1) := List.mem_map.2 ⟨p, hp, by simpa using he⟩
   rw [X9] at this
   exact hnot this
  rw [← this]
  exact hc6
 have hj : D.length = j := by simp at hcc; omega
 rw [← hj, List.take_length] at hc4
 refine zV (v := .agg #[.pointer (some ⟨a, 0, none⟩), .pointer (some ⟨b, 0, none⟩)]) (fun d => run_build _ _ _ _ (by kernel_rfl)) ?_
 refine zJ.2 ⟨rfl, ?_⟩
 refine zV (v := .agg #[.bool true, .bool true]) (fun d => run_build _ _ _ _ (by kernel_rfl)) ?_
 refine zJ.2 ⟨rfl, ?_⟩
 refine zV (v := .agg (NQ ⟨0, c, mp, m, a, b, base, room, sz⟩ ⟨esOf D, last, epoch, true, true, pw, xa, xb⟩)) (fun d => run_build _ _ _ _ (by kernel_rfl)) ?_
 refine zJ.2 ⟨rfl, ?_⟩
 refine zK fun w5 hb5 k5 z5 => ?_
 refine zF.2 ?_
 have k05 := k04.trans k5
 refine hK _ c mp w5 ⟨hb5, hc4.keep k5 (by simp) (by simp), k05.has hm (by simp), ⟨pa, la, ca, pb, lb, cb, ha.keep k05 (by simp) (by simp), hb.keep k05 (by simp) (by simp), hpp⟩, hne, hfit, hform, ?_⟩ k05 ?_ hmb
 ·show base ≤ w4.heap.size
  have := k04.size
  omega
 ·exact k04.size
end calls
end Go.Proofs
namespace Go.Proofs
open Go.Ev
set_option maxRecDepth 100000
def wM (r : Nat) (w : World) (R : Value → World → Prop) : Prop :=
 LdV r 2 (At w) fun v => OpS v fun p l c => zB Tryz.prog 136 #[.slice p l c] w fun v1 w => T2 v1 fun v2 v3 => OpS v2 fun p1 l1 c1 => OpI .i64 v3 fun n => LdV r 2 (At w)
 fun v4 => OpS v4 fun p2 l2 c2 => Slc l2 c2 none (some n) none fun l3 h m => StV r 2 (.slice (slcP 1 l3 m p2) (h - l3) (m - l3)) w fun w => Ret [] (R (.tuple #[]) w)
theorem UZ {r : Nat} {w : World} {R : Value → World → Prop} (h : wM r w R) : zB Tryz.prog 89 #[.pointer (some ⟨r, 0, none⟩)] w R := by
 exact zE (args := [.pointer (some ⟨r, 0, none⟩)]) (zR [] [] [] [] []) zD Tryz.func89 rfl rfl (by kernel_rfl) h
end Go.Proofs
namespace Go.Proofs
open Go Go.Ev Go.RowKit
set_option maxRecDepth 100000
theorem zCv (xs : List Int) (n : Nat) : zU.rows (xs.take n) = (zU.rows xs).take n := by
 induction xs generalizing n with
 | nil => simp [Lay.rows]
 | cons x xs ih =>
  cases n with
  | zero => simp [Lay.rows]
  | succ n =>
   have e : ∀ ys : List Int, zU.rows (x :: ys) = .int .u8 x :: zU.rows ys := fun _ => rfl
   rw [List.take_succ_cons, e, e, List.take_succ_cons, ih]
theorem OwnL.zHz {w : World} {base : Nat} {e : TypeId} {p : Option Addr} {l c : Nat} {xs : List Int} (h : OwnL zU w base e p l c xs) {n : Nat} (hn : n ≤ l) : OwnL zU w base e p n c (xs.take n) ∧ slcP 1 0 c p = p := by
 rcases Own.cases h with ⟨rfl, rfl, rfl, h0⟩ | ⟨b, cur, rfl, hb', hg, hle, hm, hs, ht⟩
 ·have : n = 0 := by omega
  subst this
  refine ⟨OwnL.nil, ?_⟩
  unfold slcP
  rw [if_pos rfl]
 ·have hs1 : zU.size = 1 := rfl
  refine ⟨Own.mk hb' hg (by omega) hm hs ?_, ?_⟩
  ·rw [zCv, ← ht, List.take_take, hs1, Nat.mul_one, Nat.mul_one, Nat.min_eq_left hn]
  ·unfold slcP
   split
   ·rfl
   ·rfl
section calls
variable {w : World} {R : Value → World → Prop}
theorem zEz {base m r l c : Nat} {size : Int} {p : Option Addr} {bs : List Int} {L : List Rec} (h : RaAt w base m r size p l c bs) (hk : kT bs L) (hl : l ≤ 1000000)
  (hK : ∀ w' l', RaAt w' base m r size p l' c (L.flatMap zY) → Keep (fun k => k = r) w w' → R (.tuple #[]) w') : zB Tryz.prog 89 #[.pointer (some ⟨r, 0, none⟩)] w R := by
 apply UZ
 unfold wM
 refine zG (v := .slice p l c) h.cells rfl (zC.2 ?_)
 have hlc := h.row.cap.1
 have hlen := h.row.length
 refine zLb h.row.sl hl hlc hk.byb fun p' c' w1 o k1 => yM.2 (zC.2 (zA.2 ?_))
 rw [hk.scan]
 obtain ⟨t, ht1, ht2, ht3⟩ := hk.2
 have hfl : (L.flatMap zY).length = 37 * L.length := by rw [XS]
 have hbl : bs.length = 37 * L.length + t.length := by rw [ht3, List.length_append, hfl]
 have h1 := k1.has h.cells (by simp)
 have hr1 : OwnL zU w1 base 5 p l c bs := h.row.keep k1 (by simp)
 refine zG (v := .slice p l c) h1 rfl (zC.2 ?_)
 rw [show (37 * (L.length : Int)) = ((37 * L.length : Nat) : Int) by omega]
 obtain ⟨q1, q2⟩ := OwnL.zHz hr1 (n := 37 * L.length) (by omega)
 refine G2 (hi := 37 * L.length) (by omega) ?_
 rw [q2, Nat.sub_zero, Nat.sub_zero]
 refine xZ h1 (by show 2 < 3; decide) rfl (zF.2 ?_)
 have etk : bs.take (37 * L.length) = L.flatMap zY := by rw [ht3, List.take_left' hfl]
 rw [etk] at q1
 have hset : (raC m size p l c).setIfInBounds 2 (.slice p (37 * L.length) c) = raC m size p (37 * L.length) c := rfl
 rw [hset]
 have k2 := Keep.one w1 r (.cells (raC m size p (37 * L.length) c) 214 (0, 0))
 refine hK _ (37 * L.length) ⟨h1.zL _, q1.keep k2 fun b hb e => ?_⟩ ((k1.mono fun _ h => h.elim).trans k2)
 rcases Own.cases q1 with ⟨h0, _⟩ | ⟨b', cur, h0, _, hg, _⟩
 ·rw [h0] at hb; cases hb
 ·rw [h0] at hb
  cases hb
  subst e
  have := h1.inj hg
  simp only [Obj.cells.injEq] at this
  exact absurd this.2.1 (by decide)
def zHy (s : MS) (f : Bool) (bs : List Int) : MS := ⟨s.pw, cond f s.xa bs, cond f bs s.xb⟩
theorem zJ0 {q : MB} {s : MS} (h : MemsAt w q s) (f : Bool) {L : List Rec} (hk : kT (cond f s.xb s.xa) L) (hK : ∀ w', MemsAt w' q (zHy s f (L.flatMap zY)) → Keep (y6 q w) w w' → R (.tuple #[]) w') :
  zB Tryz.prog 89 #[.pointer (some ⟨ramM q f, 0, none⟩)] w R := by
 obtain ⟨pa, la, ca, pb, lb, cb, ha, hb, hne⟩ := h.rams
 have hfit := h.fit
 have hform := h.form
 have bne : ∀ {p : Option Addr} {l c : Nat} {bs : List Int} {k : Nat} {cs : Array Value} {t : TypeId} {f : Nat × Nat}, OwnL zU w q.base 5 p l c bs → Has w k (.cells cs t f) → t ≠ 5 → ¬ p = some ⟨k, 0, none⟩ := by
  intro p l c bs k cs t f ho hk ht hp
  rcases Own.cases ho with ⟨h0, _⟩ | ⟨b', cur, h0, _, hg, _⟩
  ·rw [h0] at hp; cases hp
  ·rw [h0] at hp; cases hp
   have := hk.inj hg
   simp only [Obj.cells.injEq] at this
   exact ht this.2.1
 have lenL : ∀ {bs : List Int}, kT bs L → ((L.flatMap zY).length : Int) ≤ (bs.length : Int) := fun hk => by
  obtain ⟨t, _, _, ht3⟩ := hk.2
  rw [ht3, List.length_append]; omega
 have nm : ∀ {cs : Array Value} {b : Nat}, Has w b (.cells cs 214 (0, 0)) → q.m ≠ b := fun hb e => by
  subst e
  have := hb.inj (show Has w _ _ from h.main)
  simp only [Obj.cells.injEq] at this
  exact absurd this.2.1 (by decide)
 cases f
 ·refine zEz ha hk (by rw [ha.row.length]; omega) fun w' l' hr k => ?_
  have hll := lenL hk
  exact hK w' ⟨k.has (show Has w _ _ from h.main) (nm ha.cells), ⟨pa, l', ca, pb, lb, cb, hr, ⟨k.has hb.cells fun e => h.ne e.symm, hb.row.keep k fun b hb' e => bne hb.row ha.cells (by decide) (by rw [hb', show b = q.a from e])⟩, hne⟩, h.ne, ⟨Int.le_trans hll hfit.1, hfit.2⟩, hform, Nat.le_trans h.low k.size⟩ (k.mono fun i e => Or.inr (Or.inl e))
 ·refine zEz hb hk (by rw [hb.row.length]; omega) fun w' l' hr k => ?_
  have hll := lenL hk
  exact hK w' ⟨k.has (show Has w _ _ from h.main) (nm hb.cells), ⟨pa, la, ca, pb, l', cb, ⟨k.has ha.cells fun e => h.ne e, ha.row.keep k fun b hb' e => bne ha.row hb.cells (by decide) (by rw [hb', show b = q.b from e])⟩, hr, hne⟩, h.ne, ⟨hfit.1, Int.le_trans hll hfit.2⟩, hform, Nat.le_trans h.low k.size⟩ (k.mono fun i e => Or.inr (Or.inr (Or.inl e)))
theorem T0 {q : MB} {s : MS} (h : MemsAt w q s) (f : Bool) {L : List Rec} (hk : kT (cond f s.xb s.xa) L) (hK : ∀ p' c' w', OwnL rLay w' w.heap.size 246 p' L.length c' L → Keep (fun _ => False) w w' → R (.slice p' L.length c') w') :
  zB Tryz.prog 62 #[.pointer (some ⟨ramM q f, 0, none⟩)] w R := by
 obtain ⟨pa, la, ca, pb, lb, cb, ha, hb, hne⟩ := h.rams
 have hfit := h.fit
 have hform := h.form
 cases f
 ·refine H8 ha (by rw [ha.row.length]; omega) hk.byb fun p' c' w' o k => ?_
  have hk : kT s.xa L := hk
  rw [hk.scan] at o ⊢
  exact hK p' c' w' o k
 ·refine H8 hb (by rw [hb.row.length]; omega) hk.byb fun p' c' w' o k => ?_
  have hk : kT s.xb L := hk
  rw [hk.scan] at o ⊢
  exact hK p' c' w' o k
end calls
end Go.Proofs
namespace Go.Proofs
open Go.Ev
set_option maxRecDepth 100000
def zCl (x : Array Value) (fb : Nat) (w : World) (R : Value → World → Prop) : Prop :=
 Alc 246 x w fun b w => LdV b 0 (At w) fun v => OpI .i64 v fun n => Cb (n == 6) (LdV b 1 (At w) fun v1 => OpI .u64 v1 fun n1 => LdV fb 0 (At w) fun v2 => OpI .u32 v2 fun n2
 => Ret [] (R (.bool (n1 == (IntKind.wrap .u64 n2))) w)) (Ret [] (R (.bool false) w))
theorem zKl {x : Array Value} {fb : Nat} {w : World} {R : Value → World → Prop} (h : zCl x fb w R) : zB Tryz.prog 164 #[.agg x, .pointer (some ⟨fb, 0, none⟩)] w R := by
 exact zE (args := [.agg x, .pointer (some ⟨fb, 0, none⟩)]) (zR [] [] [] [] []) zD Tryz.func164 rfl rfl (by kernel_rfl) h
def zHk (sp : Option Addr) (sl : Nat) (sc : Nat) (fb : Nat) (w : World) (R : Value → World → Prop) : Prop :=
 zB Tryz.prog 229 #[.slice sp sl sc, .func (.func 164) #[] #[.pointer (some ⟨fb, 0, none⟩)]] w fun v w => OpI .i64 v fun n => Ret [] (R (.bool (decide (n ≥ 0))) w)
theorem zO6 {sp : Option Addr} {sl : Nat} {sc : Nat} {fb : Nat} {w : World} {R : Value → World → Prop} (h : zHk sp sl sc fb w R) : zB Tryz.prog 163 #[.slice sp sl sc, .func (.func 164) #[] #[.pointer (some ⟨fb, 0, none⟩)]] w R := by
 exact zE (args := [.slice sp sl sc, .func (.func 164) #[] #[.pointer (some ⟨fb, 0, none⟩)]]) (zR [] [] [] [] []) zD Tryz.func163 rfl rfl (by kernel_rfl) h
def zLl (sp : Option Addr) (sl : Nat) (sc : Nat) (fb : Nat) (w : World) (R : Value → World → Prop) : Prop :=
 yC (σ := Int × Unit) (fun _ s1 w K1 => Cb (decide (s1.1 < ((sl : Nat) : Int))) (IdxS sp sl s1.1 19 fun b o => LdA 19 b o (At w) fun cs => zB Tryz.prog 164 #[.agg cs,
 .pointer (some ⟨fb, 0, none⟩)] w fun v w => OpB v fun g => Cb g (Ret [] (R (.int .i64 s1.1) w)) (K1 (IntKind.wrap .i64 (s1.1 + 1), ()) w)) (Ret [] (R (.int .i64 (-1)) w)))
 (0, ()) w
theorem zQa {sp : Option Addr} {sl : Nat} {sc : Nat} {fb : Nat} {w : World} {R : Value → World → Prop} (h : zLl sp sl sc fb w R) : zB Tryz.prog 229 #[.slice sp sl sc, .func (.func 164) #[] #[.pointer (some ⟨fb, 0, none⟩)]] w R := by
 exact zE (args := [.slice sp sl sc, .func (.func 164) #[] #[.pointer (some ⟨fb, 0, none⟩)]]) (zR [(2, [(8, (.int .i64))])] [] [] [] []) zD Tryz.func229 rfl rfl (by kernel_rfl) h
def WR (listp : Option Addr) (listl : Nat) (listc : Nat) (epoch : Int) (w : World) (R : Value → World → Prop) : Prop :=
 Alc 62 #[.int .u32 epoch] w fun b w => LdV b 0 (At w) fun v => OpI .u32 v fun n => Cb (n == 0) (Ret [] (R (.bool true) w)) (zB Tryz.prog 163 #[.slice listp listl listc,
 .func (.func 164) #[] #[.pointer (some ⟨b, 0, none⟩)]] w fun v1 w => OpB v1 fun g => Ret [] (R (.bool g) w))
theorem OR {listp : Option Addr} {listl : Nat} {listc : Nat} {epoch : Int} {w : World} {R : Value → World → Prop} (h : WR listp listl listc epoch w R) : zB Tryz.prog 90 #[.slice listp listl listc, .int .u32 epoch] w R := by
 exact zE (args := [.slice listp listl listc, .int .u32 epoch]) (zR [] [] [] [] []) zD Tryz.func90 rfl rfl (by kernel_rfl) h
end Go.Proofs
namespace Go.Proofs
open Go Go.Ev Go.RowKit
set_option maxRecDepth 100000
def hit (rf : Nat → Rec) (e : Int) (i : Nat) : Prop := (rf i).kind = 6 ∧ (rf i).ver = e
theorem zOi {W : World} {xp : Option Addr} {l : Nat} {rf : Nat → Rec} (h : Sl W 19 xp l fun i => recL (rf i)) {i : Int} (h0 : 0 ≤ i) (h1 : i < l) {K : Array Value → Prop} (hK : K (recV (rf i.toNat))) : IdxS xp l i 19 fun b o => LdA 19 b o (At W) K :=
 h.idx h0 h1 fun b o hc _ => ⟨recV (rf i.toNat), rfl, fun w' ⟨d, hd⟩ j hj => by subst hd; have := hc j hj; rw [show (W.dr d).cell? ⟨b, o + j, none⟩ = W.cell? ⟨b, o + j, none⟩ from rfl, this]; simp [recV], hK⟩
theorem zG8 {xp : Option Addr} {l c fb : Nat} {rf : Nat → Rec} {e : Int} {w : World} {R : Value → World → Prop} (hl : l ≤ maxLen) (h : Sl w 19 xp l fun i => recL (rf i)) (he : 0 ≤ e ∧ e ≤ 4294967295) (hb : Has w fb (.cells #[.int .u32 e] 62 (0, 0)))
  (h1 : ∀ w' i, i < l → hit rf e i → Keep (fun _ => False) w w' → R (.int .i64 (i : Nat)) w') (h0 : ∀ w', (∀ i, i < l → ¬ hit rf e i) → Keep (fun _ => False) w w' → R (.int .i64 (-1)) w') :
  zB Tryz.prog 229 #[.slice xp l c, .func (.func 164) #[] #[.pointer (some ⟨fb, 0, none⟩)]] w R := by
 apply zQa
 unfold zLl
 have hmax : l ≤ 9223372036854775807 := by simpa [maxLen] using hl
 refine zP (σ := Int × Unit) (fun s w' => ∃ j : Nat, s.1 = j ∧ j ≤ l ∧ (∀ i, i < j → ¬ hit rf e i) ∧ Keep (fun _ => False) w w') (fun s _ => (l - s.1).toNat) ⟨0, rfl, by omega, fun i hi => by omega, Keep.refl _ _⟩ ?_
 intro _ s w1 hs
 obtain ⟨i, u⟩ := s
 obtain ⟨j, hij, hjl, hno, k1⟩ := hs
 simp only at hij ⊢
 subst hij
 refine zN (fun hc => ?_) (fun hc => ?_)
 ·have hj : j < l := by simp only [decide_eq_true_eq] at hc; omega
  refine zOi (h.keep k1 (by simp)) (by omega) (by omega) ?_
  rw [show ((j : Nat) : Int).toNat = j by omega]
  have hb1 := k1.has hb (by simp)
  have ew : IntKind.wrap .i64 ((j : Int) + 1) = ((j + 1 : Nat) : Int) := by rw [zW (by omega) (by omega)]; omega
  rw [ew]
  apply zKl
  unfold zCl
  rw [y7]
  have ha := Has.new w1 (.cells (recV (rf j)) 246)
  have k2 := k1.alloc (.cells (recV (rf j)) 246)
  have hb2 := hb1.alloc (y := .cells (recV (rf j)) 246)
  generalize w1.alloc (.cells (recV (rf j)) 246) = w2 at *
  have no : ¬ hit rf e j → ∃ m', m' < ((l : Int) - (j : Int)).toNat ∧ ((∃ j' : Nat, ((j + 1 : Nat) : Int) = j' ∧ j' ≤ l ∧ (∀ i, i < j' → ¬ hit rf e i) ∧ Keep (fun _ => False) w w2) ∧ ((l : Int) - ((j + 1 : Nat) : Int)).toNat = m') :=
   fun hn => ⟨_, by omega, ⟨j + 1, rfl, hj, fun i hi => by rcases Nat.lt_succ_iff_lt_or_eq.1 hi with h | h; exact hno i h; subst h; exact hn, k2⟩, rfl⟩
  refine zG (v := .int .i64 (rf j).kind) ha rfl ?_
  simp only [zA]
  refine zN (fun hk => ?_) (fun hk => ?_)
  ·refine zG (v := .int .u64 (rf j).ver) ha rfl ?_
   simp only [zA]
   refine zG (v := .int .u32 e) hb2 rfl ?_
   simp only [zA, zF, zM]
   rw [vG (by omega) (by omega)]
   refine zN (fun hv => ?_) (fun hv => ?_)
   ·exact h1 w2 j hj ⟨by simpa using hk, by simpa using hv⟩ k2
   ·exact no fun hh => by simp [hh.2] at hv
  ·simp only [zF, zM, zH]
   exact no fun hh => by simp [hh.1] at hk
 ·have hj : j = l := by simp only [decide_eq_false_iff_not] at hc; omega
  subst hj
  simp only [zF]
  exact h0 w1 hno k1
theorem TW {xp : Option Addr} {l c : Nat} {rf : Nat → Rec} {e : Int} {w : World} {R : Value → World → Prop} (hl : l ≤ maxLen) (h : Sl w 19 xp l fun i => recL (rf i)) (he : 0 ≤ e ∧ e ≤ 4294967295)
  (hK : ∀ (r : Bool) w', (r = true ↔ e = 0 ∨ ∃ i, i < l ∧ hit rf e i) → Keep (fun _ => False) w w' → R (.bool r) w') :
  zB Tryz.prog 90 #[.slice xp l c, .int .u32 e] w R := by
 apply OR
 unfold WR
 rw [y7]
 have hb := Has.new w (.cells #[.int .u32 e] 62)
 have k1 := Keep.new (fun _ => False) w (.cells #[.int .u32 e] 62)
 generalize w.alloc (.cells #[.int .u32 e] 62) = w1 at *
 refine zG (v := .int .u32 e) hb rfl ?_
 simp only [zA]
 refine zN (fun hz => ?_) (fun hz => ?_)
 ·simp only [zF]
  exact hK true w1 ⟨fun _ => Or.inl (by simpa using hz), fun _ => rfl⟩ k1
 ·have hz' : ¬ e = 0 := by simpa using hz
  apply zO6
  unfold zHk
  refine zG8 hl (h.keep k1 (by simp)) he hb (fun w' i hi hh k2 => ?_) (fun w' hno k2 => ?_)
  ·simp only [zA, zF, zM]
   rw [show decide (((i : Nat) : Int) ≥ 0) = true by simp]
   exact hK true w' ⟨fun _ => Or.inr ⟨i, hi, hh⟩, fun _ => rfl⟩ (k1.trans k2)
  ·simp only [zA, zF, zM]
   rw [show decide ((-1 : Int) ≥ 0) = false from rfl]
   exact hK false w' ⟨fun h => by simp at h, fun h => by rcases h with h | ⟨i, hi, hh⟩; exact absurd h hz'; exact absurd hh (hno i hi)⟩ (k1.trans k2)
theorem KC {xp : Option Addr} {l c : Nat} {rs : List Rec} {e : Int} {w : World} {R : Value → World → Prop} (hl : l ≤ maxLen) (h : SlL rLay w xp l rs) (he : 0 ≤ e ∧ e ≤ 4294967295)
  (hK : ∀ w', Keep (fun _ => False) w w' → R (.bool (decide (e = 0) || rs.any fun x => decide (x.kind = 6) && decide (x.ver = e))) w') :
  zB Tryz.prog 90 #[.slice xp l c, .int .u32 e] w R := by
 have hlen := h.1
 refine TW (rf := fun i => rs.getD i default) hl (fun i hi => ⟨rfl, ?_⟩) he fun r w' hr k => ?_
 ·have hg : rs[i]? = some (rs.getD i default) := by
   rw [List.getD_eq_getElem?_getD, List.getElem?_eq_getElem (by omega)]; rfl
  obtain ⟨b, o, hp, hc⟩ := h.2 i _ hg
  exact ⟨b, o, hp, hc⟩
 ·have e1 : r = (decide (e = 0) || rs.any fun x => decide (x.kind = 6) && decide (x.ver = e)) := by
   rw [Bool.eq_iff_iff, hr, Bool.or_eq_true, decide_eq_true_eq, List.any_eq_true]
   refine or_congr Iff.rfl ⟨?_, ?_⟩
   ·rintro ⟨i, hi, h1, h2⟩
    have hg : rs[i]? = some (rs.getD i default) := by
     rw [List.getD_eq_getElem?_getD, List.getElem?_eq_getElem (by omega)]; rfl
    exact ⟨_, List.mem_of_getElem? hg, by rw [Bool.and_eq_true, decide_eq_true_eq, decide_eq_true_eq]; exact ⟨h1, h2⟩⟩
   ·rintro ⟨x, hx, hh⟩
    rw [Bool.and_eq_true, decide_eq_true_eq, decide_eq_true_eq] at hh
    obtain ⟨i, hi⟩ := List.getElem?_of_mem hx
    have hlt := (List.getElem?_eq_some_iff.1 hi).1
    have : rs.getD i default = x := by rw [List.getD_eq_getElem?_getD, hi]; rfl
    refine ⟨i, by omega, ?_⟩
    unfold hit
    simp only
    rw [this]
    exact hh
  rw [e1] at *
  exact hK w' k
end Go.Proofs
namespace Go.Proofs
open Go.Ev
set_option maxRecDepth 100000
def G5 (listsp : Option Addr) (listsl : Nat) (listsc : Nat) (w : World) (R : Value → World → Prop) : Prop :=
 zB Tryz.prog 201 #[.slice listsp listsl listsc] w fun v w => OpS v fun p l c => yC (σ := Int × Int × Unit) (fun _ s1 w K1 => Cb (decide (s1.2.1 < ((l : Nat) : Int)))
 (IdxS p l s1.2.1 19 fun b o => LdA 19 b o (At w) fun cs => Alc 246 (zc Tryz.prog 246) w fun b1 w => StA 19 b1 0 cs w fun w => LdV b1 0 (At w) fun v1 => OpI .i64 v1 fun n
 => Cb (decide (n ≥ 1)) (LdV b1 0 (At w) fun v2 => OpI .i64 v2 fun n1 => Cb (decide (n1 ≤ 5)) (LdV b1 1 (At w) fun v3 => OpI .u64 v3 fun n2 => DoQ Tryz.prog (Builtin.max_
 #[39, 39] 39 #[.int .u64 s1.1, .int .u64 n2]) (At w) fun v4 => OpI .u64 v4 fun n3 => K1 (n3, (IntKind.wrap .i64 (s1.2.1 + 1), ())) w) (K1 (s1.1, (IntKind.wrap .i64 (s1.2.1
 + 1), ())) w)) (K1 (s1.1, (IntKind.wrap .i64 (s1.2.1 + 1), ())) w)) (Ret [] (R (.int .u64 s1.1) w))) (0, (0, ())) w
theorem zAo {listsp : Option Addr} {listsl : Nat} {listsc : Nat} {w : World} {R : Value → World → Prop} (h : G5 listsp listsl listsc w R) : zB Tryz.prog 166 #[.slice listsp listsl listsc] w R := by
 exact zE (args := [.slice listsp listsl listsc]) (zR [(3, [(3, (.int .u64)), (9, (.int .i64))])] [] [] [] []) zD Tryz.func166 rfl rfl (by kernel_rfl) h
def WS (listsp : Option Addr) (listsl : Nat) (listsc : Nat) (w : World) (R : Value → World → Prop) : Prop :=
 DoV Tryz.prog (Instr.makeMap 329 none) w fun v w => OpM v fun m => DoV Tryz.prog (Instr.makeMap 330 none) w fun v1 w => OpM v1 fun m1 => zB Tryz.prog 201 #[.slice
 listsp listsl listsc] w fun v2 w => OpS v2 fun p l c => yC (σ := Int × Unit) (fun _ s1 w K1 => Cb (decide (s1.1 < ((l : Nat) : Int))) (IdxS p l s1.1 19 fun b o => LdA
 19 b o (At w) fun cs => Alc 246 (zc Tryz.prog 246) w fun b1 w => StA 19 b1 0 cs w fun w => LdV b1 2 (At w) fun v3 => OpI .i64 v3 fun n => DoQ Tryz.prog (Instr.lookup 329
 (.map m) (.int .i64 n) true) (At w) fun v4 => T2 v4 fun v5 v6 => OpA 19 v5 fun cs1 => OpB v6 fun g => Alc 246 (zc Tryz.prog 246) w fun b2 w => StA 19 b2 0 cs1 w fun w =>
 LdV b1 0 (At w) fun v7 => OpI .i64 v7 fun n1 => Cb (n1 == 2) (LdV b1 2 (At w) fun v8 => OpI .i64 v8 fun n2 => DoQ Tryz.prog (Instr.lookup 330 (.map m1) (.int .i64 n2)
 true) (At w) fun v9 => T2 v9 fun v10 v11 => OpI .u64 v10 fun n3 => OpB v11 fun g1 => Cb (!g1) (LdV b1 2 (At w) fun v12 => OpI .i64 v12 fun n4 => LdV b1 1 (At w) fun v13 =>
 OpI .u64 v13 fun n5 => DoU Tryz.prog (Instr.mapUpdate 330 (.map m1) (.int .i64 n4) (.int .u64 n5)) w fun w => K1 (IntKind.wrap .i64 (s1.1 + 1), ()) w) (LdV b1 1 (At w) fun
 v14 => OpI .u64 v14 fun n6 => Cb (decide (n3 < n6)) (LdV b1 2 (At w) fun v15 => OpI .i64 v15 fun n7 => LdV b1 1 (At w) fun v16 => OpI .u64 v16 fun n8 => DoU Tryz.prog
 (Instr.mapUpdate 330 (.map m1) (.int .i64 n7) (.int .u64 n8)) w fun w => K1 (IntKind.wrap .i64 (s1.1 + 1), ()) w) (K1 (IntKind.wrap .i64 (s1.1 + 1), ()) w))) (LdV b1 0 (At
 w) fun v17 => OpI .i64 v17 fun n9 => Cb (n9 == 1) (Cb (!g) (LdV b1 2 (At w) fun v18 => OpI .i64 v18 fun n10 => LdA 19 b1 0 (At w) fun cs2 => DoU Tryz.prog (Instr.mapUpdate
 329 (.map m) (.int .i64 n10) (.agg cs2)) w fun w => K1 (IntKind.wrap .i64 (s1.1 + 1), ()) w) (LdV b2 1 (At w) fun v19 => OpI .u64 v19 fun n11 => LdV b1 1 (At w) fun v20 =>
 OpI .u64 v20 fun n12 => Cb (decide (n11 < n12)) (LdV b1 2 (At w) fun v21 => OpI .i64 v21 fun n13 => LdA 19 b1 0 (At w) fun cs3 => DoU Tryz.prog (Instr.mapUpdate 329 (.map
 m) (.int .i64 n13) (.agg cs3)) w fun w => K1 (IntKind.wrap .i64 (s1.1 + 1), ()) w) (K1 (IntKind.wrap .i64 (s1.1 + 1), ()) w))) (K1 (IntKind.wrap .i64 (s1.1 + 1), ()) w)))
 (DoV Tryz.prog (Instr.range 329 (.map m)) w fun v22 w => OpN v22 fun b3 o1 => yC (σ := (Option Addr × Nat × Nat) × Unit) (fun _ s2 w K2 => DoV Tryz.prog (Instr.next
 (.pointer (some ⟨b3, o1, none⟩)) false 0) w fun v23 w => OpX v23 (fun k x => DoQ Tryz.prog (Instr.entry (.pointer (some ⟨b3, o1, none⟩))) (At w) fun v24 => T2 v24 fun v25
 v26 => OpI .i64 v25 fun n14 => OpA 19 v26 fun cs4 => Alc 246 (zc Tryz.prog 246) w fun b4 w => StA 19 b4 0 cs4 w fun w => DoQ Tryz.prog (Instr.lookup 330 (.map m1) (.int
 .i64 n14) true) (At w) fun v27 => T2 v27 fun v28 v29 => OpI .u64 v28 fun n15 => OpB v29 fun g2 => Cb (!g2) (LdA 19 b4 0 (At w) fun cs5 => DoV Tryz.prog (Instr.buildSlice
 113 1 #[(0, .agg cs5)]) w fun v30 w => OpS v30 fun p1 l1 c1 => DoV Tryz.prog (Builtin.append_ #[113, 113] 113 #[.slice s2.1.1 s2.1.2.1 s2.1.2.2, .slice p1 l1 c1]) w fun
 v31 w => OpS v31 fun p2 l2 c2 => K2 ((p2, l2, c2), ()) w) (LdV b4 1 (At w) fun v32 => OpI .u64 v32 fun n16 => Cb (decide (n15 < n16)) (LdA 19 b4 0 (At w) fun cs6 => DoV
 Tryz.prog (Instr.buildSlice 113 1 #[(0, .agg cs6)]) w fun v33 w => OpS v33 fun p3 l3 c3 => DoV Tryz.prog (Builtin.append_ #[113, 113] 113 #[.slice s2.1.1 s2.1.2.1
 s2.1.2.2, .slice p3 l3 c3]) w fun v34 w => OpS v34 fun p4 l4 c4 => K2 ((p4, l4, c4), ()) w) (K2 ((s2.1.1, s2.1.2.1, s2.1.2.2), ()) w))) (zB Tryz.prog 231 #[.slice
 s2.1.1 s2.1.2.1 s2.1.2.2, .func (.func 232) #[] #[]] w fun v35 w => Ret [] (R (.slice s2.1.1 s2.1.2.1 s2.1.2.2) w))) ((none, 0, 0), ()) w)) (0, ()) w
theorem OS {listsp : Option Addr} {listsl : Nat} {listsc : Nat} {w : World} {R : Value → World → Prop} (h : WS listsp listsl listsc w R) : zB Tryz.prog 167 #[.slice listsp listsl listsc] w R := by
 exact zE (args := [.slice listsp listsl listsc]) (zR [(3, [(21, (.int .i64))]), (15, [(11, .slice)])] [] [] [(80, ((.int .i64), (.agg 19)))] []) zD Tryz.func167 rfl rfl (by kernel_rfl) h
def gV (a : Array Value) (b : Array Value) (w : World) (R : Value → World → Prop) : Prop :=
 Alc 246 a w fun b1 w => Alc 246 b w fun b2 w => Dr1 w fun w => LdV b1 1 (At w) fun v => OpI .u64 v fun n => LdV b2 1 (At w) fun v1 => OpI .u64 v1 fun n1 => HP Tryz.prog
 234 #[.int .u64 n, .int .u64 n1] w fun v2 => OpI .i64 v2 fun n2 => LdV b1 2 (At w) fun v3 => OpI .i64 v3 fun n3 => LdV b2 2 (At w) fun v4 => OpI .i64 v4 fun n4 => HP
 Tryz.prog 235 #[.int .i64 n3, .int .i64 n4] w fun v5 => OpI .i64 v5 fun n5 => DoV Tryz.prog (Instr.buildSlice 69 2 #[(0, .int .i64 n2), (1, .int .i64 n5)]) w fun v6 w =>
 OpS v6 fun p l c => zB Tryz.prog 233 #[.slice p l c] w fun v7 w => OpI .i64 v7 fun n6 => Ret [] (R (.int .i64 n6) w)
theorem HB {a : Array Value} {b : Array Value} {w : World} {R : Value → World → Prop} (h : gV a b w R) : zB Tryz.prog 232 #[.agg a, .agg b] w R := by
 exact zE (args := [.agg a, .agg b]) (zR [] [] [] [] []) zD Tryz.func232 rfl rfl (by kernel_rfl) h
end Go.Proofs
namespace Go.Proofs
open Go Go.Ev Go.Sort
set_option maxRecDepth 100000
theorem gB : Tryz.prog.underlying 329 = some (.map 3 246) := by kernel_rfl
theorem QT : Tryz.prog.underlying 330 = some (.map 3 39) := by kernel_rfl
theorem zHs (w : World) : (zeroValue 246).run Tryz.prog w = .ok (.agg (recV zCy)) w := xS (i := ((Tryz.prog.info? 246).get (by kernel_rfl))) (by kernel_rfl) (by kernel_rfl)
theorem zHr (w : World) : (zeroValue 39).run Tryz.prog w = .ok (.int .u64 0) w := xS (i := ((Tryz.prog.info? 39).get (by kernel_rfl))) (by kernel_rfl) (by kernel_rfl)
def recA (r : Rec) : Value := .agg (recV r)
def u64V (n : Int) : Value := .int .u64 n
theorem T6 {w : World} {m : Nat} {nw : List (Int × Rec)} (h : x8 .i64 w m (tag recA nw)) (x : Int) :
  (Instr.lookup 329 (.map (some m)) (.int .i64 x) true).run Tryz.prog w = .ok (.tuple #[.agg (recV ((zS nw x).getD zCy)), .bool (zS nw x).isSome]) w := by
 rw [uJ gB kN zHs h, jO]
 cases zS nw x <;> rfl
theorem MF {w : World} {m : Nat} {cl : List (Int × Int)} (h : x8 .i64 w m (tag u64V cl)) (x : Int) :
  (Instr.lookup 330 (.map (some m)) (.int .i64 x) true).run Tryz.prog w = .ok (.tuple #[.int .u64 ((zS cl x).getD 0), .bool (zS cl x).isSome]) w := by
 rw [uJ QT kN zHr h, jO]
 cases zS cl x <;> rfl
abbrev Sta := List (Int × Rec) × List (Int × Int)
def yZ (s : Sta) (r : Rec) : Sta :=
 if r.kind = 2 then (s.1, match zS s.2 r.lba with
  | none => ins s.2 r.lba r.ver
  | some v => if v < r.ver then ins s.2 r.lba r.ver else s.2)
 else if r.kind = 1 then (match zS s.1 r.lba with
  | none => ins s.1 r.lba r
  | some o => if o.ver < r.ver then ins s.1 r.lba r else s.1, s.2)
 else s
def UR (cl : List (Int × Int)) (p : Int × Rec) : Bool := match zS cl p.1 with
 | none => true
 | some v => decide (v < p.2.ver)
def KL (s : Sta) : List Rec := (s.1.filter (UR s.2)).map (·.2)
structure StaAt (w : World) (m m1 : Nat) (s : Sta) : Prop where
 nw : x8 .i64 w m (tag recA s.1)
 cl : x8 .i64 w m1 (tag u64V s.2)
 ne : m ≠ m1
theorem StaAt.keep {w w' : World} {m m1 : Nat} {s : Sta} {S : Nat → Prop} (h : StaAt w m m1 s) (hk : Keep S w w') (h1 : ¬ S m) (h2 : ¬ S m1) : StaAt w' m m1 s := ⟨h.nw.keep hk h1, h.cl.keep hk h2, h.ne⟩
theorem H9 {w : World} {m m1 : Nat} {s : Sta} (h : StaAt w m m1 s) (r : Rec) {K : World → Prop} (hK : ∀ w', StaAt w' m m1 (ins s.1 r.lba r, s.2) → Keep (fun k => k = m ∨ k = m1) w w' → K w') :
  DoU Tryz.prog (Instr.mapUpdate 329 (.map (some m)) (.int .i64 r.lba) (.agg (recV r))) w K := by
 obtain ⟨arr, clk, hr, ho⟩ := x6 (P := Tryz.prog) gB kN h.nw r.lba (recA r)
 refine ⟨_, hr, ?_⟩
 rw [GJ] at ho
 obtain ⟨arr0, clk0, hm, _⟩ := h.nw
 have k : Keep (fun k => k = m) w (w.upd m (.map arr clk)) := Keep.one _ _ _
 exact hK _ ⟨⟨arr, clk, hm.zL _, ho⟩, h.cl.keep k (fun e => h.ne e.symm), h.ne⟩ (k.mono fun _ h => Or.inl h)
theorem O6 {w : World} {m m1 : Nat} {s : Sta} (h : StaAt w m m1 s) (x v : Int) {K : World → Prop} (hK : ∀ w', StaAt w' m m1 (s.1, ins s.2 x v) → Keep (fun k => k = m ∨ k = m1) w w' → K w') :
  DoU Tryz.prog (Instr.mapUpdate 330 (.map (some m1)) (.int .i64 x) (.int .u64 v)) w K := by
 obtain ⟨arr, clk, hr, ho⟩ := x6 (P := Tryz.prog) QT kN h.cl x (u64V v)
 refine ⟨_, hr, ?_⟩
 rw [GJ] at ho
 obtain ⟨arr0, clk0, hm, _⟩ := h.cl
 have k : Keep (fun k => k = m1) w (w.upd m1 (.map arr clk)) := Keep.one _ _ _
 exact hK _ ⟨h.nw.keep k h.ne, ⟨arr, clk, hm.zL _, ho⟩, h.ne⟩ (k.mono fun _ h => Or.inr h)
theorem zH1 (r s : Rec) (w : World) : Calls Tryz.prog 232 #[.agg (recV r), .agg (recV s)] w fun e w' => e = .returned (.int .i64 (cmpR r s)) ∧ ∃ q os, w' = grow (w.drewN q) os := by
 have key : zB Tryz.prog 232 #[.agg (recV r), .agg (recV s)] w fun v w' => v = .int .i64 (cmpR r s) ∧ ∃ q os, w' = grow (w.drewN q) os := by
  apply HB
  unfold gV
  rw [y7, y7]
  have ha := (Has.new w (.cells (recV r) 246)).alloc (y := .cells (recV s) 246)
  have hb := Has.new (w.alloc (.cells (recV r) 246)) (.cells (recV s) 246)
  have hg : ∃ q : Nat, ∀ d, w.drawn ≤ d → ((w.alloc (.cells (recV r) 246)).alloc (.cells (recV s) 246)).dr d = grow (w.drewN (d - w.drawn)) #[.cells (recV r) 246, .cells (recV s) 246] := by
   refine ⟨0, fun d hd => ?_⟩
   have : w.drawn + (d - w.drawn) = d := by omega
   unfold World.dr World.alloc grow World.drewN
   simp only [this]
   congr 1
  obtain ⟨_, hg⟩ := hg
  generalize hw2 : (w.alloc (.cells (recV r) 246)).alloc (.cells (recV s) 246) = w2 at *
  have hdr : w2.drawn = w.drawn := by rw [← hw2]; rfl
  intro d hd
  rw [hdr] at hd
  refine zG (v := .int .u64 r.ver) (ha.dr d) rfl ?_
  simp only [zA]
  refine zG (v := .int .u64 s.ver) (hb.dr d) rfl ?_
  simp only [zA]
  refine ⟨.int .i64 (cmpI r.ver s.ver), ?_, ?_⟩
  ·exact Calls.mono (GU (R := fun v w' => v = .int .i64 (cmpI r.ver s.ver) ∧ w' = w2.dr d) r.ver s.ver (w2.dr d) ⟨rfl, rfl⟩) fun e w' ⟨v, he, hv, hw⟩ => by subst hv; exact ⟨he, hw⟩
  simp only [zA]
  refine zG (v := .int .i64 r.lba) (ha.dr d) rfl ?_
  simp only [zA]
  refine zG (v := .int .i64 s.lba) (hb.dr d) rfl ?_
  simp only [zA]
  refine ⟨.int .i64 (cmpI r.lba s.lba), ?_, ?_⟩
  ·exact Calls.mono (GV (R := fun v w' => v = .int .i64 (cmpI r.lba s.lba) ∧ w' = w2.dr d) r.lba s.lba (w2.dr d) ⟨rfl, rfl⟩) fun e w' ⟨v, he, hv, hw⟩ => by subst hv; exact ⟨he, hw⟩
  simp only [zA]
  refine ⟨_, _, run_buildSlice (w2.dr d) 69 3 2 _ #[.int .i64 (cmpI r.ver s.ver), .int .i64 (cmpI r.lba s.lba)] ((Tryz.prog.info? 3).get (by kernel_rfl)) (.int .i64 0) (by kernel_rfl) (by kernel_rfl) (by kernel_rfl) (by decide +kernel) (by decide +kernel) (by kernel_rfl), ?_⟩
  simp only [zC]
  refine zKv _ _ _ _ _ (Has.new _ _) ?_
  simp only [zA, zF]
  refine ⟨rfl, d - w.drawn, #[.cells (recV r) 246, .cells (recV s) 246, .cells #[.int .i64 (cmpI r.ver s.ver), .int .i64 (cmpI r.lba s.lba)] 3], ?_⟩
  rw [hg d hd, alloc_eq_grow, grow_grow]
  rfl
 exact Calls.mono key fun e w' ⟨v, he, hv, hw⟩ => by subst hv; exact ⟨he, hw⟩
def zOf (v : Value) : Rec := ⟨numOf v.cells[0]?, numOf v.cells[1]?, numOf v.cells[2]?, fun i => numOf v.cells[3 + i.val]?⟩
theorem zLq (r : Rec) : zOf (recA r) = r := by
 obtain ⟨k, v, l, f⟩ := r
 have : (fun i : Fin 16 => numOf (recA ⟨k, v, l, f⟩).cells[3 + i.val]?) = f := by
  funext i
  match i with
  | ⟨0, _⟩ => rfl | ⟨1, _⟩ => rfl | ⟨2, _⟩ => rfl | ⟨3, _⟩ => rfl | ⟨4, _⟩ => rfl | ⟨5, _⟩ => rfl | ⟨6, _⟩ => rfl | ⟨7, _⟩ => rfl
  | ⟨8, _⟩ => rfl | ⟨9, _⟩ => rfl | ⟨10, _⟩ => rfl | ⟨11, _⟩ => rfl | ⟨12, _⟩ => rfl | ⟨13, _⟩ => rfl | ⟨14, _⟩ => rfl | ⟨15, _⟩ => rfl
  | ⟨n + 16, hn⟩ => exact absurd hn (by omega)
 unfold zOf
 rw [this]
 rfl
theorem QH {w : World} {r : Rec} {K : Nat → World → Prop} (hK : ∀ w', Has w' w.heap.size (.cells (recV r) 246 (0, 0)) → Keep (fun _ => False) w w' → w.heap.size < w'.heap.size → K w.heap.size w') :
  Alc 246 (zc Tryz.prog 246) w fun b w => StA 19 b 0 (recV r) w fun w => K b w := by
 rw [y7]
 refine yB (Has.new _ _) rfl (by rw [QN]; rfl) (gH _) ?_
 exact hK _ ((Has.new _ _).zL _) ((Keep.new _ _ _).upd (by omega) _) (by simp)
theorem TX {xp : Option Addr} {n c : Nat} {rss : List (List Rec)} {w : World} {R : Value → World → Prop} (h : zAk w xp n rss) (hn : n ≤ 1000000000) (ht : total rss ≤ 10000000)
  (hK : ∀ (p : Option Addr) (l cp : Nat) (rs : List Rec) (w' : World), rs.Perm (KL (rss.flatten.foldl yZ ([], []))) → zAt rs → Own w' w.heap.size 246 19 p l cp (rs.flatMap recL) → Keep (fun _ => False) w w' → R (.slice p l cp) w') :
  zB Tryz.prog 167 #[.slice xp n c] w R := by
 apply OS
 unfold WS
 refine ⟨_, _, run_makeMap, ?_⟩
 simp only [vZ]
 have hm := Has.new w (.map #[] 0)
 have k1 := Keep.new (fun _ => False) w (.map #[] 0)
 refine ⟨_, _, run_makeMap, ?_⟩
 simp only [vZ]
 have hm1 := Has.new (w.alloc (.map #[] 0)) (.map #[] 0)
 have hm' := hm.alloc (y := .map #[] 0)
 have k2 := k1.alloc (.map #[] 0)
 have hne : w.heap.size ≠ (w.alloc (.map #[] 0)).heap.size := hm.zFn
 have hgt : w.heap.size < (w.alloc (.map #[] 0)).heap.size := hm.lt
 generalize hw2 : (w.alloc (.map #[] 0)).alloc (.map #[] 0) = w2 at *
 generalize (w.alloc (.map #[] 0)).heap.size = m1 at *
 have hst : StaAt w2 w.heap.size m1 ([], []) := ⟨⟨#[], 0, hm', MapOk.nil _⟩, ⟨#[], 0, hm1, MapOk.nil _⟩, hne⟩
 have hl2 := h.keep k2 (by simp)
 have hm1lt := hm1.lt
 refine YZ hl2 hn (by omega) fun p l cp w3 ho k3 => ?_
 simp only [zC]
 have hst3 := hst.keep k3 (by simp) (by simp)
 have hlen : l = rss.flatten.length := by
  have h5 := ho
  rw [yL] at h5
  have h6 := h5.count (y8 _) (by decide)
  rwa [List.length_map] at h6
 have hbd : rss.flatten.length ≤ 10000000 := ht
 generalize hall : rss.flatten = all at *
 have hsz3 := k3.size
 have k23 := k2.trans k3
 refine zP (σ := Int × Unit) (fun s w' => ∃ j : Nat, s.1 = j ∧ j ≤ l ∧ StaAt w' w.heap.size m1 ((all.take j).foldl yZ ([], [])) ∧ Own w' w2.heap.size 246 19 p l cp (all.flatMap recL) ∧ Keep (fun _ => False) w w' ∧ w2.heap.size ≤ w'.heap.size)
  (fun s _ => (l - s.1).toNat) ⟨0, rfl, by omega, by simpa using hst3, ho, k23, hsz3⟩ ?_
 clear hst3 ho
 intro _ s w4 hs
 obtain ⟨i, u⟩ := s
 obtain ⟨j, hij, hjl, hst, ho, k4, hsz4⟩ := hs
 simp only at hij ⊢
 subst hij
 refine zN (fun hc => ?_) (fun hc => ?_)
 ·have hj : j < l := by simp only [decide_eq_true_eq] at hc; omega
  have hget : all[((j : Nat) : Int).toNat]? = some all[j] := by simp [show j < all.length by omega]
  generalize hr : all[j] = r at *
  refine zAl ho (by omega) hget ?_
  have hstep : (all.take (j + 1)).foldl yZ ([], []) = yZ ((all.take j).foldl yZ ([], [])) r := by
   rw [List.take_add_one, List.foldl_append, show all[j]? = some r by simpa using hget]
   rfl
  generalize hS : (all.take j).foldl yZ ([], []) = S at *
  have ew : IntKind.wrap .i64 ((j : Int) + 1) = ((j + 1 : Nat) : Int) := by rw [zW (by omega) (by omega)]; omega
  rw [ew]
  have fin : ∀ w', StaAt w' w.heap.size m1 (yZ S r) → Own w' w2.heap.size 246 19 p l cp (all.flatMap recL) → Keep (fun _ => False) w w' → w2.heap.size ≤ w'.heap.size →
    ∃ m', m' < ((l : Int) - (j : Int)).toNat ∧ ((∃ j' : Nat, ((j + 1 : Nat) : Int) = j' ∧ j' ≤ l ∧ StaAt w' w.heap.size m1 ((all.take j').foldl yZ ([], [])) ∧ Own w' w2.heap.size 246 19 p l cp (all.flatMap recL) ∧ Keep (fun _ => False) w w' ∧ w2.heap.size ≤ w'.heap.size) ∧ ((l : Int) - ((j + 1 : Nat) : Int)).toNat = m') :=
   fun w' a b c d => ⟨_, by omega, ⟨j + 1, rfl, hj, by rw [hstep]; exact a, b, c, d⟩, rfl⟩
  refine QH (K := fun b1 w => _) fun w5 hb1 k5 hs5 => ?_
  have hst5 := hst.keep k5 (by simp) (by simp)
  refine zG (v := .int .i64 r.lba) hb1 rfl ?_
  simp only [zA]
  refine zV (fun d => T6 (hst5.nw.dr d) r.lba) ?_
  simp only [yM, zJ, zM]
  refine ⟨rfl, QH (K := fun b2 w => _) fun w6 hb2 k6 hs6 => ?_⟩
  have hb1' := k6.has hb1 (by simp)
  have hst6 := hst5.keep k6 (by simp) (by simp)
  have k56 := k5.trans k6
  have ho6 := ho.keep k56 (by simp)
  have k46 := k4.trans k56
  have hsz6 : w2.heap.size ≤ w6.heap.size := by have := k56.size; omega
  have finP : ∀ w', StaAt w' w.heap.size m1 (yZ S r) → Keep (fun k => k = w.heap.size ∨ k = m1) w6 w' → ∃ m', m' < ((l : Int) - (j : Int)).toNat ∧ ((∃ j' : Nat, ((j + 1 : Nat) : Int) = j' ∧ j' ≤ l ∧ StaAt w' w.heap.size m1 ((all.take j').foldl yZ ([], [])) ∧ Own w' w2.heap.size 246 19 p l cp (all.flatMap recL) ∧ Keep (fun _ => False) w w' ∧ w2.heap.size ≤ w'.heap.size) ∧ ((l : Int) - ((j + 1 : Nat) : Int)).toNat = m') :=
   fun w' a b => fin w' a (ho6.keep b (fun k hp => by have := (ho6.lt hp).1; omega)) (k46.trans' b (fun k hk e => by omega)) (by have := b.size; omega)
  refine zG (v := .int .i64 r.kind) hb1' rfl ?_
  simp only [zA]
  refine zN (fun hk => ?_) (fun hk => ?_)
  ·have hk' : r.kind = 2 := by simpa using hk
   refine zG (v := .int .i64 r.lba) hb1' rfl ?_
   simp only [zA]
   refine zV (fun d => MF (hst6.cl.dr d) r.lba) ?_
   simp only [yM, zA, zM]
   cases hl : zS S.2 r.lba with
   | none =>
    simp only [Option.isSome_none, Bool.not_false, zT]
    refine zG (v := .int .i64 r.lba) hb1' rfl ?_
    simp only [zA]
    refine zG (v := .int .u64 r.ver) hb1' rfl ?_
    simp only [zA]
    have e : yZ S r = (S.1, ins S.2 r.lba r.ver) := by simp [yZ, hk', hl]
    rw [e] at finP
    exact O6 hst6 _ _ finP
   | some v =>
    simp only [Option.isSome_some, Bool.not_true, zH, Option.getD_some]
    refine zG (v := .int .u64 r.ver) hb1' rfl ?_
    simp only [zA]
    refine zN (fun hv => ?_) (fun hv => ?_)
    ·have hv' : v < r.ver := by simpa using hv
     refine zG (v := .int .i64 r.lba) hb1' rfl ?_
     simp only [zA]
     refine zG (v := .int .u64 r.ver) hb1' rfl ?_
     simp only [zA]
     have e : yZ S r = (S.1, ins S.2 r.lba r.ver) := by simp [yZ, hk', hl, hv']
     rw [e] at finP
     exact O6 hst6 _ _ finP
    ·have hv' : ¬ v < r.ver := by simpa using hv
     have e : yZ S r = S := by simp [yZ, hk', hl, hv']
     rw [e] at finP
     exact finP w6 hst6 (Keep.refl _ _)
  ·have hk' : ¬ r.kind = 2 := by simpa using hk
   refine zG (v := .int .i64 r.kind) hb1' rfl ?_
   simp only [zA]
   refine zN (fun hd => ?_) (fun hd => ?_)
   ·have hd' : r.kind = 1 := by simpa using hd
    cases hl : zS S.1 r.lba with
    | none =>
     simp only [Option.isSome_none, Bool.not_false, zT]
     refine zG (v := .int .i64 r.lba) hb1' rfl ?_
     simp only [zA]
     refine zQ hb1' rfl ?_
     have e : yZ S r = (ins S.1 r.lba r, S.2) := by simp [yZ, hd', hl]
     rw [e] at finP
     exact H9 hst6 r finP
    | some o =>
     rw [hl] at hb2
     simp only [Option.isSome_some, Bool.not_true, zH]
     refine zG (v := .int .u64 o.ver) hb2 rfl ?_
     simp only [zA]
     refine zG (v := .int .u64 r.ver) hb1' rfl ?_
     simp only [zA]
     refine zN (fun hv => ?_) (fun hv => ?_)
     ·have hv' : o.ver < r.ver := by simpa using hv
      refine zG (v := .int .i64 r.lba) hb1' rfl ?_
      simp only [zA]
      refine zQ hb1' rfl ?_
      have e : yZ S r = (ins S.1 r.lba r, S.2) := by simp [yZ, hd', hl, hv']
      rw [e] at finP
      exact H9 hst6 r finP
     ·have hv' : ¬ o.ver < r.ver := by simpa using hv
      have e : yZ S r = S := by simp [yZ, hd', hl, hv']
      rw [e] at finP
      exact finP w6 hst6 (Keep.refl _ _)
   ·have hd' : ¬ r.kind = 1 := by simpa using hd
    have e : yZ S r = S := by simp [yZ, hk', hd']
    rw [e] at finP
    exact finP w6 hst6 (Keep.refl _ _)
 ·have hj : j = l := by simp only [decide_eq_false_iff_not] at hc; omega
  subst hj
  have e0 : all.take j = all := by rw [hlen]; simp
  rw [e0] at hst
  generalize hS : all.foldl yZ ([], []) = S at *
  have hlnw : S.1.length ≤ all.length := by
   rw [← hS]
   have : ∀ (l : List Rec) (t : Sta), (l.foldl yZ t).1.length ≤ t.1.length + l.length := by
    intro l
    induction l with
    | nil => intro t; simp
    | cons r l ih =>
     intro t
     rw [List.foldl_cons]
     have h1 := ih (yZ t r)
     have h2 : (yZ t r).1.length ≤ t.1.length + 1 := by
      unfold yZ
      split
      ·simp
      ·split
       ·simp only
        split
        ·rw [MI]; split <;> omega
        ·split
         ·rw [MI]; split <;> omega
         ·omega
       ·simp
     simp only [List.length_cons]
     omega
   have := this all ([], [])
   simpa using this
  obtain ⟨w5, hr5, hI5, k5⟩ := VH (P := Tryz.prog) gB hst.nw
  refine ⟨_, _, hr5, ?_⟩
  simp only [zO]
  have hcl5 := hst.cl.keep k5 (by simp)
  have k45 := k4.trans k5
  have hrw := hI5.lt
  refine ⟨fun (mm : Nat) (s : (Option Addr × Nat × Nat) × Unit) w' => ∃ (left done : List (Int × Rec)), left.length = mm ∧ Iter .i64 w' w4.heap.size w.heap.size (tag recA left) ∧ (done ++ left).Perm S.1 ∧ x8 .i64 w' m1 (tag u64V S.2) ∧
    Own w' (w4.heap.size + 1) 246 19 s.1.1 s.1.2.1 s.1.2.2 (((done.filter (UR S.2)).map (·.2)).flatMap recL) ∧ Keep (fun _ => False) w w' ∧ w4.heap.size + 1 ≤ w'.heap.size,
   ⟨_, S.1, [], rfl, hI5, by simp, hcl5, Own.nil _ _ _ _, k45, by omega⟩, ?_⟩
  intro _ mm s w6 hs
  obtain ⟨⟨q, ql, qc⟩, u⟩ := s
  obtain ⟨left, done, hmm, hI6, hperm, hcl6, ho6, k6, hsz6⟩ := hs
  simp only at ho6 ⊢
  have hcnt : ∀ (rs : List Rec) {w : World} {q : Option Addr} {ql qc : Nat}, Own w (w4.heap.size + 1) 246 19 q ql qc (rs.flatMap recL) → ql = rs.length := by
   intro rs w q ql qc h5
   rw [yL] at h5
   have h6 := h5.count (y8 _) (by decide)
   rwa [List.length_map] at h6
  have hdl : done.length + left.length = S.1.length := by have := hperm.length_eq; simpa using this
  have hql : ql ≤ done.length := by
   rw [hcnt _ ho6, List.length_map]
   exact List.length_filter_le _ _
  have hS1 : S.1.length ≤ 10000000 := by omega
  rcases Q1 (P := Tryz.prog) (ty := 0) hI6 with ⟨hnil, hr6⟩ | ⟨x, v, left', w7, hp7, hr7, hI7, hA7, k7⟩
  ·refine ⟨_, _, hr6, Or.inr ⟨rfl, ?_⟩⟩
   have hleft : left = [] := by
    cases left with
    | nil => rfl
    | cons a b => simp [tag] at hnil
   subst hleft
   rw [List.append_nil] at hperm
   have eg : ∀ args w, (callFunc 232 args).run Tryz.prog w = .ok (.enter 232 args) w := enters_of Tryz.func232 (by kernel_rfl) rfl
   refine zB3 zH1 eg ho6 (by omega) fun rs w8 hrp hrs ho8 k8 => ?_
   simp only [zF]
   have hz4 := k4.size
   have k8' : Keep (fun _ => False) w w8 := k6.trans' k8 (fun k hk e => by have := (ho6.lt e).1; omega)
   refine hK q ql qc rs w8 (hrp.trans ?_) hrs ?_ k8'
   ·exact (hperm.filter _).map _
   ·rcases ho8.cases with ⟨rfl, rfl, rfl, h0⟩ | ⟨b, cur, rfl, hb, hg, hle, hmx, hss, ht'⟩
    ·rw [h0]; exact Own.nil _ _ _ _
    ·exact Own.mk (by omega) hg hle hmx hss ht'
  ·obtain ⟨e, left2, rfl, rfl, hp2⟩ := zEe zLq hp7
   refine ⟨_, _, hr7, Or.inl ⟨_, _, rfl, ?_⟩⟩
   have hlt2 : left.length = left2.length + 1 := by have := hp2.length_eq; simpa using this
   refine zV (fun d => VI (hA7.keep (Keep.drew (fun _ => False) w7 d) (by simp) (by simp))) ?_
   simp only [yM, zA, recA, zJ]
   have hz4 := k4.size
   have k67 : Keep (fun _ => False) w w7 := k6.trans' k7 (fun k hk e => by omega)
   have ho7 := ho6.keep k7 (fun k hp => by have := (ho6.lt hp).1; omega)
   have hcl7 := hcl6.keep k7 (by omega)
   refine ⟨rfl, QH (K := fun b2 w => _) fun w8 hb8 k8 hs8 => ?_⟩
   have hI8 := hI7.keep k8 (by simp) (by simp)
   have hcl8 := hcl7.keep k8 (by simp)
   have ho8 := ho7.keep k8 (by simp)
   have k08 := k67.trans k8
   have hsz8 : w4.heap.size + 1 ≤ w8.heap.size := by have := k7.size; have := k8.size; omega
   refine zV (fun d => MF (hcl8.dr d) x) ?_
   simp only [yM, zA, zM]
   have hperm2 : ((done ++ [(x, e)]) ++ left2).Perm S.1 := by
    have h9 : (done ++ left).Perm (done ++ (x, e) :: left2) := hp2.append_left done
    have := h9.symm.trans hperm
    simpa using this
   have ha := Has.new w8 (.cells (recV e) 246)
   have k9 := Keep.new (fun _ => False) w8 (.cells (recV e) 246)
   have ho9 := ho8.keep k9 (by simp)
   obtain ⟨p', c', w10, hr10, ho10, k10⟩ := zHd ho9 ha (by omega) (by have := k9.size; omega)
   have hI9 := hI8.keep k9 (by simp) (by simp)
   have hcl9 := hcl8.keep k9 (by simp)
   have hz9 := k9.size
   have hz10 := k10.size
   have bl : ∀ k, q = some ⟨k, 0, none⟩ → w4.heap.size + 1 ≤ k := fun k hp => (ho9.lt hp).1
   refine zN (fun hb => ?_) (fun hb => ?_)
   ·have hl : zS S.2 x = none := by simpa using hb
    have hkp : UR S.2 (x, e) = true := by simp [UR, hl]
    refine zQ hb8 rfl ?_
    refine ⟨_, _, zAc e w8, ?_⟩
    simp only [zC]
    refine ⟨_, _, hr10, ?_⟩
    simp only [zC]
    exact ⟨left2.length, by omega, left2, done ++ [(x, e)], rfl, hI9.keep k10 (fun hp => by have := bl _ hp; omega) (fun hp => by have := bl _ hp; omega), hperm2, hcl9.keep k10 (fun hp => by have := bl _ hp; omega),
     by simpa [List.filter_append, hkp] using ho10, (k08.trans k9).trans' k10 (fun k hk hp => by have := bl _ hp; omega), by omega⟩
   ·cases hl : zS S.2 x with
    | none => simp [hl] at hb
    | some v =>
     refine zG (v := .int .u64 e.ver) hb8 rfl ?_
     simp only [zA, Option.getD_some]
     refine zN (fun hv => ?_) (fun hv => ?_)
     ·have hkp : UR S.2 (x, e) = true := by simp only [UR, hl]; exact hv
      refine zQ hb8 rfl ?_
      refine ⟨_, _, zAc e w8, ?_⟩
      simp only [zC]
      refine ⟨_, _, hr10, ?_⟩
      simp only [zC]
      exact ⟨left2.length, by omega, left2, done ++ [(x, e)], rfl, hI9.keep k10 (fun hp => by have := bl _ hp; omega) (fun hp => by have := bl _ hp; omega), hperm2, hcl9.keep k10 (fun hp => by have := bl _ hp; omega),
       by simpa [List.filter_append, hkp] using ho10, (k08.trans k9).trans' k10 (fun k hk hp => by have := bl _ hp; omega), by omega⟩
     ·have hkp : UR S.2 (x, e) = false := by simp only [UR, hl]; exact hv
      exact ⟨left2.length, by omega, left2, done ++ [(x, e)], rfl, hI8, hperm2, hcl8, by simpa [List.filter_append, hkp] using ho8, k08, hsz8⟩
end Go.Proofs
namespace Go.Proofs
open Go Go.Ev Go.RowKit
set_option maxRecDepth 100000
def topStep (t : Int) (r : Rec) : Int := if 1 ≤ r.kind ∧ r.kind ≤ 5 then max t r.ver else t
theorem zIe (a b : Int) (t : TypeId) (ts : Array TypeId) (w : World) : (Builtin.max_ ts t #[.int .u64 a, .int .u64 b]).run Tryz.prog w = .ok (.int .u64 (max a b)) w := by
 simp only [Builtin.max_, List.foldlM, Builtin.max2, Sem.run_bind, Sem.run_pure, if_true]
 by_cases h : a < b
 ·simp [h, Sem.run_pure, Int.max_eq_right (Int.le_of_lt h)]
 ·simp [h, Sem.run_pure, Int.max_eq_left (Int.not_lt.1 h)]
theorem zFr {xp : Option Addr} {n c : Nat} {rss : List (List Rec)} {w : World} {R : Value → World → Prop} (h : zAk w xp n rss) (hn : n ≤ 1000000000) (ht : total rss ≤ 10000000)
  (hK : ∀ w', Keep (fun _ => False) w w' → R (.int .u64 (rss.flatten.foldl topStep 0)) w') : zB Tryz.prog 166 #[.slice xp n c] w R := by
 apply zAo
 unfold G5
 refine YZ h hn (by omega) fun p l cp w1 ho k1 => ?_
 simp only [zC]
 have hlen : l = rss.flatten.length := by
  have h5 := ho
  rw [yL] at h5
  have h6 := h5.count (y8 _) (by decide)
  rwa [List.length_map] at h6
 have hbd : rss.flatten.length ≤ 10000000 := ht
 generalize rss.flatten = all at *
 refine zP (σ := Int × Int × Unit) (fun s w' => ∃ j : Nat, s.2.1 = j ∧ j ≤ l ∧ s.1 = (all.take j).foldl topStep 0 ∧ Own w' w.heap.size 246 19 p l cp (all.flatMap recL) ∧ Keep (fun _ => False) w w') (fun s _ => (l - s.2.1).toNat) ⟨0, rfl, by omega, rfl, ho, k1⟩ ?_
 clear ho
 intro _ s w2 hs
 obtain ⟨t, i, u⟩ := s
 obtain ⟨j, hij, hjl, htt, ho, k2⟩ := hs
 simp only at hij htt ⊢
 subst hij htt
 refine zN (fun hc => ?_) (fun hc => ?_)
 ·have hj : j < l := by simp only [decide_eq_true_eq] at hc; omega
  have hget : all[((j : Nat) : Int).toNat]? = some all[j] := by simp [show j < all.length by omega]
  generalize hr : all[j] = r at *
  have hstep : (all.take (j + 1)).foldl topStep 0 = topStep ((all.take j).foldl topStep 0) r := by
   rw [List.take_add_one, List.foldl_append, show all[j]? = some r by simpa using hget]
   rfl
  have ew : IntKind.wrap .i64 ((j : Int) + 1) = ((j + 1 : Nat) : Int) := by rw [zW (by omega) (by omega)]; omega
  rw [ew]
  refine zAl ho (by omega) hget ?_
  refine QH (K := fun b1 w => _) fun w3 hb k3 _ => ?_
  have ho3 := ho.keep k3 (by simp)
  have fin : ∀ t, t = topStep ((all.take j).foldl topStep 0) r → ∃ m', m' < ((l : Int) - (j : Int)).toNat ∧ ((∃ j' : Nat, ((j + 1 : Nat) : Int) = j' ∧ j' ≤ l ∧ t = (all.take j').foldl topStep 0 ∧ Own w3 w.heap.size 246 19 p l cp (all.flatMap recL) ∧ Keep (fun _ => False) w w3) ∧ ((l : Int) - ((j + 1 : Nat) : Int)).toNat = m') :=
   fun t e => ⟨_, by omega, ⟨j + 1, rfl, hj, by rw [hstep]; exact e, ho3, k2.trans k3⟩, rfl⟩
  refine zG (v := .int .i64 r.kind) hb rfl ?_
  simp only [zA]
  refine zN (fun h1 => ?_) (fun h1 => ?_)
  ·refine zG (v := .int .i64 r.kind) hb rfl ?_
   simp only [zA]
   refine zN (fun h5 => ?_) (fun h5 => ?_)
   ·refine zG (v := .int .u64 r.ver) hb rfl ?_
    simp only [zA]
    refine zV (fun d => zIe _ _ _ _ _) ?_
    simp only [zA]
    refine fin _ ?_
    unfold topStep
    rw [if_pos ⟨by simpa using h1, by simpa using h5⟩]
   ·refine fin _ ?_
    unfold topStep
    rw [if_neg (fun hh => by have := hh.2; simp at h5; omega)]
  ·refine fin _ ?_
   unfold topStep
   rw [if_neg (fun hh => by have := hh.1; simp at h1; omega)]
 ·have hj : j = l := by simp only [decide_eq_false_iff_not] at hc; omega
  subst hj
  have e0 : all.take j = all := by rw [hlen]; simp
  rw [e0]
  simp only [zF]
  exact hK w2 k2
def arCp (q : AB) (lk : Int) (pp : Option Addr) (s : AS) : Array Value :=
 arW lk q.pb.m q.g q.sp q.g.d.toNat q.sc (some ⟨q.pb.a, 0, none⟩) (some ⟨q.pb.b, 0, none⟩) pp s.ua s.ub q.dk s.la s.ea s.lb s.eb s.split q.ms q.g.d.toNat q.mc q.pb.room s.later
theorem OE (q : AB) (lk : Int) (pp : Option Addr) (s : AS) : (arCp q lk pp s).extract 3 (3 + 4) = setV q.g q.sp q.g.d.toNat q.sc := by
 apply Array.ext'
 simp only [Array.toList_extract, List.extract_eq_take_drop]
 rfl
theorem zNt (q : AB) (lk : Int) (pp : Option Addr) (s : AS) : (arCp q lk pp s).extract 7 (7 + 2) = #[.pointer (some ⟨q.pb.a, 0, none⟩), .pointer (some ⟨q.pb.b, 0, none⟩)] := by
 apply Array.ext'
 simp only [Array.toList_extract, List.extract_eq_take_drop]
 rfl
structure ArC (w : World) (q : AB) (lk : Int) (pp : Option Addr) (s : AS) : Prop where
 cells : Has w q.a (.cells (arCp q lk pp s) 143 (0, 0))
 stm : StmAt w q.mb q.g q.bks q.pb.base q.sp q.sc s.ss s.ps.xa s.ps.xb
 desk : DkAt w q.dk s.d
 marks : OwnL iLay w q.pb.base 3 q.ms q.g.d.toNat q.mc s.marks
theorem ArAt.toC {w : World} {q : AB} {lk : Int} {s : AS} (h : ArAt w q lk s) : ArC w q lk (some ⟨q.pb.p, 0, none⟩) s := ⟨h.cells, h.stm, h.desk, h.marks⟩
structure ArP (w : World) (q : AB) (lk : Int) (pp : Option Addr) (s : AS) : Prop where
 cells : Has w q.a (.cells (arCp q lk pp s) 143 (0, 0))
 set : SetAt w q.sb s.ss
 disks : OwnL dLay w q.pb.base 111 q.sp q.g.d.toNat q.sc (q.bks.map Prod.fst)
 pair : PairAt w q.pb s.ps
 desk : DkAt w q.dk s.d
 marks : OwnL iLay w q.pb.base 3 q.ms q.g.d.toNat q.mc s.marks
theorem ArP.at {w : World} {q : AB} {lk : Int} {s : AS} (h : ArP w q lk (some ⟨q.pb.p, 0, none⟩) s) : ArAt w q lk s := ⟨h.cells, h.set, h.disks, h.pair, h.desk, h.marks⟩
section plain
variable {w w' : World} {q : AB} {lk : Int} {pp : Option Addr} {s : AS}
theorem wH {i x : Nat} {cs cs' : Array Value} {t t' : TypeId} {f f' : Nat × Nat} (hi : Has w i (.cells cs t f)) (hx : Has w x (.cells cs' t' f')) (ht : t ≠ t') : ¬ i = x := fun e => by
 subst e
 have := hi.inj hx
 simp only [Obj.cells.injEq] at this
 exact ht this.2.1
theorem Q4 {α : Type} {L : Lay α} {b x : Nat} {e t : TypeId} {p : Option Addr} {l c : Nat} {xs : List α} {cs : Array Value} {f : Nat × Nat} (h : OwnL L w b e p l c xs) (hx : Has w x (.cells cs t f)) (ht : e ≠ t) : ∀ k, p = some ⟨k, 0, none⟩ → ¬ k = x := fun k hk => by
 obtain ⟨_, cur, hh⟩ := yI h k 0 hk
 exact wH hh hx ht
theorem StmAt.T8 {mb : MB} {g : Geo} {bks : List (Nat × Nat)} {base : Nat} {dp : Option Addr} {dc : Nat} {ss : SS} {xa xb : List Int} (h : StmAt w mb g bks base dp dc ss xa xb) {x : Nat} {cs : Array Value} {t : TypeId} {f : Nat × Nat} (hx : Has w x (.cells cs t f)) (k : Keep (fun k => k = x) w w')
  (h1 : t ≠ 5) (h2 : t ≠ 209) (h3 : t ≠ 214) (h4 : t ≠ 220) (h5 : t ≠ 260) (h6 : t ≠ 111) : StmAt w' mb g bks base dp dc ss xa xb := by
 obtain ⟨pa, la, ca, pb, lb, cb, ha, hb, hne⟩ := h.mems.rams
 refine ⟨h.set.keep k fun i hi e => h.set.typ hx h2 h4 h5 (e ▸ hi), h.disks.keep k (Q4 h.disks hx h6.symm), ⟨k.has (show Has w _ _ from h.mems.main) (wH (show Has w _ _ from h.mems.main) hx h2.symm), ⟨pa, la, ca, pb, lb, cb, ⟨k.has ha.cells (wH ha.cells hx h3.symm), ha.row.keep k (Q4 ha.row hx h1.symm)⟩, ⟨k.has hb.cells (wH hb.cells hx h3.symm), hb.row.keep k (Q4 hb.row hx h1.symm)⟩, hne⟩, h.mems.ne, h.mems.fit, h.mems.form, Nat.le_trans h.mems.low k.size⟩⟩
theorem ArC.zX (h : ArC w q lk pp s) (k : Keep (fun _ => False) w w') : ArC w' q lk pp s :=
 ⟨k.has h.cells (by simp), h.stm.zX k, k.has (show Has w _ _ from h.desk) (by simp), h.marks.keep k (by simp)⟩
theorem ArC.put (h : ArC w q lk pp s) {lk' : Int} {pp' : Option Addr} {s' : AS} (h1 : s'.ss = s.ss) (h2 : s'.ps.xa = s.ps.xa ∧ s'.ps.xb = s.ps.xb) (h3 : s'.d = s.d) (h4 : s'.marks = s.marks) :
  ArC (w.upd q.a (.cells (arCp q lk' pp' s') 143 (0, 0))) q lk' pp' s' := by
 have k : Keep (fun k => k = q.a) w (w.upd q.a (.cells (arCp q lk' pp' s') 143 (0, 0))) := Keep.one _ _ _
 refine ⟨h.cells.zL _, ?_, ?_, ?_⟩
 ·rw [h1, h2.1, h2.2]
  exact h.stm.T8 h.cells k (by decide) (by decide) (by decide) (by decide) (by decide) (by decide)
 ·rw [h3]; exact k.has (show Has w _ _ from h.desk) (wH (show Has w _ _ from h.desk) h.cells (by decide))
 ·rw [h4]; exact h.marks.keep k (Q4 h.marks h.cells (by decide))
theorem ArC.zFg (h : ArC w q lk pp s) {s' : SS} {xa xb : List Int} (hs : StmAt w' q.mb q.g q.bks q.pb.base q.sp q.sc s' xa xb) (k : Keep (y0 q.mb q.g q.bks w) w w') : ArC w' q lk pp { s with ds := s'.ds, ps := { s.ps with pw := s'.pw, xa := xa, xb := xb } } := by
 refine ⟨y0.has h.stm k h.cells (by decide) (by decide) (by decide) (by decide) (by decide), hs, y0.has h.stm k (show Has w _ _ from h.desk) (by decide) (by decide) (by decide) (by decide) (by decide), h.marks.keep k fun b hb => ?_⟩
 obtain ⟨_, cur, hh⟩ := yI h.marks b 0 hb
 exact y0.not h.stm hh (by decide) (by decide) (by decide) (by decide) (by decide)
theorem ArC.Q8 (h : ArC w q lk pp s) {ms : MS} (hm : MemsAt w' q.mb ms) (k : Keep (y6 q.mb w) w w') : ArC w' q lk pp { s with ps := { s.ps with pw := ms.pw, xa := ms.xa, xb := ms.xb } } :=
 h.zFg (h.stm.Q8 hm k) (y0.ofM k)
theorem ArC.O8 (h : ArC w q lk pp s) {s' : SS} (hs : SetAt w' q.sb s') (k : Keep (vJ q.sb) w w') : ArC w' q lk pp { s with ds := s'.ds, ps := { s.ps with pw := s'.pw } } :=
 h.zFg (h.stm.O8 hs k) (y0.ofS k)
theorem ArC.zPc (h : ArC w q lk pp s) {d' : Dk} (hd : DkAt w' q.dk d') (k : Keep (fun k => k = q.dk) w w') : ArC w' q lk pp { s with d := d' } := by
 have hk : Has w q.dk _ := h.desk
 exact ⟨k.has h.cells (wH h.cells hk (by decide)), h.stm.T8 hk k (by decide) (by decide) (by decide) (by decide) (by decide) (by decide), hd, h.marks.keep k (Q4 h.marks hk (by decide))⟩
def ArS (q : AB) (w : World) (k : Nat) : Prop := ArF q w k ∨ k = q.dk
theorem ArS.trans {w1 w2 : World} (h : Keep (ArS q w) w w1) (k : Keep (ArS q w1) w1 w2) : Keep (ArS q w) w w2 :=
 h.trans' k fun i hi hf => Classical.byContradiction fun hn => by
  rcases hf with (e | e | e | e | e | e | e | ⟨hb, cs, hc⟩) | e
  ·exact hn (Or.inl (Or.inl e))
  ·exact hn (Or.inl (Or.inr (Or.inl e)))
  ·exact hn (Or.inl (Or.inr (Or.inr (Or.inl e))))
  ·exact hn (Or.inl (Or.inr (Or.inr (Or.inr (Or.inl e)))))
  ·exact hn (Or.inl (Or.inr (Or.inr (Or.inr (Or.inr (Or.inl e))))))
  ·exact hn (Or.inl (Or.inr (Or.inr (Or.inr (Or.inr (Or.inr (Or.inl e)))))))
  ·exact hn (Or.inl (Or.inr (Or.inr (Or.inr (Or.inr (Or.inr (Or.inr (Or.inl e))))))))
  ·exact hn (Or.inl (Or.inr (Or.inr (Or.inr (Or.inr (Or.inr (Or.inr (Or.inr ⟨hb, cs, (h.block i hi hn).symm.trans hc⟩))))))))
  ·exact hn (Or.inr e)
theorem ArS.none (h : Keep (fun _ => False) w w') : Keep (ArS q w) w w' := h.mono fun _ h => h.elim
theorem ArS.ofA (h : Keep (fun k => k = q.a) w w') : Keep (ArS q w) w w' := h.mono fun _ h => Or.inl (Or.inl h)
theorem ArS.ofW (h : Keep (y0 q.mb q.g q.bks w) w w') : Keep (ArS q w) w w' := h.mono fun _ h => Or.inl (y0.arF h)
theorem ArS.ofM (h : Keep (y6 q.mb w) w w') : Keep (ArS q w) w w' := ArS.ofW (y0.ofM h)
theorem ArS.ofS (h : Keep (vJ q.sb) w w') : Keep (ArS q w) w w' := ArS.ofW (y0.ofS h)
theorem ArS.low {n : Nat} (h : ArFrom q n) {k : Nat} (hk : ArS q w k) : n ≤ k := by
 rcases hk with e | e
 ·exact ArF.low h e
 ·have := h.dk; omega
theorem ArP.zX (h : ArP w q lk pp s) (k : Keep (fun _ => False) w w') : ArP w' q lk pp s :=
 ⟨k.has h.cells (by simp), h.set.zX k, h.disks.keep k (by simp), h.pair.keep k, k.has (show Has w _ _ from h.desk) (by simp), h.marks.keep k (by simp)⟩
theorem ArP.share (h : ArP w q lk pp s) {i : Nat} (hp : yE q.pb w i) (hs : vJ q.sb i) : i = q.pb.m := by
 obtain ⟨_, _, _, _, _, _, ha, hb, _⟩ := h.pair.rams
 rcases hp with e | e | e | e | e | ⟨_, cs, hc⟩
 ·subst e; exact absurd hs (h.set.typ h.pair.cells (by decide) (by decide) (by decide))
 ·subst e
  obtain ⟨cs, t, hc⟩ := h.set.blk hs
  obtain ⟨_, arr, clk, hm, _⟩ := h.pair.cache
  have := hc.inj hm
  cases this
 ·exact e
 ·subst e; exact absurd hs (h.set.typ ha.cells (by decide) (by decide) (by decide))
 ·subst e; exact absurd hs (h.set.typ hb.cells (by decide) (by decide) (by decide))
 ·exact absurd hs (h.set.typ hc (by decide) (by decide) (by decide))
theorem ArP.gI (h : ArP w q lk pp s) {p : PS} (hp : PairAt w' q.pb p) (k : Keep (yE q.pb w) w w') : ArP w' q lk pp { s with ps := p } :=
 ⟨yE.has k h.cells (by decide) h.pair (by decide) (by decide) (by decide), h.set.pow k (fun i hs hf => h.share hf hs) hp.main,
  yE.own k h.disks (by decide) h.pair (by decide) (by decide) (by decide), hp, yE.has k (show Has w _ _ from h.desk) (by decide) h.pair (by decide) (by decide) (by decide),
  yE.own k h.marks (by decide) h.pair (by decide) (by decide) (by decide)⟩
theorem ArP.put (h : ArP w q lk pp s) {lk' : Int} {pp' : Option Addr} {s' : AS} (h1 : s'.ss = s.ss) (h2 : s'.ps = s.ps) (h3 : s'.d = s.d) (h4 : s'.marks = s.marks) :
  ArP (w.upd q.a (.cells (arCp q lk' pp' s') 143 (0, 0))) q lk' pp' s' := by
 have k : Keep (fun k => k = q.a) w (w.upd q.a (.cells (arCp q lk' pp' s') 143 (0, 0))) := Keep.one _ _ _
 have ne : ∀ {i : Nat} {cs : Array Value} {t : TypeId}, Has w i (.cells cs t (0, 0)) → t ≠ 143 → ¬ i = q.a := fun hi ht => wH hi h.cells ht
 refine ⟨h.cells.zL _, by rw [h1]; exact h.set.keep k fun i hi e => h.set.typ h.cells (by decide) (by decide) (by decide) (e ▸ hi), h.disks.keep k (Q4 h.disks h.cells (by decide)), by rw [h2]; exact h.pair.zJ6 k (fun i hi e => yE.not h.cells (by decide) h.pair (by decide) (by decide) (by decide) (e ▸ hi)) (ne h.pair.cache.1 (by decide)), by rw [h3]; exact k.has (show Has w _ _ from h.desk) (ne h.desk (by decide)), ?_⟩
 rw [h4]
 exact h.marks.keep k (Q4 h.marks h.cells (by decide))
end plain
section calls
variable {w : World} {q : AB} {lk : Int} {pp : Option Addr} {s : AS} {R : Value → World → Prop}
theorem zK4 (h : ArC w q 0 pp s) (hK : ∀ w', ArC w' q 1 pp s → Keep (fun k => k = q.a) w w' → R (.tuple #[]) w') : zB Tryz.prog 75 #[.pointer (some ⟨q.a, 0, none⟩)] w R :=
 zFq Tryz.zIz h.cells rfl (hK _ (h.put (lk' := 1) (pp' := pp) (s' := s) rfl ⟨rfl, rfl⟩ rfl rfl) (Keep.one _ _ _))
theorem zDq (h : ArC w q 1 pp s) {K : World → Prop} (hK : ∀ w', ArC w' q 0 pp s → Keep (fun k => k = q.a) w w' → K w') : xG Tryz.prog 76 #[.pointer (some ⟨q.a, 0, none⟩)] w K :=
 KB Tryz.zIz h.cells rfl (hK _ (h.put (lk' := 0) (pp' := pp) (s' := s) rfl ⟨rfl, rfl⟩ rfl rfl) (Keep.one _ _ _))
end calls
end Go.Proofs
namespace Go.Proofs
open Go Go.Ev
set_option maxRecDepth 100000
def bst (x : Int) (o : Option Rec) (r : Rec) : Option Rec :=
 if r.kind = 1 ∧ r.lba = x then (match o with
  | none => some r
  | some q => if q.ver < r.ver then some r else some q) else o
def cst (x : Int) (o : Option Int) (r : Rec) : Option Int :=
 if r.kind = 2 ∧ r.lba = x then (match o with
  | none => some r.ver
  | some v => if v < r.ver then some r.ver else some v) else o
theorem zDa (s : Sta) (r : Rec) (x : Int) : zS (yZ s r).1 x = bst x (zS s.1 x) r := by
 unfold yZ bst
 by_cases h2 : r.kind = 2
 ·rw [if_pos h2, if_neg (fun h => by omega)]
 ·rw [if_neg h2]
  by_cases h1 : r.kind = 1
  ·rw [if_pos h1]
   by_cases hx : r.lba = x
   ·subst hx
    rw [if_pos ⟨h1, rfl⟩]
    simp only
    cases hl : zS s.1 r.lba with
    | none => simp [xT]
    | some q =>
     simp only
     split
     ·simp [xT]
     ·exact hl
   ·rw [if_neg (fun h => hx h.2)]
    simp only
    cases hl : zS s.1 r.lba with
    | none => simp only [xT]; rw [if_neg (fun e => hx e.symm)]
    | some q =>
     simp only
     split
     ·rw [xT, if_neg (fun e => hx e.symm)]
     ·rfl
  ·rw [if_neg h1, if_neg (fun h => h1 h.1)]
theorem zD8 (s : Sta) (r : Rec) (x : Int) : zS (yZ s r).2 x = cst x (zS s.2 x) r := by
 unfold yZ cst
 by_cases h2 : r.kind = 2
 ·rw [if_pos h2]
  by_cases hx : r.lba = x
  ·subst hx
   rw [if_pos ⟨h2, rfl⟩]
   simp only
   cases hl : zS s.2 r.lba with
   | none => simp [xT]
   | some q =>
    simp only
    split
    ·simp [xT]
    ·exact hl
  ·rw [if_neg (fun h => hx h.2)]
   simp only
   cases hl : zS s.2 r.lba with
   | none => simp only [xT]; rw [if_neg (fun e => hx e.symm)]
   | some q =>
    simp only
    split
    ·rw [xT, if_neg (fun e => hx e.symm)]
    ·rfl
 ·have e2 : ¬ (r.kind = 2 ∧ r.lba = x) := fun h => h2 h.1
  rw [if_neg h2, if_neg e2]
  split <;> rfl
def gS (all : List Rec) (x : Int) : Option Rec := all.foldl (bst x) none
def zPw (all : List Rec) (x : Int) : Option Int := all.foldl (cst x) none
theorem zDb (all : List Rec) (s : Sta) (x : Int) : zS (all.foldl yZ s).1 x = all.foldl (bst x) (zS s.1 x) := by
 induction all generalizing s with
 | nil => rfl
 | cons r all ih => rw [List.foldl_cons, ih, zDa, List.foldl_cons]
theorem zD9 (all : List Rec) (s : Sta) (x : Int) : zS (all.foldl yZ s).2 x = all.foldl (cst x) (zS s.2 x) := by
 induction all generalizing s with
 | nil => rfl
 | cons r all ih => rw [List.foldl_cons, ih, zD8, List.foldl_cons]
theorem GF (all : List Rec) (x : Int) : zS (all.foldl yZ ([], [])).1 x = gS all x := zDb all _ x
theorem zFy (all : List Rec) (x : Int) : zS (all.foldl yZ ([], [])).2 x = zPw all x := zD9 all _ x
theorem zD5 {s : Sta} (h : (s.1.map (·.1)).Nodup) (r : Rec) : ((yZ s r).1.map (·.1)).Nodup := by
 unfold yZ
 split
 ·exact h
 ·split
  ·simp only
   cases zS s.1 r.lba with
   | none => exact uQ h _ _
   | some q =>
    simp only
    split
    ·exact uQ h _ _
    ·exact h
  ·exact h
theorem O9 (all : List Rec) : ((all.foldl yZ ([], [])).1.map (·.1)).Nodup := by
 have : ∀ (s : Sta), (s.1.map (·.1)).Nodup → ((all.foldl yZ s).1.map (·.1)).Nodup := by
  induction all with
  | nil => exact fun s h => h
  | cons r all ih => exact fun s h => ih _ (zD5 h r)
 exact this _ (by simp)
def Bst (all : List Rec) (r : Rec) : Prop := ∃ i : Nat, all[i]? = some r ∧ r.kind = 1 ∧ ∀ (j : Nat) (q : Rec), all[j]? = some q → q.kind = 1 → q.lba = r.lba → q.ver ≤ r.ver ∧ (q.ver = r.ver → i ≤ j)
def Cln (all : List Rec) (r : Rec) : Prop := ∃ q ∈ all, q.kind = 2 ∧ q.lba = r.lba ∧ r.ver ≤ q.ver
theorem Bst.one {all : List Rec} {r s : Rec} (h : Bst all r) (k : Bst all s) (hl : r.lba = s.lba) : r = s := by
 obtain ⟨i, hi, h1, h2⟩ := h
 obtain ⟨j, hj, k1, k2⟩ := k
 have a := h2 j s hj k1 hl.symm
 have b := k2 i r hi h1 hl
 have : i = j := by
  have hv : s.ver = r.ver := by omega
  have := a.2 hv
  have := b.2 hv.symm
  omega
 subst this
 rw [hi] at hj
 exact Option.some.inj hj
theorem uS (all : List Rec) (r : Rec) (j : Nat) (q : Rec) : (all ++ [r])[j]? = some q ↔ all[j]? = some q ∨ (j = all.length ∧ q = r) := by
 by_cases hj : j < all.length
 ·rw [List.getElem?_append_left hj]
  exact ⟨Or.inl, fun h => by rcases h with h | ⟨h, _⟩; exact h; omega⟩
 ·rw [List.getElem?_append_right (by omega), List.getElem?_eq_none (show all.length ≤ j by omega)]
  by_cases he : j = all.length
  ·subst he; simp [eq_comm]
  ·rw [List.getElem?_eq_none (by simp; omega)]; simp [he]
theorem WE (x : Int) (l : List Rec) : ∀ all : List Rec, l = all.reverse → (match gS all x with
  | none => ∀ q : Rec, q ∈ all → ¬ (q.kind = 1 ∧ q.lba = x)
  | some r => r.lba = x ∧ Bst all r) := by
 induction l with
 | nil =>
  intro (all : List Rec) h
  have : all = [] := by simpa using h.symm
  subst this
  simp [gS]
 | cons r l ih =>
  intro all h
  have hall : all = l.reverse ++ [r] := by rw [← List.reverse_reverse all, ← h]; simp
  have h0 := ih l.reverse (by simp)
  have hb : gS all x = bst x (gS l.reverse x) r := by rw [hall]; unfold gS; rw [List.foldl_append]; rfl
  generalize l.reverse = pre at *
  rw [hb]
  have up : ∀ q, Bst pre q → q.lba = x → (r.kind = 1 ∧ r.lba = x → r.ver ≤ q.ver) → Bst all q := by
   rintro q ⟨i, hi, h1, h2⟩ hx hr
   have hlt := (List.getElem?_eq_some_iff.1 hi).1
   refine ⟨i, by rw [hall]; exact (uS _ _ _ _).2 (Or.inl hi), h1, fun j q' hj hk hl => ?_⟩
   rw [hall] at hj
   rcases (uS _ _ _ _).1 hj with hj | ⟨rfl, rfl⟩
   ·exact h2 j q' hj hk hl
   ·exact ⟨hr ⟨hk, hl.trans hx⟩, fun _ => by omega⟩
  have new : r.kind = 1 → (∀ q ∈ pre, q.kind = 1 → q.lba = r.lba → q.ver < r.ver) → Bst all r := by
   intro h1 hno
   refine ⟨pre.length, by rw [hall]; exact (uS _ _ _ _).2 (Or.inr ⟨rfl, rfl⟩), h1, fun j q hj hk hl => ?_⟩
   rw [hall] at hj
   rcases (uS _ _ _ _).1 hj with hj | ⟨rfl, rfl⟩
   ·have := hno q (List.mem_of_getElem? hj) hk hl
    exact ⟨by omega, fun e => by omega⟩
   ·exact ⟨by omega, fun _ => by omega⟩
  unfold bst
  by_cases hr : r.kind = 1 ∧ r.lba = x
  ·rw [if_pos hr]
   cases ho : gS pre x with
   | none =>
    rw [ho] at h0
    exact ⟨hr.2, new hr.1 fun q hq hk hl => absurd ⟨hk, hl.trans hr.2⟩ (h0 q hq)⟩
   | some q =>
    rw [ho] at h0
    simp only at h0 ⊢
    by_cases hv : q.ver < r.ver
    ·rw [if_pos hv]
     refine ⟨hr.2, new hr.1 fun q' hq hk hl => ?_⟩
     obtain ⟨i, hi, h1, h2⟩ := h0.2
     obtain ⟨j, hj⟩ := List.getElem?_of_mem hq
     have := (h2 j q' hj hk (by rw [hl, hr.2, h0.1])).1
     omega
    ·rw [if_neg hv]
     exact ⟨h0.1, up q h0.2 h0.1 fun _ => by omega⟩
  ·rw [if_neg hr]
   cases ho : gS pre x with
   | none =>
    rw [ho] at h0
    intro q hq
    rw [hall] at hq
    rcases List.mem_append.1 hq with hq | hq
    ·exact h0 q hq
    ·have : q = r := by simpa using hq
     rw [this]; exact hr
   | some q =>
    rw [ho] at h0
    exact ⟨h0.1, up q h0.2 h0.1 fun h => absurd h hr⟩
theorem zK3 (all : List Rec) (r : Rec) : gS all r.lba = some r ↔ Bst all r := by
 have h := WE r.lba all.reverse all rfl
 constructor
 ·intro e; rw [e] at h; exact h.2
 ·intro hb
  cases ho : gS all r.lba with
  | none =>
   rw [ho] at h
   obtain ⟨i, hi, h1, _⟩ := hb
   exact absurd ⟨h1, rfl⟩ (h r (List.mem_of_getElem? hi))
  | some q =>
   rw [ho] at h
   rw [hb.one h.2 h.1.symm]
theorem zC8 (x v : Int) : ∀ (all : List Rec) (o : Option Int), (∃ u, all.foldl (cst x) o = some u ∧ v ≤ u) ↔ (∃ u, o = some u ∧ v ≤ u) ∨ ∃ q ∈ all, q.kind = 2 ∧ q.lba = x ∧ v ≤ q.ver
 | [], o => by simp
 | r :: all, o => by
  rw [List.foldl_cons, zC8 x v all]
  have h : (∃ u, cst x o r = some u ∧ v ≤ u) ↔ (∃ u, o = some u ∧ v ≤ u) ∨ (r.kind = 2 ∧ r.lba = x ∧ v ≤ r.ver) := by
   unfold cst
   by_cases hr : r.kind = 2 ∧ r.lba = x
   ·rw [if_pos hr]
    cases o with
    | none => simp [hr]
    | some u =>
     simp only [Option.some.injEq, exists_eq_left', hr, true_and]
     split <;> simp <;> omega
   ·rw [if_neg hr]
    constructor
    ·exact Or.inl
    ·rintro (h | h)
     ·exact h
     ·exact absurd ⟨h.1, h.2.1⟩ hr
  rw [h]
  simp only [List.mem_cons, exists_eq_or_imp]
  exact or_assoc
theorem zBr (all : List Rec) (r : Rec) : UR (all.foldl yZ ([], [])).2 (r.lba, r) = true ↔ ¬ Cln all r := by
 have h := zC8 r.lba r.ver all none
 unfold UR
 rw [zFy]
 simp only [reduceCtorEq, false_and, exists_false, false_or] at h
 unfold Cln
 rw [← h]
 unfold zPw
 cases all.foldl (cst r.lba) none with
 | none => simp
 | some u => simp
theorem zJ4 (all : List Rec) (r : Rec) : r ∈ KL (all.foldl yZ ([], [])) ↔ Bst all r ∧ ¬ Cln all r := by
 unfold KL
 simp only [List.mem_map, List.mem_filter]
 have hn := O9 all
 have key : ∀ x q, (x, q) ∈ (all.foldl yZ ([], [])).1 → q.lba = x ∧ Bst all q := by
  intro x q h
  have h1 := qI hn h
  rw [GF] at h1
  have h2 := WE x all.reverse all rfl
  rw [h1] at h2
  exact h2
 constructor
 ·rintro ⟨⟨x, q⟩, ⟨hm, hk⟩, rfl⟩
  obtain ⟨rfl, hb⟩ := key x q hm
  exact ⟨hb, (zBr all q).1 hk⟩
 ·rintro ⟨hb, hc⟩
  refine ⟨(r.lba, r), ⟨kQ ?_, (zBr all r).2 hc⟩, rfl⟩
  rw [GF]
  exact (zK3 all r).2 hb
theorem zG0 (all : List Rec) : ((KL (all.foldl yZ ([], []))).map (·.lba)).Nodup := by
 have hn := O9 all
 unfold KL
 rw [List.map_map]
 have : ((all.foldl yZ ([], [])).1.filter (UR (all.foldl yZ ([], [])).2)).map ((·.lba) ∘ (·.2)) = ((all.foldl yZ ([], [])).1.filter (UR (all.foldl yZ ([], [])).2)).map (·.1) := by
  apply List.map_congr_left
  rintro ⟨x, q⟩ hm
  have h1 := qI hn (List.mem_filter.1 hm).1
  rw [GF] at h1
  have h2 := WE x all.reverse all rfl
  rw [h1] at h2
  exact h2.1
 rw [this]
 exact hn.sublist (List.Sublist.map _ List.filter_sublist)
theorem XY {rs : List Rec} (h : (rs.map (·.lba)).Nodup) : rs.Nodup := by
 unfold List.Nodup at *
 rw [List.pairwise_map] at h
 exact h.imp fun {a b} hab e => hab (by rw [e])
theorem TU {rs ss : List Rec} (hr : (rs.map (·.lba)).Nodup) (hs : (ss.map (·.lba)).Nodup) (h : ∀ r, r ∈ rs ↔ r ∈ ss) : rs.Perm ss :=
 (List.perm_ext_iff_of_nodup (XY hr) (XY hs)).2 h
structure MemOk (L : List Rec) (es : List (Int × Ent)) (last : Int) : Prop where
 rc : ∀ r ∈ L, RcOk r
 uq : ∀ r ∈ L, ∀ s ∈ L, r.kind = 1 → s.kind = 1 → r.lba = s.lba → r.ver = s.ver → r = s
 ver : ∀ r ∈ L, r.kind ≠ 6 → r.ver ≤ last
 has : ∀ l e, zS es l = some e → vS (l, e) ∈ L ∧ (∀ q ∈ L, q.kind = 1 → q.lba = l → q.ver ≤ e.2) ∧ (∀ q ∈ L, q.kind = 2 → q.lba = l → q.ver < e.2)
 non : ∀ r ∈ L, r.kind = 1 → zS es r.lba = none → ∃ q ∈ L, q.kind = 2 ∧ q.lba = r.lba ∧ r.ver ≤ q.ver
 done : ∀ r ∈ L, r.kind = 4 → ∃ x ∈ L, x.kind = 5 ∧ x.ver = r.ver
theorem MemOk.nil (last : Int) : MemOk [] [] last := ⟨by simp, by simp, by simp, (fun l e h => by cases h), by simp, by simp⟩
theorem MemOk.look {L : List Rec} {es es' : List (Int × Ent)} {last last' : Int} (h : MemOk L es last) (he : ∀ l, zS es' l = zS es l) (hl : ∀ r ∈ L, r.kind ≠ 6 → r.ver ≤ last') : MemOk L es' last' :=
 ⟨h.rc, h.uq, hl, fun l e hm => h.has l e (by rw [← he]; exact hm), fun r hr hk hm => h.non r hr hk (by rw [← he]; exact hm), h.done⟩
theorem MemOk.put {L : List Rec} {es : List (Int × Ent)} {last lba : Int} {d : Sec} (h : MemOk L es last) (hr : RcOk ⟨1, last + 1, lba, d⟩) : MemOk (L ++ [⟨1, last + 1, lba, d⟩]) (ins es lba (d, last + 1)) (last + 1) := by
 have hv : ∀ r ∈ L, r.kind = 1 → r.ver ≤ last := fun r hr hk => h.ver r hr (by omega)
 refine ⟨fun r hm => ?_, fun r hm s hm2 hk hk2 hl hve => ?_, fun r hm hk => ?_, fun l e hm => ?_, fun r hm hk hn => ?_, fun r hm hk => ?_⟩
 ·rcases List.mem_append.1 hm with hm | hm
  ·exact h.rc r hm
  ·rw [List.mem_singleton.1 hm]; exact hr
 ·rcases List.mem_append.1 hm with hm | hm <;> rcases List.mem_append.1 hm2 with hm2 | hm2
  ·exact h.uq r hm s hm2 hk hk2 hl hve
  ·have := hv r hm hk
   rw [List.mem_singleton.1 hm2] at hve
   have hve : r.ver = last + 1 := hve
   omega
  ·have := hv s hm2 hk2
   rw [List.mem_singleton.1 hm] at hve
   have hve : last + 1 = s.ver := hve
   omega
  ·rw [List.mem_singleton.1 hm, List.mem_singleton.1 hm2]
 ·rcases List.mem_append.1 hm with hm | hm
  ·have := h.ver r hm hk; omega
  ·rw [List.mem_singleton.1 hm]; exact Int.le_refl _
 ·rw [xT] at hm
  by_cases he : l = lba
  ·rw [if_pos he] at hm
   cases hm
   subst he
   refine ⟨List.mem_append.2 (Or.inr (List.mem_singleton.2 rfl)), fun q hq hk hl => ?_, fun q hq hk hl => ?_⟩
   ·rcases List.mem_append.1 hq with hq | hq
    ·have := hv q hq hk
     show q.ver ≤ last + 1
     omega
    ·rw [List.mem_singleton.1 hq]; exact Int.le_refl _
   ·rcases List.mem_append.1 hq with hq | hq
    ·have := h.ver q hq (by omega)
     show q.ver < last + 1
     omega
    ·rw [List.mem_singleton.1 hq] at hk
     exact absurd (show (1 : Int) = 2 from hk) (by decide)
  ·rw [if_neg he] at hm
   obtain ⟨h1, h2, h3⟩ := h.has l e hm
   refine ⟨List.mem_append.2 (Or.inl h1), fun q hq hk hl => ?_, fun q hq hk hl => ?_⟩
   ·rcases List.mem_append.1 hq with hq | hq
    ·exact h2 q hq hk hl
    ·rw [List.mem_singleton.1 hq] at hl
     exact absurd (show lba = l from hl).symm he
   ·rcases List.mem_append.1 hq with hq | hq
    ·exact h3 q hq hk hl
    ·rw [List.mem_singleton.1 hq] at hl
     exact absurd (show lba = l from hl).symm he
 ·rw [xT] at hn
  split at hn
  ·cases hn
  ·rename_i hne
   rcases List.mem_append.1 hm with hm | hm
   ·obtain ⟨q, q1, q2⟩ := h.non r hm hk hn
    exact ⟨q, List.mem_append.2 (Or.inl q1), q2⟩
   ·rw [List.mem_singleton.1 hm] at hne
    exact absurd rfl hne
 ·rcases List.mem_append.1 hm with hm | hm
  ·obtain ⟨q, q1, q2⟩ := h.done r hm hk
   exact ⟨q, List.mem_append.2 (Or.inl q1), q2⟩
  ·rw [List.mem_singleton.1 hm] at hk
   exact absurd (show (1 : Int) = 4 from hk) (by decide)
theorem MemOk.more {L X : List Rec} {es : List (Int × Ent)} {last last' : Int} (h : MemOk L es last) (hl : last ≤ last') (hX : ∀ r ∈ X, RcOk r ∧ 3 ≤ r.kind ∧ (r.kind ≠ 6 → r.ver ≤ last')) (hd : ∀ r ∈ X, r.kind = 4 → ∃ x ∈ L ++ X, x.kind = 5 ∧ x.ver = r.ver) : MemOk (L ++ X) es last' := by
 have inL : ∀ r ∈ L ++ X, r.kind = 1 ∨ r.kind = 2 → r ∈ L := fun r hm hk => by
  rcases List.mem_append.1 hm with hm | hm
  ·exact hm
  ·have := (hX r hm).2.1; omega
 refine ⟨fun r hm => ?_, fun r hm s hm2 hk hk2 hl hve => h.uq r (inL r hm (Or.inl hk)) s (inL s hm2 (Or.inl hk2)) hk hk2 hl hve, fun r hm hk => ?_, fun l e hm => ?_, fun r hm hk hn => ?_, fun r hm hk => ?_⟩
 ·rcases List.mem_append.1 hm with hm | hm
  ·exact h.rc r hm
  ·exact (hX r hm).1
 ·rcases List.mem_append.1 hm with hm | hm
  ·have := h.ver r hm hk; omega
  ·exact (hX r hm).2.2 hk
 ·obtain ⟨h1, h2, h3⟩ := h.has l e hm
  exact ⟨List.mem_append.2 (Or.inl h1), fun q hq hk hl => h2 q (inL q hq (Or.inl hk)) hk hl, fun q hq hk hl => h3 q (inL q hq (Or.inr hk)) hk hl⟩
 ·obtain ⟨q, q1, q2⟩ := h.non r (inL r hm (Or.inl hk)) hk hn
  exact ⟨q, List.mem_append.2 (Or.inl q1), q2⟩
 ·rcases List.mem_append.1 hm with hm | hm
  ·obtain ⟨q, q1, q2⟩ := h.done r hm hk
   exact ⟨q, List.mem_append.2 (Or.inl q1), q2⟩
  ·exact hd r hm hk
theorem ZG {v : Int} {P : List PutS} : ∀ r ∈ YT v P, 3 ≤ r.kind ∧ r.kind ≤ 5 ∧ r.ver = v := fun r hr => by
 unfold YT zEw at hr
 rcases List.mem_append.1 hr with hr | hr
 ·rcases List.mem_append.1 hr with hr | hr
  ·obtain ⟨x, _, rfl⟩ := List.mem_map.1 hr
   exact ⟨by show (3 : Int) ≤ 3; decide, by show (3 : Int) ≤ 5; decide, rfl⟩
  ·rw [List.mem_singleton.1 hr]
   exact ⟨by show (3 : Int) ≤ 4; decide, by show (4 : Int) ≤ 5; decide, rfl⟩
 ·rw [List.mem_singleton.1 hr]
  exact ⟨by show (3 : Int) ≤ 5; decide, by show (5 : Int) ≤ 5; decide, rfl⟩
theorem MemOk.write {L : List Rec} {es : List (Int × Ent)} {last : Int} (h : MemOk L es last) {P : List PutS} (hr : ∀ r ∈ YT (last + 1) P, RcOk r) : MemOk (L ++ YT (last + 1) P) es (last + 1) := by
 refine h.more (by omega) (fun r hm => ⟨hr r hm, (ZG r hm).1, fun _ => by rw [(ZG r hm).2.2]; exact Int.le_refl _⟩) fun r hm hk => ?_
 refine ⟨recK 5 (last + 1), List.mem_append.2 (Or.inr ?_), rfl, (ZG r hm).2.2.symm⟩
 unfold YT
 exact List.mem_append.2 (Or.inr (List.mem_singleton.2 rfl))
theorem MemOk.clean {L : List Rec} {es : List (Int × Ent)} {last lba : Int} {e : Ent} (h : MemOk L es last) (hm : zS es lba = some e) (hr : RcOk ⟨2, e.2, lba, sec []⟩) : MemOk (L ++ [⟨2, e.2, lba, sec []⟩]) (del es lba) last := by
 obtain ⟨g1, g2, g3⟩ := h.has lba e hm
 have inL : ∀ r ∈ L ++ [(⟨2, e.2, lba, sec []⟩ : Rec)], r.kind ≠ 2 → r ∈ L := fun r hm hk => by
  rcases List.mem_append.1 hm with hm | hm
  ·exact hm
  ·rw [List.mem_singleton.1 hm] at hk
   exact absurd rfl hk
 refine ⟨fun r hm => ?_, fun r hm s hm2 hk hk2 hl hve => h.uq r (inL r hm (by omega)) s (inL s hm2 (by omega)) hk hk2 hl hve, fun r hm hk => ?_, fun l e' hm' => ?_, fun r hm hk hn => ?_, fun r hm hk => ?_⟩
 ·rcases List.mem_append.1 hm with hm | hm
  ·exact h.rc r hm
  ·rw [List.mem_singleton.1 hm]; exact hr
 ·rcases List.mem_append.1 hm with hm | hm
  ·exact h.ver r hm hk
  ·rw [List.mem_singleton.1 hm]
   exact (h.ver (vS (lba, e)) g1 (by show (1 : Int) ≠ 6; decide) : e.2 ≤ last)
 ·rw [QE] at hm'
  split at hm'
  ·cases hm'
  ·rename_i hne
   obtain ⟨h1, h2, h3⟩ := h.has l e' hm'
   refine ⟨List.mem_append.2 (Or.inl h1), fun q hq hk hl => h2 q (inL q hq (by omega)) hk hl, fun q hq hk hl => ?_⟩
   rcases List.mem_append.1 hq with hq | hq
   ·exact h3 q hq hk hl
   ·rw [List.mem_singleton.1 hq] at hl
    exact absurd (show lba = l from hl).symm hne
 ·have hrL := inL r hm (by omega)
  rw [QE] at hn
  by_cases he : r.lba = lba
  ·exact ⟨⟨2, e.2, lba, sec []⟩, List.mem_append.2 (Or.inr (List.mem_singleton.2 rfl)), rfl, he.symm, g2 r hrL hk he⟩
  ·rw [if_neg he] at hn
   obtain ⟨q, q1, q2⟩ := h.non r hrL hk hn
   exact ⟨q, List.mem_append.2 (Or.inl q1), q2⟩
 ·obtain ⟨q, q1, q2⟩ := h.done r (inL r hm (by omega)) hk
  exact ⟨q, List.mem_append.2 (Or.inl q1), q2⟩
theorem MemOk.short {es : List (Int × Ent)} {last ep : Int} {D : List Rec} (hD : IsD es D) (hn : (es.map (·.1)).Nodup) (hes : ∀ l e, zS es l = some e → RcOk (vS (l, e)) ∧ e.2 ≤ last) (he : RcOk ⟨6, ep, 0, sec []⟩) : MemOk (⟨6, ep, 0, sec []⟩ :: D) es last := by
 have dm : ∀ r, r ∈ D ↔ ∃ l e, zS es l = some e ∧ r = vS (l, e) := fun r => by
  rw [hD.1.mem_iff]
  constructor
  ·intro h
   obtain ⟨p, hp, rfl⟩ := List.mem_map.1 h
   exact ⟨p.1, p.2, qI hn hp, rfl⟩
  ·rintro ⟨l, e, h, rfl⟩
   exact List.mem_map.2 ⟨(l, e), kQ h, rfl⟩
 have inD : ∀ r ∈ (⟨6, ep, 0, sec []⟩ : Rec) :: D, r.kind ≠ 6 → r ∈ D := fun r hm hk => by
  rcases List.mem_cons.1 hm with rfl | hm
  ·exact absurd rfl hk
  ·exact hm
 have k1 : ∀ r ∈ D, r.kind = 1 := fun r hr => by
  obtain ⟨l, e, _, rfl⟩ := (dm r).1 hr
  rfl
 refine ⟨fun r hm => ?_, fun r hm s hm2 hk hk2 hl hve => ?_, fun r hm hk => ?_, fun l e hm => ⟨List.mem_cons_of_mem _ ((dm _).2 ⟨l, e, hm, rfl⟩), fun q hq hk hl => ?_, fun q hq hk hl => ?_⟩, fun r hm hk hn' => ?_, fun r hm hk => ?_⟩
 ·rcases List.mem_cons.1 hm with rfl | hm
  ·exact he
  ·obtain ⟨l, e, h, rfl⟩ := (dm r).1 hm
   exact (hes l e h).1
 ·obtain ⟨l, e, h, rfl⟩ := (dm r).1 (inD r hm (by omega))
  obtain ⟨l', e', h', rfl⟩ := (dm s).1 (inD s hm2 (by omega))
  have hl : l = l' := hl
  subst hl
  rw [h] at h'
  cases h'
  rfl
 ·obtain ⟨l, e, h, rfl⟩ := (dm r).1 (inD r hm hk)
  exact (hes l e h).2
 ·obtain ⟨l', e', h', rfl⟩ := (dm q).1 (inD q hq (by omega))
  have hl : l' = l := hl
  subst hl
  rw [hm] at h'
  cases h'
  exact Int.le_refl _
 ·have := k1 q (inD q hq (by omega))
  omega
 ·obtain ⟨l, e, h, rfl⟩ := (dm r).1 (inD r hm (by omega))
  have hn' : zS es l = none := hn'
  rw [h] at hn'
  cases hn'
 ·have := k1 r (inD r hm (by omega))
  omega
theorem zMt {LL : List (List Rec)} {es : List (Int × Ent)} {last : Int} (h : ∀ L ∈ LL, MemOk L es last) (hne : LL ≠ []) (r : Rec) : r ∈ KL (LL.flatten.foldl yZ ([], [])) ↔ ∃ l e, zS es l = some e ∧ r = vS (l, e) := by
 rw [zJ4]
 constructor
 ·rintro ⟨⟨i, hi, hk, hb⟩, hc⟩
  have hm := List.mem_of_getElem? hi
  obtain ⟨L, hL, hr⟩ := List.mem_flatten.1 hm
  have hM := h L hL
  cases hl : zS es r.lba with
  | none =>
   obtain ⟨q, q1, q2, q3, q4⟩ := hM.non r hr hk hl
   exact absurd ⟨q, List.mem_flatten.2 ⟨L, hL, q1⟩, q2, q3, q4⟩ hc
  | some e =>
   obtain ⟨g1, g2, g3⟩ := hM.has r.lba e hl
   refine ⟨r.lba, e, hl, ?_⟩
   obtain ⟨j, hj⟩ := List.getElem?_of_mem (List.mem_flatten.2 ⟨L, hL, g1⟩)
   have h1 : e.2 ≤ r.ver := (hb j _ hj rfl rfl).1
   have h2 := g2 r hr hk rfl
   exact hM.uq r hr _ g1 hk rfl rfl (by show r.ver = e.2; omega)
 ·rintro ⟨l, e, hl, rfl⟩
  obtain ⟨L, hL⟩ := List.exists_mem_of_ne_nil LL hne
  have hm : vS (l, e) ∈ LL.flatten := List.mem_flatten.2 ⟨L, hL, ((h L hL).has l e hl).1⟩
  have hle : ∀ q ∈ LL.flatten, q.kind = 1 → q.lba = l → q.ver ≤ e.2 := fun q hq hk hql => by
   obtain ⟨L', hL', hq'⟩ := List.mem_flatten.1 hq
   exact ((h L' hL').has l e hl).2.1 q hq' hk hql
  refine ⟨?_, ?_⟩
  ·have hs := WE l LL.flatten.reverse LL.flatten rfl
   cases ho : gS LL.flatten l with
   | none =>
    rw [ho] at hs
    exact absurd ⟨rfl, rfl⟩ (hs _ hm)
   | some r' =>
    rw [ho] at hs
    obtain ⟨hl', hB⟩ := hs
    obtain ⟨i, hi, hk', hb'⟩ := hB
    have hm' := List.mem_of_getElem? hi
    obtain ⟨L', hL', hr'⟩ := List.mem_flatten.1 hm'
    obtain ⟨j, hj⟩ := List.getElem?_of_mem hm
    have h1 : e.2 ≤ r'.ver := (hb' j _ hj rfl hl'.symm).1
    have h2 := hle r' hm' hk' hl'
    have : r' = vS (l, e) := (h L' hL').uq r' hr' _ ((h L' hL').has l e hl).1 hk' rfl hl' (by show r'.ver = e.2; omega)
    rw [← this]
    exact ⟨i, hi, hk', hb'⟩
  ·rintro ⟨q, hq, hk, hql, hv⟩
   obtain ⟨L', hL', hq'⟩ := List.mem_flatten.1 hq
   have := ((h L' hL').has l e hl).2.2 q hq' hk hql
   have hv : e.2 ≤ q.ver := hv
   omega
theorem zJ5 {LL : List (List Rec)} {es : List (Int × Ent)} {last : Int} (h : ∀ L ∈ LL, MemOk L es last) (hne : LL ≠ []) (hn : (es.map (·.1)).Nodup) {rs : List Rec} (hp : rs.Perm (KL (LL.flatten.foldl yZ ([], [])))) (hv : zAt rs) : IsD es rs := by
 refine ⟨hp.trans (TU (zG0 _) ?_ fun r => ?_), hv⟩
 ·rw [List.map_map]
  exact hn
 ·rw [zMt h hne]
  constructor
  ·rintro ⟨l, e, hl, rfl⟩
   exact List.mem_map.2 ⟨(l, e), kQ hl, rfl⟩
  ·intro hm
   obtain ⟨p, hp, rfl⟩ := List.mem_map.1 hm
   exact ⟨p.1, p.2, qI hn hp, rfl⟩
theorem GK {D : List Rec} : ∀ (LL : List (List Rec)) (G : List (Int × List PutS)), (∀ L ∈ LL, ∀ x ∈ L, x.kind = 4 → YY D x.ver = true) → GL D LL G = G
 | [], _, _ => rfl
 | L :: LL, G, h => by
  show GL D LL (X6 D [] L G) = G
  rw [ML L [] fun x hx hk => Or.inl (h L (by simp) x hx hk)]
  exact GK LL G fun L' hL' => h L' (by simp [hL'])
theorem zFa {LL : List (List Rec)} (h : ∀ L ∈ LL, ∀ r ∈ L, r.kind = 4 → ∃ x ∈ L, x.kind = 5 ∧ x.ver = r.ver) : u7 LL = [] := by
 unfold u7
 refine GK LL [] fun L hL x hx hk => ?_
 obtain ⟨y, y1, y2, y3⟩ := h L hL x hx hk
 exact zGr.2 ⟨y, List.mem_flatten.2 ⟨L, hL, y1⟩, y2, y3⟩
theorem top_spec : ∀ (all : List Rec) (t : Int), t ≤ all.foldl topStep t ∧ (∀ r ∈ all, 1 ≤ r.kind → r.kind ≤ 5 → r.ver ≤ all.foldl topStep t) ∧ ∀ b, t ≤ b → (∀ r ∈ all, 1 ≤ r.kind → r.kind ≤ 5 → r.ver ≤ b) → all.foldl topStep t ≤ b
 | [], t => ⟨Int.le_refl _, by simp, fun b h _ => h⟩
 | r :: all, t => by
  obtain ⟨h1, h2, h3⟩ := top_spec all (topStep t r)
  have e1 : t ≤ topStep t r := by unfold topStep; split <;> omega
  have e2 : 1 ≤ r.kind → r.kind ≤ 5 → r.ver ≤ topStep t r := fun a b => by unfold topStep; rw [if_pos ⟨a, b⟩]; omega
  rw [List.foldl_cons]
  refine ⟨Int.le_trans e1 h1, fun x hx a b => ?_, fun b hb hall => h3 b ?_ fun x hx => hall x (by simp [hx])⟩
  ·rcases List.mem_cons.1 hx with rfl | hx
   ·exact Int.le_trans (e2 a b) h1
   ·exact h2 x hx a b
  ·unfold topStep
   split
   ·rename_i hk
    have := hall r (by simp) hk.1 hk.2
    omega
   ·exact hb
theorem zEy {r : Rec} (h : RcOk r) : 1 ≤ r.kind ∧ r.kind ≤ 6 ∧ 0 ≤ r.lba ∧ r.lba ≤ 2147483647 := by
 have := h.1
 unfold yH at this
 simp only [Bool.and_eq_true, decide_eq_true_eq] at this
 omega
theorem MemOk.top {LL : List (List Rec)} {es : List (Int × Ent)} {last : Int} (h : ∀ L ∈ LL, MemOk L es last) (h0 : 0 ≤ last) : (0 ≤ LL.flatten.foldl topStep 0 ∧ LL.flatten.foldl topStep 0 ≤ last) ∧ ∀ L ∈ LL, MemOk L es (LL.flatten.foldl topStep 0) := by
 obtain ⟨h1, h2, h3⟩ := top_spec LL.flatten 0
 refine ⟨⟨h1, h3 last h0 fun r hr a b => ?_⟩, fun L hL => (h L hL).look (fun _ => rfl) fun r hr hk => ?_⟩
 ·obtain ⟨L, hL, hr'⟩ := List.mem_flatten.1 hr
  exact (h L hL).ver r hr' (by omega)
 ·have := zEy ((h L hL).rc r hr)
  exact h2 r (List.mem_flatten.2 ⟨L, hL, hr⟩) this.1 (by omega)
theorem uM {sz : Int} {x : Rec} : ∀ (fs : List Bool) (s : MS), fs.Nodup → Lit0 s.pw → 0 ≤ s.pw.steps → s.pw.steps + (fs.length : Int) < 1000000000000000 → 37 * (fs.length : Int) ≤ sz - (s.xa.length : Int) → 37 * (fs.length : Int) ≤ sz - (s.xb.length : Int) →
  (yF sz x fs s).2.xa = s.xa ++ (if false ∈ fs then zY x else []) ∧ (yF sz x fs s).2.xb = s.xb ++ (if true ∈ fs then zY x else [])
 | [], s, _, _, _, _, _, _ => ⟨by simp [yF], by simp [yF]⟩
 | f :: fs, s, hn, h, h0, h1, ha, hb => by
  simp only [List.length_cons] at h1 ha hb
  rw [List.nodup_cons] at hn
  have hs := ZF h h0 (by omega)
  have hp : (zY x).length = 37 := rfl
  cases f
  ·have e := QM (sz := sz) (x := x) (bs := s.xa) h (by omega)
   have e2 : yF sz x (false :: fs) s = yF sz x fs ⟨(yW s.pw).2, s.xa ++ zY x, s.xb⟩ := by
    show (if _ then _ else _) = _
    simp only [appM, e]
    rw [if_neg (by simp)]
   rw [e2]
   obtain ⟨i1, i2⟩ := uM (sz := sz) (x := x) fs ⟨(yW s.pw).2, s.xa ++ zY x, s.xb⟩ hn.2 (vF h).2 (by show 0 ≤ (yW s.pw).2.steps; omega) (by show (yW s.pw).2.steps + _ < _; omega) (by show _ ≤ sz - ((s.xa ++ zY x).length : Int); rw [List.length_append]; omega) (by show _ ≤ sz - (s.xb.length : Int); omega)
   rw [if_neg hn.1] at i1
   refine ⟨?_, ?_⟩
   ·rw [i1, if_pos (by simp)]; simp
   ·rw [i2]
    simp
  ·have e := QM (sz := sz) (x := x) (bs := s.xb) h (by omega)
   have e2 : yF sz x (true :: fs) s = yF sz x fs ⟨(yW s.pw).2, s.xa, s.xb ++ zY x⟩ := by
    show (if _ then _ else _) = _
    simp only [appM, e]
    rw [if_neg (by simp)]
   rw [e2]
   obtain ⟨i1, i2⟩ := uM (sz := sz) (x := x) fs ⟨(yW s.pw).2, s.xa, s.xb ++ zY x⟩ hn.2 (vF h).2 (by show 0 ≤ (yW s.pw).2.steps; omega) (by show (yW s.pw).2.steps + _ < _; omega) (by show _ ≤ sz - (s.xa.length : Int); omega) (by show _ ≤ sz - ((s.xb ++ zY x).length : Int); rw [List.length_append]; omega)
   rw [if_neg hn.1] at i2
   refine ⟨?_, ?_⟩
   ·rw [i1]
    simp
   ·rw [i2, if_pos (by simp)]; simp
theorem MV {sz : Int} {fs : List Bool} (hfs : fs.length ≤ 2) (hn : fs.Nodup) : ∀ (rs : List Rec) (s : MS), Lit0 s.pw → 0 ≤ s.pw.steps → s.pw.steps + 2 * (rs.length : Int) < 100000000000000 → 74 * (rs.length : Int) ≤ sz - (s.xa.length : Int) → 74 * (rs.length : Int) ≤ sz - (s.xb.length : Int) →
  (kL sz fs rs s).2.xa = s.xa ++ (if false ∈ fs then rs.flatMap zY else []) ∧ (kL sz fs rs s).2.xb = s.xb ++ (if true ∈ fs then rs.flatMap zY else [])
 | [], s, _, _, _, _, _ => ⟨by simp [kL], by simp [kL]⟩
 | r :: rs, s, h, h0, h1, ha, hb => by
  simp only [List.length_cons] at h1 ha hb
  obtain ⟨j1, j2, j3, j4, j5⟩ := vV (sz := sz) (x := r) fs s h h0 (by omega) (by omega) (by omega)
  obtain ⟨k1, k2⟩ := uM (sz := sz) (x := r) fs s hn h h0 (by omega) (by omega) (by omega)
  have e : kL sz fs (r :: rs) s = kL sz fs rs (yF sz r fs s).2 := by
   show (if _ then _ else _) = _
   rw [if_neg (by simp [j1])]
  rw [e]
  generalize (yF sz r fs s).2 = t at *
  obtain ⟨i1, i2⟩ := MV (sz := sz) hfs hn rs t j2 (by omega) (by omega) (by omega) (by omega)
  rw [i1, i2, k1, k2]
  refine ⟨?_, ?_⟩
  ·by_cases hm : false ∈ fs
   ·rw [if_pos hm, if_pos hm, if_pos hm]; simp
   ·rw [if_neg hm, if_neg hm, if_neg hm]; simp
  ·by_cases hm : true ∈ fs
   ·rw [if_pos hm, if_pos hm, if_pos hm]; simp
   ·rw [if_neg hm, if_neg hm, if_neg hm]; simp
theorem zHw {g : Geo} {s : SS} {now : Int → Sec} {ep : Int} (h : GoodE g s now ep) (hst1 : s.pw.steps < 100000000000) {lba : Int} (h0 : 0 ≤ lba) (h1 : lba < (g.d - 2) * g.c * g.s) (hl2 : xA (yU g s (yT g lba).1 (yT g lba).2.2) ≤ 2)
  {data : Sec} (hd : yD data) {v : Int} {fs : List Bool} (hfs : fs.length ≤ 2) (hnd : fs.Nodup) {sz : Int} {xa xb : List Int} (ha : 400 ≤ sz - (xa.length : Int)) (hb : 400 ≤ sz - (xb.length : Int)) :
  (∀ x ∈ (yR g s lba data).1, InR x ∧ yD x.cel.data) ∧ (uT sz g fs v lba data ep s xa xb).2.2.1 = xa ++ (if false ∈ fs then (YT v (yR g s lba data).1).flatMap zY else []) ∧ (uT sz g fs v lba data ep s xa xb).2.2.2 = xb ++ (if true ∈ fs then (YT v (yR g s lba data).1).flatMap zY else []) := by
 have hs := h.ss
 have hi := h.inv
 have hn := h.nok
 have hl := h.lit
 have hst0 := h.st0
 obtain ⟨pst, pco, pof⟩ := vR hs.geo h0 h1
 obtain ⟨hp2, hps⟩ := ZH hs hi hn hl.1 h0 h1 hd hl2
 have hp3 : (yR g s lba data).1.length ≤ 3 := gF
 have hin : ∀ x ∈ (yR g s lba data).1, InR x := fun x hx => zB8 hs.geo (hps x hx).1
 refine ⟨fun x hx => ⟨hin x hx, (hps x hx).1.2.1⟩, ?_⟩
 generalize hW : uT sz g fs v lba data ep s xa xb = W
 unfold uT at hW
 rw [if_neg (by simp [hp2])] at hW
 simp only at hW
 have hnb : (yR g s lba data).1.any vX = false := by
  rw [List.any_eq_false]
  intro x hx
  rw [LH (hin x hx)]; decide
 have hbg : YD sz v (yR g s lba data).1 fs ⟨s.pw, xa, xb⟩ = kL sz fs ((yR g s lba data).1.map (recI v) ++ [recK 4 v]) ⟨s.pw, xa, xb⟩ := by
  unfold YD
  rw [if_neg (by rw [hnb]; decide)]
 rw [hbg] at hW
 obtain ⟨L, hL, hL4⟩ : ∃ L : Int, (((yR g s lba data).1.map (recI v) ++ [recK 4 v]).length : Int) = L ∧ (0 ≤ L ∧ L ≤ 4) := ⟨_, rfl, by simp; omega⟩
 have hprod : 0 ≤ L * (fs.length : Int) ∧ L * (fs.length : Int) ≤ 4 * (fs.length : Int) := ⟨Int.mul_nonneg hL4.1 (by omega), Int.mul_le_mul_of_nonneg_right hL4.2 (by omega)⟩
 obtain ⟨a1, a2, a3, a4, a5⟩ := GQ (sz := sz) hfs ((yR g s lba data).1.map (recI v) ++ [recK 4 v]) ⟨s.pw, xa, xb⟩ hl hst0 (by rw [hL]; show s.pw.steps + _ < _; omega) (by rw [hL]; show _ ≤ sz - (xa.length : Int); omega) (by rw [hL]; show _ ≤ sz - (xb.length : Int); omega)
 obtain ⟨b1, b2⟩ := MV (sz := sz) hfs hnd ((yR g s lba data).1.map (recI v) ++ [recK 4 v]) ⟨s.pw, xa, xb⟩ hl hst0 (by rw [hL]; show s.pw.steps + _ < _; omega) (by rw [hL]; show _ ≤ sz - (xa.length : Int); omega) (by rw [hL]; show _ ≤ sz - (xb.length : Int); omega)
 rw [hL] at a3 a4 a5
 generalize kL sz fs ((yR g s lba data).1.map (recI v) ++ [recK 4 v]) ⟨s.pw, xa, xb⟩ = B at *
 rw [if_neg (by simp [a1])] at hW
 have hs1 : SsOk g ⟨s.ds, B.2.pw⟩ := ⟨hs.geo, hs.num, hs.len, hs.ok⟩
 have hi1 : Inv g ⟨s.ds, B.2.pw⟩ now := hi.see hs.geo (fun _ _ _ _ => rfl)
 have hpp : yR g s lba data = yR g ⟨s.ds, B.2.pw⟩ lba data := zBj hl.1 a2.1 lba data
 have a3 : B.2.pw.steps = s.pw.steps + L * (fs.length : Int) := a3
 have a4 : (B.2.xa.length : Int) ≤ (xa.length : Int) + 37 * (L * (fs.length : Int)) := a4
 have a5 : (B.2.xb.length : Int) ≤ (xb.length : Int) + 37 * (L * (fs.length : Int)) := a5
 obtain ⟨_, hps1⟩ := ZH hs1 hi1 hn a2.1 h0 h1 hd hl2
 have hp31 : (yR g ⟨s.ds, B.2.pw⟩ lba data).1.length ≤ 3 := gF
 obtain ⟨s', happ, _, c3, c2, _, _, _⟩ := LO (ep := ep) hs1 a2 (by show 0 ≤ B.2.pw.steps; omega) (by show B.2.pw.steps + _ < _; omega) (fun x hx => (hps1 x hx).1) h.key
 rw [hpp, happ] at hW
 rw [if_neg (by simp)] at hW
 have c2 : s'.pw.steps = B.2.pw.steps + ((yR g ⟨s.ds, B.2.pw⟩ lba data).1.length : Int) := c2
 obtain ⟨e1, e2⟩ := uM (sz := sz) (x := recK 5 v) fs ⟨s'.pw, B.2.xa, B.2.xb⟩ hnd c3 (by show 0 ≤ s'.pw.steps; omega) (by show s'.pw.steps + _ < _; omega) (by show _ ≤ sz - (B.2.xa.length : Int); omega) (by show _ ≤ sz - (B.2.xb.length : Int); omega)
 generalize yF sz (recK 5 v) fs ⟨s'.pw, B.2.xa, B.2.xb⟩ = E at *
 subst hW
 have e1 : E.2.xa = B.2.xa ++ (if false ∈ fs then zY (recK 5 v) else []) := e1
 have e2 : E.2.xb = B.2.xb ++ (if true ∈ fs then zY (recK 5 v) else []) := e2
 have b1 : B.2.xa = xa ++ (if false ∈ fs then _ else []) := b1
 have b2 : B.2.xb = xb ++ (if true ∈ fs then _ else []) := b2
 have hrw : (YT v (yR g s lba data).1).flatMap zY = ((yR g s lba data).1.map (recI v) ++ [recK 4 v]).flatMap zY ++ zY (recK 5 v) := by
  unfold YT zEw
  simp
 refine ⟨?_, ?_⟩
 ·show E.2.xa = _
  rw [e1, b1, hrw]
  by_cases hm : false ∈ fs
  ·rw [if_pos hm, if_pos hm, if_pos hm, List.append_assoc]
  ·rw [if_neg hm, if_neg hm, if_neg hm]; simp
 ·show E.2.xb = _
  rw [e2, b2, hrw]
  by_cases hm : true ∈ fs
  ·rw [if_pos hm, if_pos hm, if_pos hm, List.append_assoc]
  ·rw [if_neg hm, if_neg hm, if_neg hm]; simp
def EpOk (ep : Int) (A : List Rec) : Prop := (ep = 0 ∨ ∃ r ∈ A, r.kind = 6 ∧ r.ver = ep) ∧ ∀ r ∈ A, r.kind = 6 → r.ver ≤ ep
def JnM (up : Bool) (xs : List Int) (es : List (Int × Ent)) (last ep : Int) : Prop := up = true → ∃ A, gT xs A ∧ MemOk A es last ∧ EpOk ep A
theorem gT.more {bs : List Int} {L : List Rec} (h : gT bs L) {X : List Rec} (hX : ∀ r ∈ X, RcOk r) : gT (bs ++ X.flatMap zY) (L ++ X) := by
 obtain ⟨h1, rfl⟩ := h
 refine ⟨fun r hr => ?_, by simp⟩
 rcases List.mem_append.1 hr with hr | hr
 ·exact h1 r hr
 ·exact hX r hr
theorem zBd {v lba : Int} {d : Sec} (hd : yD d) (hv : 0 ≤ v ∧ v ≤ 18446744073709551615) (hl : 0 ≤ lba ∧ lba ≤ 2147483647) : RcOk ⟨1, v, lba, d⟩ := by
 refine ⟨?_, hv, hd⟩
 unfold yH
 simp only [Bool.and_eq_true, decide_eq_true_eq]
 omega
theorem zIk {v lba : Int} (hv : 0 ≤ v ∧ v ≤ 18446744073709551615) (hl : 0 ≤ lba ∧ lba ≤ 2147483647) : RcOk ⟨2, v, lba, sec []⟩ := by
 refine ⟨?_, hv, kO⟩
 unfold yH
 simp only [Bool.and_eq_true, decide_eq_true_eq]
 omega
theorem zIj {v : Int} (hv : 0 ≤ v ∧ v ≤ 18446744073709551615) : RcOk ⟨6, v, 0, sec []⟩ := ⟨rfl, hv, kO⟩
theorem MR {A X : List Rec} {ep : Int} (h : EpOk ep A) (hX : ∀ r ∈ X, r.kind ≠ 6) : EpOk ep (A ++ X) := by
 refine ⟨?_, fun r hr hk => ?_⟩
 ·rcases h.1 with h | ⟨r, h1, h2⟩
  ·exact Or.inl h
  ·exact Or.inr ⟨r, List.mem_append.2 (Or.inl h1), h2⟩
 ·rcases List.mem_append.1 hr with hr | hr
  ·exact h.2 r hr hk
  ·exact absurd hk (hX r hr)
theorem JnM.put {up : Bool} {xs : List Int} {es : List (Int × Ent)} {last ep lba : Int} {d : Sec} (h : JnM up xs es last ep) (hr : RcOk ⟨1, last + 1, lba, d⟩) : JnM up (xs ++ (if up = true then zY ⟨1, last + 1, lba, d⟩ else [])) (ins es lba (d, last + 1)) (last + 1) ep := by
 intro hu
 obtain ⟨A, a1, a2, a3⟩ := h hu
 rw [if_pos hu]
 exact ⟨A ++ [⟨1, last + 1, lba, d⟩], a1.app hr, a2.put hr, MR a3 fun r hr => by rw [List.mem_singleton.1 hr]; show (1 : Int) ≠ 6; decide⟩
theorem JnM.out {up : Bool} {xs : List Int} {es : List (Int × Ent)} {last ep lba : Int} {e : Ent} {P : List PutS} (h : JnM up xs es last ep) (hm : zS es lba = some e) (hP : ∀ r ∈ YT (last + 1) P, RcOk r) (hc : RcOk ⟨2, e.2, lba, sec []⟩) :
  JnM up (xs ++ (if up = true then (YT (last + 1) P ++ [(⟨2, e.2, lba, sec []⟩ : Rec)]).flatMap zY else [])) (del es lba) (last + 1) ep := by
 intro hu
 obtain ⟨A, a1, a2, a3⟩ := h hu
 rw [if_pos hu]
 refine ⟨A ++ (YT (last + 1) P ++ [⟨2, e.2, lba, sec []⟩]), a1.more fun r hr => ?_, ?_, MR a3 fun r hr => ?_⟩
 ·rcases List.mem_append.1 hr with hr | hr
  ·exact hP r hr
  ·rw [List.mem_singleton.1 hr]; exact hc
 ·rw [← List.append_assoc]
  exact (a2.write hP).clean hm hc
 ·rcases List.mem_append.1 hr with hr | hr
  ·have := ZG r hr; omega
  ·rw [List.mem_singleton.1 hr]; show (2 : Int) ≠ 6; decide
theorem TZ (s : PS) (f : Bool) : (false ∈ upS s f ↔ s.ua = true) ∧ (true ∈ upS s f ↔ s.ub = true) ∧ (upS s f).Nodup := by
 unfold upS
 cases f <;> cases s.ua <;> cases s.ub <;> simp
structure Jn (s : AS) (ep : Int) : Prop where
 a : JnM s.ps.ua s.ps.xa s.ps.es s.ps.last ep
 b : JnM s.ps.ub s.ps.xb s.ps.es s.ps.last ep
structure Downs (s s' : AS) : Prop where
 a : s.ps.ua = false → s'.ps.xa = s.ps.xa
 b : s.ps.ub = false → s'.ps.xb = s.ps.xb
theorem Downs.refl (s : AS) : Downs s s := ⟨fun _ => rfl, fun _ => rfl⟩
theorem putJ {q : AB} {s : AS} {fin : Int → Sec} {ep x y : Int} (h : Qv q s fin ep x y) (hJ : Jn s ep) {f : Bool} {lba : Int} {d : Sec} (hd : yD d) (h0 : 0 ≤ lba) (h1 : lba < yV q.g) (hup : (cond f s.ps.ub s.ps.ua) = true)
  (hroom : zS s.ps.es lba = none → (s.ps.es.length : Int) < q.pb.room) (hst : s.ps.pw.steps < 10000000000000) (hla : s.ps.last < 1000000000000) (ha : 100 ≤ q.pb.sz - (s.ps.xa.length : Int)) (hb : 100 ≤ q.pb.sz - (s.ps.xb.length : Int)) (hcap : yV q.g ≤ 100000) :
  Jn { s with ps := (putP q.pb.room q.pb.sz s.ps f lba d).2 } ep ∧ Downs s { s with ps := (putP q.pb.room q.pb.sz s.ps f lba d).2 } := by
 obtain ⟨now, hg, hf⟩ := h.good
 have hs0 : 0 ≤ s.ps.pw.steps := hg.st0
 have hl0 := h.last
 have hlu := qD s.ps f
 obtain ⟨M, m, hput⟩ := zBf (room := q.pb.room) (sz := q.pb.sz) (d := d) hg.lit hs0 hst hl0 hla h0 (by omega) hup hroom (fun e he => (h.es lba e he).2.2.2) ha hb
 have hv : IntKind.wrap .u64 (s.ps.last + 1) = s.ps.last + 1 := vG (by omega) (by omega)
 obtain ⟨u1, u2, u3⟩ := TZ s.ps f
 obtain ⟨c1, c2⟩ := uM (sz := q.pb.sz) (x := ⟨1, s.ps.last + 1, lba, d⟩) (upS s.ps f) ⟨s.ps.pw, s.ps.xa, s.ps.xb⟩ u3 hg.lit hs0 (by show s.ps.pw.steps + _ < _; omega) (by show _ ≤ q.pb.sz - (s.ps.xa.length : Int); omega) (by show _ ≤ q.pb.sz - (s.ps.xb.length : Int); omega)
 have hpe : putE q.pb.room s.ps.es lba (s.ps.last + 1) = 0 := by
  unfold putE
  rw [if_neg (by omega)]
  cases hm : zS s.ps.es lba with
  | none => simp only; rw [if_neg (by have := hroom hm; omega)]
  | some e => simp only; rw [if_neg (by have := (h.es lba e hm).2.2.2; omega)]
 obtain ⟨m1, _⟩ := vV (sz := q.pb.sz) (x := ⟨1, s.ps.last + 1, lba, d⟩) (upS s.ps f) ⟨s.ps.pw, s.ps.xa, s.ps.xb⟩ hg.lit hs0 (by show s.ps.pw.steps + _ < _; omega) (by show _ ≤ q.pb.sz - (s.ps.xa.length : Int); omega) (by show _ ≤ q.pb.sz - (s.ps.xb.length : Int); omega)
 have hput : putP q.pb.room q.pb.sz s.ps f lba d = ((s.ps.last + 1, 0), { s.ps with last := s.ps.last + 1, pw := (yF q.pb.sz ⟨1, s.ps.last + 1, lba, d⟩ (upS s.ps f) ⟨s.ps.pw, s.ps.xa, s.ps.xb⟩).2.pw, xa := (yF q.pb.sz ⟨1, s.ps.last + 1, lba, d⟩ (upS s.ps f) ⟨s.ps.pw, s.ps.xa, s.ps.xb⟩).2.xa, xb := (yF q.pb.sz ⟨1, s.ps.last + 1, lba, d⟩ (upS s.ps f) ⟨s.ps.pw, s.ps.xa, s.ps.xb⟩).2.xb, es := ins s.ps.es lba (d, s.ps.last + 1) }) := by
  unfold putP
  rw [if_neg (by omega), if_neg (by rw [hup]; decide), if_neg (by rintro ⟨e1, e2⟩; have := hroom e1; omega)]
  simp only [hv]
  unfold gR
  rw [WB]
  have hu : upS { s.ps with last := s.ps.last + 1 } f = upS s.ps f := rfl
  rw [hu]
  simp only [m1, hpe]
  rfl
 rw [hput]
 simp only [u1, u2] at c1 c2
 have hr := zBd (v := s.ps.last + 1) (lba := lba) hd (by omega) (by omega)
 refine ⟨⟨?_, ?_⟩, ⟨fun hu => ?_, fun hu => ?_⟩⟩
 ·show JnM s.ps.ua (yF _ _ _ _).2.xa _ _ _
  rw [c1]
  exact hJ.a.put hr
 ·show JnM s.ps.ub (yF _ _ _ _).2.xb _ _ _
  rw [c2]
  exact hJ.b.put hr
 ·show (yF _ _ _ _).2.xa = _
  rw [c1, if_neg (by rw [hu]; decide)]; simp
 ·show (yF _ _ _ _).2.xb = _
  rw [c2, if_neg (by rw [hu]; decide)]; simp
theorem outJ {q : AB} {s : AS} {fin : Int → Sec} {ep x y : Int} {f : Bool} (h : Qv q s fin ep x y) (hJ : Jn s ep) (hep : epA s f = ep) {p : Int × Ent} (hp : p ∈ s.ps.es) (hst : s.ps.pw.steps < 10000000000) (hla : s.ps.last < 1000000000000) (ha : 500 ≤ q.pb.sz - (s.ps.xa.length : Int)) (hb : 500 ≤ q.pb.sz - (s.ps.xb.length : Int)) (hcap : yV q.g ≤ 100000) :
  Jn (outA q s f p).2 ep ∧ Downs s (outA q s f p).2 := by
 have hm := QD h.nd hp
 obtain ⟨⟨p0, p1⟩, p2, p3, p4⟩ := h.es p.1 p.2 hm
 have hl0 := h.last
 obtain ⟨now, hg, hf⟩ := h.good
 have hs0 : 0 ≤ s.ps.pw.steps := hg.st0
 have hv : IntKind.wrap .u64 (s.ps.last + 1) = s.ps.last + 1 := vG (by omega) (by omega)
 unfold outA
 rw [hv]
 have hd : yD p.2.1 := by rw [p2]; exact h.fok _
 obtain ⟨pst, _, pof⟩ := vR hg.ss.geo p0 p1
 have hlu := qD s.ps f
 obtain ⟨u1, u2, u3⟩ := TZ s.ps f
 obtain ⟨v1, v2, v3⟩ := TZ s.ps false
 have hW := zAx (s := s.ss) (v := s.ps.last + 1) (fs := upS s.ps f) (sz := q.pb.sz) (xa := s.ps.xa) (xb := s.ps.xb) hg (by show s.ps.pw.steps < _; omega) p0 p1 (h.lost pst pof) hd (qD _ _) (by omega) (by omega)
 obtain ⟨hP, d1, d2⟩ := zHw (s := s.ss) (v := s.ps.last + 1) (fs := upS s.ps f) (sz := q.pb.sz) (xa := s.ps.xa) (xb := s.ps.xb) hg (by show s.ps.pw.steps < _; omega) p0 p1 (h.lost pst pof) hd (qD _ _) u3 (by omega) (by omega)
 have hlu2 : (upS s.ps false).length = (upS s.ps f).length := by
  unfold upS
  cases f <;> cases s.ps.ua <;> cases s.ps.ub <;> rfl
 unfold outB
 have hu : upS { s.ps with last := s.ps.last + 1 } f = upS s.ps f := rfl
 have hss : (⟨s.ds, s.ps.pw⟩ : SS) = s.ss := rfl
 simp only [hu, hss, hep]
 generalize (yR q.g s.ss p.1 p.2.1).1 = P at *
 generalize uT q.pb.sz q.g (upS s.ps f) (s.ps.last + 1) p.1 p.2.1 ep s.ss s.ps.xa s.ps.xb = r at *
 have w1 := hW.steps
 have w1 : s.ps.pw.steps ≤ r.2.1.pw.steps ∧ r.2.1.pw.steps ≤ s.ps.pw.steps + (5 * ((upS s.ps f).length : Int) + 3) := w1
 have wa := hW.a
 have wb := hW.b
 rw [if_neg (by simp [hW.ok])]
 have hgv : getV s.ps.es p.1 = (p.2.1, p.2.2, 0) := by unfold getV; rw [hm]
 have hcl : jQ s.ps.es p.1 p.2.2 = 0 := by unfold jQ; rw [hm]; simp only; rw [if_neg (by omega)]
 have hu2 : upS { s.ps with last := s.ps.last + 1, pw := r.2.1.pw, xa := r.2.2.1, xb := r.2.2.2 } false = upS s.ps false := rfl
 obtain ⟨m1, m2, m3, m4, m5⟩ := vV (sz := q.pb.sz) (x := ⟨2, p.2.2, p.1, sec []⟩) (upS s.ps false) ⟨r.2.1.pw, r.2.2.1, r.2.2.2⟩ hW.good.lit (by show 0 ≤ r.2.1.pw.steps; omega) (by show r.2.1.pw.steps + _ < _; omega) (by show _ ≤ q.pb.sz - (r.2.2.1.length : Int); omega) (by show _ ≤ q.pb.sz - (r.2.2.2.length : Int); omega)
 obtain ⟨c1, c2⟩ := uM (sz := q.pb.sz) (x := ⟨2, p.2.2, p.1, sec []⟩) (upS s.ps false) ⟨r.2.1.pw, r.2.2.1, r.2.2.2⟩ v3 hW.good.lit (by show 0 ≤ r.2.1.pw.steps; omega) (by show r.2.1.pw.steps + _ < _; omega) (by show _ ≤ q.pb.sz - (r.2.2.1.length : Int); omega) (by show _ ≤ q.pb.sz - (r.2.2.2.length : Int); omega)
 have hfl : X7 q.pb.sz { s.ps with last := s.ps.last + 1, pw := r.2.1.pw, xa := r.2.2.1, xb := r.2.2.2 } p.1 p.2.2 = (0, { s.ps with last := s.ps.last + 1, es := del s.ps.es p.1, pw := (yF q.pb.sz ⟨2, p.2.2, p.1, sec []⟩ (upS s.ps false) ⟨r.2.1.pw, r.2.2.1, r.2.2.2⟩).2.pw, xa := (yF q.pb.sz ⟨2, p.2.2, p.1, sec []⟩ (upS s.ps false) ⟨r.2.1.pw, r.2.2.1, r.2.2.2⟩).2.xa, xb := (yF q.pb.sz ⟨2, p.2.2, p.1, sec []⟩ (upS s.ps false) ⟨r.2.1.pw, r.2.2.1, r.2.2.2⟩).2.xb }) := by
  unfold X7
  simp only [hgv]
  rw [if_neg (by decide), if_neg (by omega)]
  unfold gR
  rw [hu2, WB]
  simp only [m1, hcl]
  rfl
 rw [hfl]
 simp only [u1, u2] at d1 d2
 simp only [v1, v2] at c1 c2
 have hRW : ∀ r ∈ YT (s.ps.last + 1) P, RcOk r := zIf (by omega) hP
 have hc := zIk (v := p.2.2) (lba := p.1) (by omega) (by omega)
 refine ⟨⟨?_, ?_⟩, ⟨fun hu => ?_, fun hu => ?_⟩⟩
 ·show JnM s.ps.ua (yF _ _ _ _).2.xa _ _ _
  rw [c1, d1]
  have := hJ.a.out hm hRW hc
  by_cases hx : s.ps.ua = true
  ·rw [if_pos hx] at this ⊢
   rw [if_pos hx, List.append_assoc]
   rw [List.flatMap_append] at this
   simpa using this
  ·intro hy; exact absurd hy hx
 ·show JnM s.ps.ub (yF _ _ _ _).2.xb _ _ _
  rw [c2, d2]
  have := hJ.b.out hm hRW hc
  by_cases hx : s.ps.ub = true
  ·rw [if_pos hx] at this ⊢
   rw [if_pos hx, List.append_assoc]
   rw [List.flatMap_append] at this
   simpa using this
  ·intro hy; exact absurd hy hx
 ·show (yF _ _ _ _).2.xa = _
  rw [c1, d1, if_neg (by rw [hu]; decide), if_neg (by rw [hu]; decide)]; simp
 ·show (yF _ _ _ _).2.xb = _
  rw [c2, d2, if_neg (by rw [hu]; decide), if_neg (by rw [hu]; decide)]; simp
end Go.Proofs
namespace Go.Proofs
open Go Go.Ev Go.RowKit
set_option maxRecDepth 100000
theorem KG {pw : Pow} {sz : Int} {bs : List Int} {rs : List Rec} (h : Lit0 pw) (hs : 37 * (rs.length : Int) ≤ sz) : HL pw sz bs rs = (0, (yW pw).2, rs.flatMap zY) := by
 unfold HL
 rw [if_neg (by rw [h.1]; decide), if_neg (by omega), if_neg (by rw [(vF h).1]; decide)]
theorem GW {sz : Int} {rs : List Rec} (hsz : 37 * (rs.length : Int) ≤ sz) : ∀ (fs : List Bool) (s : PS), fs.Nodup → Lit0 s.pw → 0 ≤ s.pw.steps → s.pw.steps + (fs.length : Int) < 1000000000000000 →
  (kC sz rs fs s).1 = 0 ∧ Lit0 (kC sz rs fs s).2.pw ∧ (kC sz rs fs s).2.pw.steps = s.pw.steps + (fs.length : Int) ∧
   (kC sz rs fs s).2 = { s with pw := (kC sz rs fs s).2.pw, xa := if false ∈ fs then rs.flatMap zY else s.xa, xb := if true ∈ fs then rs.flatMap zY else s.xb }
 | [], s, _, h, _, _ => ⟨rfl, h, by simp [kC], by simp [kC]⟩
 | f :: fs, s, hn, h, h0, h1 => by
  simp only [List.length_cons] at h1
  rw [List.nodup_cons] at hn
  have hst := ZF h h0 (by omega)
  cases f
  ·have e := KG (bs := s.xa) h hsz
   have e1 : ZU sz rs false s = (0, { s with pw := (yW s.pw).2, xa := rs.flatMap zY }) := by unfold ZU; rw [e]
   have e2 : kC sz rs (false :: fs) s = kC sz rs fs { s with pw := (yW s.pw).2, xa := rs.flatMap zY } := by
    show (if _ then _ else _) = _
    rw [e1, if_neg (by simp)]
   rw [e2]
   obtain ⟨i1, i2, i3, i4⟩ := GW hsz fs { s with pw := (yW s.pw).2, xa := rs.flatMap zY } hn.2 (vF h).2 (by show 0 ≤ (yW s.pw).2.steps; omega) (by show (yW s.pw).2.steps + _ < _; omega)
   refine ⟨i1, i2, ?_, ?_⟩
   ·rw [i3]
    show (yW s.pw).2.steps + _ = _
    simp only [List.length_cons]
    omega
   ·rw [if_neg hn.1] at i4
    rw [if_pos (by simp)]
    rw [i4]
    simp
  ·have e := KG (bs := s.xb) h hsz
   have e1 : ZU sz rs true s = (0, { s with pw := (yW s.pw).2, xb := rs.flatMap zY }) := by unfold ZU; rw [e]
   have e2 : kC sz rs (true :: fs) s = kC sz rs fs { s with pw := (yW s.pw).2, xb := rs.flatMap zY } := by
    show (if _ then _ else _) = _
    rw [e1, if_neg (by simp)]
   rw [e2]
   obtain ⟨i1, i2, i3, i4⟩ := GW hsz fs { s with pw := (yW s.pw).2, xb := rs.flatMap zY } hn.2 (vF h).2 (by show 0 ≤ (yW s.pw).2.steps; omega) (by show (yW s.pw).2.steps + _ < _; omega)
   refine ⟨i1, i2, ?_, ?_⟩
   ·rw [i3]
    show (yW s.pw).2.steps + _ = _
    simp only [List.length_cons]
    omega
   ·rw [if_neg hn.1] at i4
    rw [if_pos (show true ∈ true :: fs by simp)]
    rw [i4]
    simp
theorem zC5 {rs : List Rec} (h : ∀ r ∈ rs, r.kind = 1) (hv : zAt rs) : IsD (esOf rs) rs := by
 refine ⟨?_, hv⟩
 have : (esOf rs).map vS = rs := by
  unfold esOf
  rw [List.map_map]
  have e : ∀ r ∈ rs, (vS ∘ fun r : Rec => (r.lba, (r.data, r.ver))) r = r := fun r hr => by
   have := h r hr
   obtain ⟨a, b, c, d⟩ := r
   simp only at this
   subst this
   rfl
  rw [List.map_congr_left e, List.map_id']
 rw [this]
def upsS (f0 f1 : Bool) : List Bool := [false, true].filter fun f => cond f f1 f0
def resP (rs : List Rec) (top e : Int) (f0 f1 : Bool) (ms : MS) : PS := ⟨esOf rs, top, e, f0, f1, ms.pw, ms.xa, ms.xb⟩
def G3 (LL : List (List Rec)) (rs : List Rec) : Prop := rs.Perm (KL (LL.flatten.foldl yZ ([], []))) ∧ zAt rs
def topL (LL : List (List Rec)) : Int := LL.flatten.foldl topStep 0
def zOw (s : AS) (ss1 : SS) (e : Int) (f0 f1 : Bool) (ps : PS) : AS := { s with ds := (xM ⟨ss1.ds, ps.pw⟩ e).2.ds, ps := ps, ua := f0, ub := f1, la := f0, ea := e, lb := f1, eb := e }
def AB.re (q : AB) (p c mp : Nat) : AB := { q with pb := { q.pb with p := p, c := c, mp := mp } }
theorem ArS.gI {w0 w1 w2 : World} {q : AB} {p c mp : Nat} (h : Keep (ArS q w0) w0 w1) (hp : w0.heap.size ≤ p) (hmp : w0.heap.size ≤ mp) (k : Keep (yE (q.re p c mp).pb w1) w1 w2) : Keep (ArS q w0) w0 w2 :=
 h.trans' k fun i hi hf => Classical.byContradiction fun hn => by
  rcases hf with e | e | e | e | e | ⟨hb, cs, hc⟩
  ·have e : i = p := e
   omega
  ·have e : i = mp := e
   omega
  ·exact hn (Or.inl (Or.inr (Or.inr (Or.inr (Or.inr (Or.inl e))))))
  ·exact hn (Or.inl (Or.inr (Or.inr (Or.inr (Or.inr (Or.inr (Or.inl e)))))))
  ·exact hn (Or.inl (Or.inr (Or.inr (Or.inr (Or.inr (Or.inr (Or.inr (Or.inl e))))))))
  ·exact hn (Or.inl (Or.inr (Or.inr (Or.inr (Or.inr (Or.inr (Or.inr (Or.inr ⟨hb, cs, (h.block i hi hn).symm.trans hc⟩))))))))
theorem MO (ds : List Dsk) (p p' : Pow) (h : p.on = true) (h' : p'.on = true) (e : Int) : (xM ⟨ds, p⟩ e).2.ds = (xM ⟨ds, p'⟩ e).2.ds := by
 unfold xM
 rw [if_neg (by rw [show ({ ds := ds, pw := p } : SS).pw.on = true from h]; decide), if_neg (by rw [show ({ ds := ds, pw := p' } : SS).pw.on = true from h']; decide)]
 show ds.map _ = ds.map _
 refine List.map_congr_left fun D _ => ?_
 unfold xE
 show (if p.on = false then _ else _ : Int × Dsk).2 = (if p'.on = false then _ else _ : Int × Dsk).2
 rw [h, h']
structure RvL (w : World) (sp : Option Addr) (sl sc : Nat) (ss : List Bool) (lp : Option Addr) (ll lc : Nat) (Q : List (Option Addr × Nat × Nat)) (LL : List (List Rec)) : Prop where
 s : SlT iLay w 3 sp sl sc (ss.map zZ)
 l : SlT hLay w 113 lp ll lc Q
 q : Q.length = LL.length
 r : ∀ (i : Nat) (q : Option Addr × Nat × Nat) (rs : List Rec), Q[i]? = some q → LL[i]? = some rs → SlT rLay w 246 q.1 q.2.1 q.2.2 rs
theorem RvL.keep {w w' : World} {S : Nat → Prop} {sp : Option Addr} {sl sc : Nat} {ss : List Bool} {lp : Option Addr} {ll lc : Nat} {Q : List (Option Addr × Nat × Nat)} {LL : List (List Rec)} (h : RvL w sp sl sc ss lp ll lc Q LL) (k : Keep S w w')
  (hS : ∀ (i : Nat) (cs : Array Value) (t : TypeId), Has w i (.cells cs t (0, 0)) → t = 3 ∨ t = 113 ∨ t = 246 ∨ t = 138 → ¬ S i) : RvL w' sp sl sc ss lp ll lc Q LL :=
 ⟨h.s.yA k fun i cur hi => hS i cur _ hi (Or.inl rfl), h.l.yA k fun i cur hi => hS i cur _ hi (Or.inr (Or.inl rfl)), h.q, fun i a rs x y => (h.r i a rs x y).yA k fun i cur hi => hS i cur _ hi (Or.inr (Or.inr (Or.inl rfl)))⟩
theorem VK {t u : TypeId} (h : t = 3 ∨ t = 113 ∨ t = 246 ∨ t = 138) (h1 : 3 ≠ u) (h2 : 113 ≠ u) (h3 : 246 ≠ u) (h4 : 138 ≠ u) : t ≠ u := by
 rcases h with rfl | rfl | rfl | rfl <;> assumption
theorem zBz {w : World} {q : SB} {s : SS} (h : SetAt w q s) : ∀ (i : Nat) (cs : Array Value) (t : TypeId), Has w i (.cells cs t (0, 0)) → t = 3 ∨ t = 113 ∨ t = 246 ∨ t = 138 → ¬ vJ q i := fun i cs t hi ht =>
 h.typ hi (VK ht (by decide) (by decide) (by decide) (by decide)) (VK ht (by decide) (by decide) (by decide) (by decide)) (VK ht (by decide) (by decide) (by decide) (by decide))
theorem zC0 {w : World} {q : MB} {s : MS} (h : MemsAt w q s) : ∀ (i : Nat) (cs : Array Value) (t : TypeId), Has w i (.cells cs t (0, 0)) → t = 3 ∨ t = 113 ∨ t = 246 ∨ t = 138 → ¬ y6 q w i := fun i cs t hi ht =>
 y6.not hi h (VK ht (by decide) (by decide) (by decide) (by decide)) (VK ht (by decide) (by decide) (by decide) (by decide)) (VK ht (by decide) (by decide) (by decide) (by decide))
theorem zA4 {sz : Int} {x : Rec} {f : Bool} {fs : List Bool} {m m' : MS} (h : yF sz x (f :: fs) m = (0, m')) : (appM sz x f m).1 = 0 ∧ yF sz x fs (appM sz x f m).2 = (0, m') := by
 have e : yF sz x (f :: fs) m = if (appM sz x f m).1 ≠ 0 then appM sz x f m else yF sz x fs (appM sz x f m).2 := rfl
 rw [e] at h
 split at h
 ·rename_i hne
  exact absurd (by rw [h]) hne
 ·rename_i hne
  exact ⟨by omega, h⟩
section calls
variable {w : World} {q : AB} {s : AS} {R : Value → World → Prop}
set_option maxHeartbeats 1000000 in
theorem zDr (h : ArC w q 1 none s) {f0 f1 : Bool} (hf01 : f0 = true ∨ f1 = true) {src : Bool} {srcs : List Bool} {sp : Option Addr} {sl sc : Nat} (hsl2 : sl ≤ 2)
  {lp : Option Addr} {ll lc : Nat} {Q : List (Option Addr × Nat × Nat)} {LL : List (List Rec)} (hv : RvL w sp sl sc (src :: srcs) lp ll lc Q LL) (hll : ll ≤ 2) (hflat : LL.flatten.length ≤ 100000) (hrc : ∀ r ∈ LL.flatten, RcOk r)
  {key : Int} (hkey : 0 ≤ key ∧ key ≤ 4294967295) (hpend : (u7 LL).length ≤ 1) (hP : (XW LL).length ≤ 1000000) {ss1 : SS} (happ : vY q.g s.ss (XW LL) key = (0, ss1)) (hok1 : ∀ D ∈ ss1.ds, jN D)
  {e : Int} (haf : M7 key (zZ src) = (e, 0)) (he : 0 ≤ e ∧ e ≤ 4294967295) {ms : MS} (hms : yF q.pb.sz ⟨6, e, 0, sec []⟩ (src :: srcs) ⟨ss1.pw, s.ps.xa, s.ps.xb⟩ = (0, ms)) (hon1 : ms.pw.on = true)
  (hroom : 1 ≤ q.pb.room ∧ q.pb.room ≤ 64)
  (hrs : ∀ rs, G3 LL rs → (∀ r ∈ rs, r.kind = 1 ∧ (0 ≤ r.lba ∧ r.lba ≤ 2147483647) ∧ r.ver ≤ topL LL) ∧ (rs.map (·.lba)).Nodup ∧ (rs.length : Int) ≤ q.pb.room)
  (hcomp : ∀ rs, G3 LL rs → (kC q.pb.sz (⟨6, e, 0, sec []⟩ :: rs) (upsS f0 f1) (resP rs (topL LL) e f0 f1 ms)).1 = 0 ∧ (kC q.pb.sz (⟨6, e, 0, sec []⟩ :: rs) (upsS f0 f1) (resP rs (topL LL) e f0 f1 ms)).2.pw.on = true)
  (hK : ∀ p c mp rs w', G3 LL rs → w.heap.size ≤ p → w.heap.size ≤ mp → ArAt w' (q.re p c mp) 1 (zOw s ss1 e f0 f1 (kC q.pb.sz (⟨6, e, 0, sec []⟩ :: rs) (upsS f0 f1) (resP rs (topL LL) e f0 f1 ms)).2) → Keep (ArS q w) w w' → R (.int .i64 0) w') :
  zB Tryz.prog 91 #[.pointer (some ⟨q.a, 0, none⟩), .int .u32 key, .agg #[.bool f0, .bool f1], .slice sp sl sc, .slice lp ll lc] w R := by
 apply ZC
 unfold uZ
 have hsl : sl = srcs.length + 1 := by have := hv.s.len; simpa using this
 refine zK fun w1 hb1 k1 z1 => ?_
 have h1 := h.zX k1
 have v1 := hv.keep k1 (fun _ _ _ _ _ => by simp)
 refine xO (cs := setV q.g q.sp q.g.d.toNat q.sc) h1.cells (by show 3 + 4 ≤ 21; decide) (OE q 1 none s) ?_
 refine zMw zI6 h1.stm.set h1.stm.disks v1.l.sl v1.q (fun i a rs x y => ⟨(v1.r i a rs x y).sl, (v1.r i a rs x y).cap.1⟩) (by omega) hflat (fun r hr => by have := zEy (hrc r hr); omega) (fun r hr => (hrc r hr).2.1) hpend (by decide) hP fun w2 hS2 k2 => ?_
 rw [happ] at hS2 ⊢
 have h2 := h1.O8 hS2 k2
 have v2 := v1.keep k2 (zBz h1.stm.set)
 have hb2 := k2.has hb1 (zBz h1.stm.set _ _ _ hb1 (Or.inr (Or.inr (Or.inr rfl))))
 have k02 : Keep (ArS q w) w w2 := ArS.trans (ArS.none k1) (ArS.ofS k2)
 clear h1 v1 hb1 k1 k2 hS2 hv
 generalize hbE : w.heap.size = b at *
 refine zA.2 ((zH (p := _)).2 ?_)
 refine v2.s.ld0 (x := zZ src) rfl (by decide) rfl rfl (zA.2 ?_)
 refine TY hkey.1 hkey.2 (by have := uO src; omega) ?_
 rw [haf]
 refine yM.2 (zA.2 (zA.2 ((zH (p := _)).2 ?_)))
 refine zP (σ := Int × Unit) (fun st w' => ∃ (j : Nat) (m : MS), st.1 = (j : Int) ∧ j ≤ sl ∧ ArC w' q 1 none { s with ds := ss1.ds, ps := { s.ps with pw := m.pw, xa := m.xa, xb := m.xb } } ∧ yF q.pb.sz ⟨6, e, 0, sec []⟩ ((src :: srcs).drop j) m = (0, ms) ∧ RvL w' sp sl sc (src :: srcs) lp ll lc Q LL ∧ Has w' b (.cells #[.bool f0, .bool f1] 138 (0, 0)) ∧ Keep (ArS q w) w w')
  (fun st _ => ((sl : Int) - st.1).toNat) ⟨0, ⟨ss1.pw, s.ps.xa, s.ps.xb⟩, rfl, by omega, h2, hms, v2, hb2, k02⟩ ?_
 clear h2 v2 hb2 k02
 rintro _ ⟨i, u⟩ w3 ⟨j, m, hi, hj, h3, hm3, v3, hb3, k03⟩
 simp only at hi ⊢
 subst hi
 refine zN (fun hc => ?_) (fun hc => ?_)
 ·have hj : j < sl := by simp at hc; omega
  obtain ⟨f, hf⟩ : ∃ f, (src :: srcs)[j]? = some f := ⟨_, List.getElem?_eq_getElem (by simp; omega)⟩
  refine v3.s.ld0 (x := zZ f) rfl (by omega) (by rw [Int.toNat_natCast, List.getElem?_map, hf]; rfl) rfl (zA.2 ⟨uO f, ?_⟩)
  refine zG (v := .pointer (some ⟨ramM q.mb f, 0, none⟩)) h3.cells (by cases f <;> rfl) (zO.2 ?_)
  rw [vG (x := e) (by omega) (by omega)]
  refine zV (v := .agg (recV ⟨6, e, 0, sec []⟩)) (fun _ => run_build _ _ _ _ (by kernel_rfl)) (zJ.2 ⟨rfl, ?_⟩)
  have hdrop : (src :: srcs).drop j = f :: (src :: srcs).drop (j + 1) := by
   rw [List.drop_eq_getElem_cons (by simp; omega)]
   congr 1
   have := List.getElem?_eq_getElem (l := src :: srcs) (i := j) (by simp; omega)
   rw [hf] at this
   exact (Option.some.inj this).symm
  rw [hdrop] at hm3
  obtain ⟨m1, m2⟩ := zA4 hm3
  refine zFs h3.stm.mems (f := f) (x := ⟨6, e, 0, sec []⟩) rfl fun w4 hM4 k4 => zA.2 ?_
  have hM4 : MemsAt w4 q.mb (appM q.pb.sz ⟨6, e, 0, sec []⟩ f m).2 := hM4
  have e0 : (appM q.mb.sz ⟨6, e, 0, sec []⟩ f ⟨m.pw, m.xa, m.xb⟩).1 = 0 := m1
  have h4 := h3.Q8 hM4 k4
  show Cb ((appM q.mb.sz ⟨6, e, 0, sec []⟩ f ⟨m.pw, m.xa, m.xb⟩).1 != 0) _ _
  rw [e0]
  refine (zH (p := _)).2 ?_
  rw [zW (by omega) (by omega)]
  exact ⟨_, by omega, ⟨j + 1, (appM q.pb.sz ⟨6, e, 0, sec []⟩ f m).2, by omega, by omega, h4, m2, v3.keep k4 (zC0 h3.stm.mems), k4.has hb3 (zC0 h3.stm.mems _ _ _ hb3 (Or.inr (Or.inr (Or.inr rfl)))), ArS.trans k03 (ArS.ofM k4)⟩, rfl⟩
 have hj : j = sl := by simp at hc; omega
 have hdrop : (src :: srcs).drop j = [] := List.drop_eq_nil_of_le (by simp; omega)
 rw [hdrop] at hm3
 have hmm : m = ms := congrArg Prod.snd hm3
 subst hmm
 clear hc hm3 hdrop
 refine xO (cs := setV q.g q.sp q.g.d.toNat q.sc) h3.cells (by show 3 + 4 ≤ 21; decide) (OE q 1 none _) ?_
 have hoff : ∀ b o, q.sp = some ⟨b, o, none⟩ → ¬ vJ q.sb b := fun b o hb hi => by
  rcases Own.cases h3.stm.disks with ⟨h0, _⟩ | ⟨b', cur, h0, _, hg, _⟩
  ·rw [h0] at hb; cases hb
  ·rw [h0] at hb; cases hb
   exact h3.stm.set.typ hg (by decide) (by decide) (by decide) hi
 refine zI4 (q := q.sb) h3.stm.set h3.stm.disks.sl h3.stm.disks.cap.1 hoff hok1 he fun w4 hS4 k4 => zA.2 ?_
 have hS4 : SetAt w4 q.sb (xM ⟨ss1.ds, m.pw⟩ e).2 := hS4
 have h4 := h3.O8 hS4 k4
 have v4 := v3.keep k4 (zBz h3.stm.set)
 have hb4 := k4.has hb3 (zBz h3.stm.set _ _ _ hb3 (Or.inr (Or.inr (Or.inr rfl))))
 have k04 := ArS.trans k03 (ArS.ofS k4)
 rw [zC3] at h4
 have h4 : ArC w4 q 1 none { s with ds := (xM ⟨ss1.ds, m.pw⟩ e).2.ds, ps := { s.ps with pw := m.pw, xa := m.xa, xb := m.xb } } := h4
 clear h3 v3 hb3 k03 k4 hS4 hoff
 intro d
 have kd := Keep.drew (fun _ => False) w4 d
 have h5 := h4.zX kd
 have v5 := v4.keep kd (fun _ _ _ _ _ => by simp)
 have hb5 : Has (w4.dr d) b (.cells #[.bool f0, .bool f1] 138 (0, 0)) := hb4
 have k05 := ArS.trans k04 (ArS.none kd)
 clear h4 v4 hb4 k04 kd
 generalize w4.dr d = w5 at *
 generalize hds : (xM ⟨ss1.ds, m.pw⟩ e).2.ds = ds at *
 refine ⟨fun w' => Has w' q.a (.cells (arCp q 1 none { s with ds := ds, ps := { s.ps with pw := m.pw, xa := m.xa, xb := m.xb } }) 143 (0, 0)), h5.cells, by decide, ?_⟩
 refine yO (v := .pointer (some ⟨q.pb.a, 0, none⟩)) (fun w' hw => ⟨_, _, _, hw, rfl⟩) (zO.2 ⟨by decide, ?_⟩)
 refine yO (v := .pointer (some ⟨q.pb.b, 0, none⟩)) (fun w' hw => ⟨_, _, _, hw, rfl⟩) (zO.2 ?_)
 refine yO (v := .int .i64 q.pb.room) (fun w' hw => ⟨_, _, _, hw, rfl⟩) (zA.2 ?_)
 have lists5 := NY v5.l.sl v5.q fun i a rs x y => (v5.r i a rs x y).sl
 have htot : total LL ≤ 10000000 := by unfold total; omega
 refine zFr lists5 (by omega) htot fun w6 k6 => zA.2 ⟨k6.has h5.cells (by simp), ?_⟩
 have lists6 := NY (v5.keep k6 (fun _ _ _ _ _ => by simp)).l.sl v5.q fun i a rs x y => ((v5.keep k6 (fun _ _ _ _ _ => by simp)).r i a rs x y).sl
 refine TX lists6 (by omega) htot fun dp dl dc rs w7 hp7 hv7 o7 k7 => zC.2 ⟨(k6.trans k7).has h5.cells (by simp), ?_⟩
 have o7 : OwnL rLay w7 w6.heap.size 246 dp dl dc rs := o7
 have h7 := h5.zX (k6.trans k7)
 have hleft : G3 LL rs := ⟨hp7, hv7⟩
 obtain ⟨r1, r2, r3⟩ := hrs rs hleft
 obtain ⟨c1, c2⟩ := hcomp rs hleft
 have k07 := ArS.trans k05 (ArS.none (k6.trans k7))
 have hb7 := (k6.trans k7).has hb5 (by simp)
 clear h5 v5 hb5 k05 lists5 lists6
 have hdl : dl = rs.length := o7.length
 have hlow : w.heap.size ≤ w7.heap.size := k07.size
 refine zF7 (epoch := e) (last := topL LL) h7.stm.mems.main h7.stm.mems.rams h7.stm.mems.ne h7.stm.mems.fit h7.stm.mems.form hroom.1 hroom.2 h7.stm.mems.low o7.sl r1 r2 (by rw [hdl]; exact r3) fun p c mp w8 hp8 k8 hpl hml => yM.2 (WJ.2 (zA.2 ⟨k8.has h7.cells (by simp), (zH (p := _)).2 ?_⟩))
 have h8 := h7.zX k8
 have hb8 := k8.has hb7 (by simp)
 have k08 := ArS.trans k07 (ArS.none k8)
 have hP8 : ArP w8 (q.re p c mp) 1 none { s with ds := ds, ps := ⟨esOf rs, topL LL, e, true, true, m.pw, m.xa, m.xb⟩ } := ⟨h8.cells, h8.stm.set, h8.stm.disks, hp8, h8.desk, h8.marks⟩
 have hpl0 : w.heap.size ≤ p := by omega
 have hml0 : w.heap.size ≤ mp := by omega
 clear h7 h8 hb7 k07 k8 hp8 o7
 have nP : ∀ {w1 : World} {s1 : AS}, ArP w1 (q.re p c mp) 1 none s1 → ∀ {cs : Array Value}, Has w1 b (.cells cs 138 (0, 0)) → ¬ yE (q.re p c mp).pb w1 b := fun ha _ hb => yE.not hb (by decide) ha.pair (by decide) (by decide) (by decide)
 refine zP (σ := Int × Unit) (fun st w' => ∃ j : Nat, st.1 = (j : Int) ∧ j ≤ 2 ∧ ArP w' (q.re p c mp) 1 none { s with ds := ds, ps := ⟨esOf rs, topL LL, e, if 0 < j then f0 else true, if 1 < j then f1 else true, m.pw, m.xa, m.xb⟩ } ∧ Has w' b (.cells #[.bool f0, .bool f1] 138 (0, 0)) ∧ Keep (ArS q w) w w') (fun st _ => (2 - st.1).toNat) ⟨0, rfl, by omega, hP8, hb8, k08⟩ ?_
 clear hP8 hb8 k08
 rintro _ ⟨i, u2⟩ w9 ⟨j, hi, hj, h9, hb9, k09⟩
 simp only at hi ⊢
 subst hi
 have hj3 : j = 0 ∨ j = 1 ∨ j = 2 := by omega
 rcases hj3 with rfl | rfl | rfl
 ·refine (zT (q := _)).2 ⟨by decide, ?_⟩
  refine zG (v := .bool f0) hb9 rfl (zM.2 ?_)
  have fin : ∀ {w' : World}, ArP w' (q.re p c mp) 1 none { s with ds := ds, ps := ⟨esOf rs, topL LL, e, f0, true, m.pw, m.xa, m.xb⟩ } → Has w' b (.cells #[.bool f0, .bool f1] 138 (0, 0)) → Keep (ArS q w) w w' → ∃ m', m' < (2 - ((0 : Nat) : Int)).toNat ∧ ((∃ j : Nat, IntKind.wrap .i64 (((0 : Nat) : Int) + 1) = (j : Int) ∧ j ≤ 2 ∧ ArP w' (q.re p c mp) 1 none { s with ds := ds, ps := ⟨esOf rs, topL LL, e, if 0 < j then f0 else true, if 1 < j then f1 else true, m.pw, m.xa, m.xb⟩ } ∧ Has w' b (.cells #[.bool f0, .bool f1] 138 (0, 0)) ∧ Keep (ArS q w) w w') ∧ (2 - IntKind.wrap .i64 (((0 : Nat) : Int) + 1)).toNat = m') := fun ha hb kk => ⟨1, by decide, ⟨1, by decide, by decide, ha, hb, kk⟩, by decide⟩
  cases f0 with
  | true => exact (zH (p := _)).2 (fin h9 hb9 k09)
  | false =>
   refine (zT (q := _)).2 (zBg h9.pair false fun w10 p10 k10 => zA.2 ?_)
   exact fin (h9.gI p10 k10) (k10.has hb9 (nP h9 hb9)) (ArS.gI k09 hpl0 hml0 k10)
 ·refine (zT (q := _)).2 ⟨by decide, ?_⟩
  refine zG (v := .bool f1) hb9 rfl (zM.2 ?_)
  have fin : ∀ {w' : World}, ArP w' (q.re p c mp) 1 none { s with ds := ds, ps := ⟨esOf rs, topL LL, e, f0, f1, m.pw, m.xa, m.xb⟩ } → Has w' b (.cells #[.bool f0, .bool f1] 138 (0, 0)) → Keep (ArS q w) w w' → ∃ m', m' < (2 - ((1 : Nat) : Int)).toNat ∧ ((∃ j : Nat, IntKind.wrap .i64 (((1 : Nat) : Int) + 1) = (j : Int) ∧ j ≤ 2 ∧ ArP w' (q.re p c mp) 1 none { s with ds := ds, ps := ⟨esOf rs, topL LL, e, if 0 < j then f0 else true, if 1 < j then f1 else true, m.pw, m.xa, m.xb⟩ } ∧ Has w' b (.cells #[.bool f0, .bool f1] 138 (0, 0)) ∧ Keep (ArS q w) w w') ∧ (2 - IntKind.wrap .i64 (((1 : Nat) : Int) + 1)).toNat = m') := fun ha hb kk => ⟨0, by decide, ⟨2, by decide, by decide, ha, hb, kk⟩, by decide⟩
  cases f1 with
  | true => exact (zH (p := _)).2 (fin h9 hb9 k09)
  | false =>
   have hf0 : f0 = true := by rcases hf01 with h | h; exact h; cases h
   subst hf0
   refine (zT (q := _)).2 (zBg h9.pair true fun w10 p10 k10 => zA.2 ?_)
   exact fin (h9.gI p10 k10) (k10.has hb9 (nP h9 hb9)) (ArS.gI k09 hpl0 hml0 k10)
 refine (zH (p := _)).2 ?_
 have h9 : ArP w9 (q.re p c mp) 1 none { s with ds := ds, ps := resP rs (topL LL) e f0 f1 m } := h9
 have hlenE : (esOf rs).length = rs.length := by unfold esOf; rw [List.length_map]
 have hep : epR (resP rs (topL LL) e f0 f1 m) = ⟨6, e, 0, sec []⟩ := by
  unfold epR
  show (⟨6, IntKind.wrap .u64 e, 0, sec []⟩ : Rec) = _
  rw [vG (by omega) (by omega)]
 refine zD3 (q := (q.re p c mp).pb) (s := resP rs (topL LL) e f0 f1 m) (D := rs) h9.pair (by show (esOf rs).length ≤ _; omega) (fun x hx => ?_) (zC5 (fun r hr => (r1 r hr).1) hv7) fun w10 p10 k10 => ?_
 ·have hx : x ∈ esOf rs := hx
  unfold esOf at hx
  obtain ⟨r, hr, rfl⟩ := List.mem_map.1 hx
  exact (r1 r hr).2.1
 have hsz : (q.re p c mp).pb.sz = q.pb.sz := rfl
 have hup : upS (resP rs (topL LL) e f0 f1 m) false = upsS f0 f1 := rfl
 rw [hep, hsz, hup] at p10 ⊢
 rw [c1]
 refine zA.2 ((zH (p := _)).2 ?_)
 have h10 := h9.gI p10 k10
 have hb10 := k10.has hb9 (nP h9 hb9)
 have k010 := ArS.gI k09 hpl0 hml0 k10
 clear h9 hb9 k09 k10 p10
 have hdsE : (xM ⟨ss1.ds, (kC q.pb.sz (⟨6, e, 0, sec []⟩ :: rs) (upsS f0 f1) (resP rs (topL LL) e f0 f1 m)).2.pw⟩ e).2.ds = ds := by
  rw [← hds]
  exact MO _ _ _ c2 hon1 e
 have hKK := hK p c mp rs
 unfold zOw at hKK
 rw [hdsE] at hKK
 generalize (kC q.pb.sz (⟨6, e, 0, sec []⟩ :: rs) (upsS f0 f1) (resP rs (topL LL) e f0 f1 m)).2 = ps at *
 intro d2
 have kd := Keep.drew (fun _ => False) w10 d2
 have h11 := h10.zX kd
 have hb11 : Has (w10.dr d2) b (.cells #[.bool f0, .bool f1] 138 (0, 0)) := hb10
 have k011 := ArS.trans k010 (ArS.none kd)
 clear h10 hb10 k010 kd
 generalize w10.dr d2 = w11 at *
 have hba : b ≠ q.a := wH hb11 h11.cells (by decide)
 refine ⟨fun w' => Has w' b (.cells #[.bool f0, .bool f1] 138 (0, 0)), hb11, ?_⟩
 refine jR (cs := #[.bool f0, .bool f1]) rfl (fun w' hw => ⟨_, _, _, hw, by show 0 + 2 ≤ 2; decide, rfl⟩) ?_
 refine xZ h11.cells (by show 9 < 21; decide) rfl ?_
 have hset1 : (arCp (q.re p c mp) 1 none { s with ds := ds, ps := ps }).setIfInBounds 9 (.pointer (some ⟨p, 0, none⟩)) = arCp (q.re p c mp) 1 (some ⟨p, 0, none⟩) { s with ds := ds, ps := ps } := rfl
 rw [hset1]
 have h12 := h11.put (lk' := 1) (pp' := some ⟨p, 0, none⟩) (s' := { s with ds := ds, ps := ps }) rfl rfl rfl rfl
 have kp : ∀ (w1 : World) (x : Obj), Has w1 b (.cells #[.bool f0, .bool f1] 138 (0, 0)) → Has (w1.upd q.a x) b (.cells #[.bool f0, .bool f1] 138 (0, 0)) := fun w1 x hb => (Keep.one w1 q.a x).has hb hba
 have hb12 := kp _ (.cells (arCp (q.re p c mp) 1 (some ⟨p, 0, none⟩) { s with ds := ds, ps := ps }) 143 (0, 0)) hb11
 have k012 := ArS.trans k011 (ArS.ofA (Keep.one w11 q.a (.cells (arCp (q.re p c mp) 1 (some ⟨p, 0, none⟩) { s with ds := ds, ps := ps }) 143 (0, 0))))
 have e12 : (q.re p c mp).a = q.a := rfl
 rw [e12] at h12
 generalize w11.upd q.a _ = w12 at *
 refine ⟨hb12, ?_⟩
 refine G1 (c := arCp (q.re p c mp) 1 (some ⟨p, 0, none⟩) { s with ds := ds, ps := ps }) h12.cells rfl (by show 10 + 2 ≤ 21; decide) (by intro v hv; simp only [List.mem_cons, List.not_mem_nil, or_false] at hv; rcases hv with rfl | rfl <;> rfl) ?_
 have hset2 : spl (arCp (q.re p c mp) 1 (some ⟨p, 0, none⟩) { s with ds := ds, ps := ps }) 10 #[.bool f0, .bool f1] = arCp (q.re p c mp) 1 (some ⟨p, 0, none⟩) { s with ds := ds, ps := ps, ua := f0, ub := f1 } := rfl
 rw [hset2]
 have h13 := h12.put (lk' := 1) (pp' := some ⟨p, 0, none⟩) (s' := { s with ds := ds, ps := ps, ua := f0, ub := f1 }) rfl rfl rfl rfl
 have hb13 := kp _ (.cells (arCp (q.re p c mp) 1 (some ⟨p, 0, none⟩) { s with ds := ds, ps := ps, ua := f0, ub := f1 }) 143 (0, 0)) hb12
 have k013 := ArS.trans k012 (ArS.ofA (Keep.one w12 q.a (.cells (arCp (q.re p c mp) 1 (some ⟨p, 0, none⟩) { s with ds := ds, ps := ps, ua := f0, ub := f1 }) 143 (0, 0))))
 rw [e12] at h13
 generalize w12.upd q.a _ = w13 at *
 refine ⟨hb13, ?_⟩
 refine zP (σ := Int × Unit) (fun st w' => ∃ j : Nat, st.1 = (j : Int) ∧ j ≤ 2 ∧ ArP w' (q.re p c mp) 1 (some ⟨p, 0, none⟩) { s with ds := ds, ps := ps, ua := f0, ub := f1, la := if 0 < j then f0 else s.la, ea := if 0 < j then e else s.ea, lb := if 1 < j then f1 else s.lb, eb := if 1 < j then e else s.eb } ∧ Has w' b (.cells #[.bool f0, .bool f1] 138 (0, 0)) ∧ Keep (ArS q w) w w') (fun st _ => (2 - st.1).toNat) ⟨0, rfl, by omega, h13, hb13, k013⟩ ?_
 clear h11 h12 h13 hb11 hb12 hb13 k011 k012 k013 hset1 hset2
 rintro _ ⟨i, u3⟩ w14 ⟨j, hi, hj, h14, hb14, k014⟩
 simp only at hi ⊢
 subst hi
 have hj3 : j = 0 ∨ j = 1 ∨ j = 2 := by omega
 rcases hj3 with rfl | rfl | rfl
 ·refine (zT (q := _)).2 fun d3 _ => ⟨by decide, ?_⟩
  have kd := Keep.drew (fun _ => False) w14 d3
  have h15 := h14.zX kd
  have hb15 : Has (w14.dr d3) b (.cells #[.bool f0, .bool f1] 138 (0, 0)) := hb14
  have k015 := ArS.trans k014 (ArS.none kd)
  clear h14 hb14 k014 kd
  generalize w14.dr d3 = w15 at *
  refine zG (v := .bool f0) hb15 rfl (zM.2 ?_)
  refine zV (v := .agg #[.bool f0, .int .u32 e]) (fun _ => run_build _ _ _ _ (by kernel_rfl)) (zJ.2 ⟨rfl, by decide, ?_⟩)
  refine G1 h15.cells rfl (by show 13 + 2 ≤ 21; decide) (by intro v hv; simp only [List.mem_cons, List.not_mem_nil, or_false] at hv; rcases hv with rfl | rfl <;> rfl) ?_
  have h16 := h15.put (lk' := 1) (pp' := some ⟨p, 0, none⟩) (s' := { s with ds := ds, ps := ps, ua := f0, ub := f1, la := f0, ea := e, lb := s.lb, eb := s.eb }) rfl rfl rfl rfl
  have hb16 := kp _ (.cells (arCp (q.re p c mp) 1 (some ⟨p, 0, none⟩) { s with ds := ds, ps := ps, ua := f0, ub := f1, la := f0, ea := e, lb := s.lb, eb := s.eb }) 143 (0, 0)) hb15
  have k016 := ArS.trans k015 (ArS.ofA (Keep.one w15 q.a (.cells (arCp (q.re p c mp) 1 (some ⟨p, 0, none⟩) { s with ds := ds, ps := ps, ua := f0, ub := f1, la := f0, ea := e, lb := s.lb, eb := s.eb }) 143 (0, 0))))
  exact ⟨1, by decide, ⟨1, by decide, by decide, h16, hb16, k016⟩, by decide⟩
 ·refine (zT (q := _)).2 fun d3 _ => ⟨by decide, ?_⟩
  have kd := Keep.drew (fun _ => False) w14 d3
  have h15 := h14.zX kd
  have hb15 : Has (w14.dr d3) b (.cells #[.bool f0, .bool f1] 138 (0, 0)) := hb14
  have k015 := ArS.trans k014 (ArS.none kd)
  clear h14 hb14 k014 kd
  generalize w14.dr d3 = w15 at *
  refine zG (v := .bool f1) hb15 rfl (zM.2 ?_)
  refine zV (v := .agg #[.bool f1, .int .u32 e]) (fun _ => run_build _ _ _ _ (by kernel_rfl)) (zJ.2 ⟨rfl, by decide, ?_⟩)
  refine G1 h15.cells rfl (by show 15 + 2 ≤ 21; decide) (by intro v hv; simp only [List.mem_cons, List.not_mem_nil, or_false] at hv; rcases hv with rfl | rfl <;> rfl) ?_
  have h16 := h15.put (lk' := 1) (pp' := some ⟨p, 0, none⟩) (s' := { s with ds := ds, ps := ps, ua := f0, ub := f1, la := f0, ea := e, lb := f1, eb := e }) rfl rfl rfl rfl
  have hb16 := kp _ (.cells (arCp (q.re p c mp) 1 (some ⟨p, 0, none⟩) { s with ds := ds, ps := ps, ua := f0, ub := f1, la := f0, ea := e, lb := f1, eb := e }) 143 (0, 0)) hb15
  have k016 := ArS.trans k015 (ArS.ofA (Keep.one w15 q.a (.cells (arCp (q.re p c mp) 1 (some ⟨p, 0, none⟩) { s with ds := ds, ps := ps, ua := f0, ub := f1, la := f0, ea := e, lb := f1, eb := e }) 143 (0, 0))))
  exact ⟨0, by decide, ⟨2, by decide, by decide, h16, hb16, k016⟩, by decide⟩
 refine (zH (p := _)).2 (zF.2 ?_)
 exact hKK w14 hleft (by rw [← hbE]; exact hpl0) (by rw [← hbE]; exact hml0) h14.at k014
end calls
theorem zQv : LayT Tryz.prog iLay 69 3 8 := ⟨by kernel_rfl, ⟨(Tryz.prog.info? 3).get (by kernel_rfl), ((Tryz.prog.info? 3).get (by kernel_rfl)).zero.get (by kernel_rfl), by kernel_rfl, by kernel_rfl, by kernel_rfl, by kernel_rfl, by kernel_rfl⟩⟩
theorem zOs : LayT Tryz.prog hLay 158 113 24 := ⟨by kernel_rfl, ⟨(Tryz.prog.info? 113).get (by kernel_rfl), ((Tryz.prog.info? 113).get (by kernel_rfl)).zero.get (by kernel_rfl), by kernel_rfl, by kernel_rfl, by kernel_rfl, by kernel_rfl, by kernel_rfl⟩⟩
theorem zQ3 (x : Int) (w : World) : (Instr.buildSlice 69 1 #[(0, .int .i64 x)]).run Tryz.prog w = .ok (.slice (some ⟨w.heap.size, 0, none⟩) 1 1) (w.alloc (.cells #[.int .i64 x] 3)) :=
 run_buildSlice w 69 3 1 _ #[.int .i64 x] ((Tryz.prog.info? 3).get (by kernel_rfl)) (((Tryz.prog.info? 3).get (by kernel_rfl)).zero.get (by kernel_rfl)) (by kernel_rfl) (by kernel_rfl) (by kernel_rfl) (by decide +kernel) (by decide +kernel) (by kernel_rfl)
theorem zNh (p : Option Addr) (l c : Nat) (w : World) : (Instr.buildSlice 158 1 #[(0, .slice p l c)]).run Tryz.prog w = .ok (.slice (some ⟨w.heap.size, 0, none⟩) 1 1) (w.alloc (.cells #[.slice p l c] 113)) :=
 run_buildSlice w 158 113 1 _ #[.slice p l c] ((Tryz.prog.info? 113).get (by kernel_rfl)) (((Tryz.prog.info? 113).get (by kernel_rfl)).zero.get (by kernel_rfl)) (by kernel_rfl) (by kernel_rfl) (by kernel_rfl) (by decide +kernel) (by decide +kernel) (by kernel_rfl)
def uD (key : Int) (L : List Rec) : Bool := decide (key = 0) || L.any fun x => decide (x.kind = 6) && decide (x.ver = key)
abbrev StS := (Option Addr × Nat × Nat) × (Option Addr × Nat × Nat) × Int × Unit
def StT (b3 : Nat) (n3 : Int) (st : StS) (b4 o3 : Nat) (w : World) (K4 : StS → World → Prop) : Prop :=
 Req (0 ≤ st.2.2.1 ∧ st.2.2.1 < 2) (LdV b3 (0 + Int.toNat st.2.2.1 * 1) (At w) fun v12 => OpB v12 fun g => Cb (!g) (K4 ((st.1.1, st.1.2.1, st.1.2.2), ((st.2.1.1, st.2.1.2.1, st.2.1.2.2), (IntKind.wrap .i64 (st.2.2.1 + 1), ()))) w)
  (zB Tryz.prog 89 #[.pointer (some ⟨b4, o3, none⟩)] w fun v13 w => zB Tryz.prog 62 #[.pointer (some ⟨b4, o3, none⟩)] w fun v14 w => OpS v14 fun p l c =>
   zB Tryz.prog 90 #[.slice p l c, .int .u32 n3] w fun v15 w => OpB v15 fun g1 => Cb g1
    (DoV Tryz.prog (Instr.buildSlice 69 1 #[(0, .int .i64 st.2.2.1)]) w fun v16 w => OpS v16 fun p1 l1 c1 => DoV Tryz.prog (Builtin.append_ #[69, 69] 69 #[.slice st.1.1 st.1.2.1 st.1.2.2, .slice p1 l1 c1]) w fun v17 w => OpS v17 fun p2 l2 c2 =>
     DoV Tryz.prog (Instr.buildSlice 158 1 #[(0, .slice p l c)]) w fun v18 w => OpS v18 fun p3 l3 c3 => DoV Tryz.prog (Builtin.append_ #[158, 158] 158 #[.slice st.2.1.1 st.2.1.2.1 st.2.1.2.2, .slice p3 l3 c3]) w fun v19 w => OpS v19 fun p4 l4 c4 =>
      K4 ((p2, l2, c2), ((p4, l4, c4), (IntKind.wrap .i64 (st.2.2.1 + 1), ()))) w)
    (K4 ((st.1.1, st.1.2.1, st.1.2.2), ((st.2.1.1, st.2.1.2.1, st.2.1.2.2), (IntKind.wrap .i64 (st.2.2.1 + 1), ()))) w)))
structure StL (w : World) (base : Nat) (st : StS) (ss : List Bool) (Ls : Bool → List Rec) : Prop where
 s : OwnL iLay w base 3 st.1.1 st.1.2.1 st.1.2.2 (ss.map zZ)
 l : ∃ Q, OwnL hLay w base 113 st.2.1.1 st.2.1.2.1 st.2.1.2.2 Q ∧ Q.length = ss.length ∧ ∀ (i : Nat) (q : Option Addr × Nat × Nat) (f : Bool), Q[i]? = some q → ss[i]? = some f → SlT rLay w 246 q.1 q.2.1 q.2.2 (Ls f)
theorem StL.keep {w w' : World} {base : Nat} {st : StS} {ss : List Bool} {Ls : Bool → List Rec} {S : Nat → Prop} (h : StL w base st ss Ls) (k : Keep S w w')
  (hS : ∀ (i : Nat) (cs : Array Value) (t : TypeId), Has w i (.cells cs t (0, 0)) → t = 3 ∨ t = 113 ∨ t = 246 ∨ t = 138 → ¬ S i) : StL w' base st ss Ls := by
 obtain ⟨Q, o, hQ, hr⟩ := h.l
 refine ⟨h.s.keep k fun b hb => ?_, Q, o.keep k fun b hb => ?_, hQ, fun i a f x y => (hr i a f x y).yA k fun i cur hi => hS i cur _ hi (Or.inr (Or.inr (Or.inl rfl)))⟩
 ·obtain ⟨_, cur, hh⟩ := yI h.s b 0 hb
  exact hS b cur _ hh (Or.inl rfl)
 ·obtain ⟨_, cur, hh⟩ := yI o b 0 hb
  exact hS b cur _ hh (Or.inr (Or.inl rfl))
theorem StL.idx {w : World} {base : Nat} {a b : Option Addr × Nat × Nat} {i j : Int} {u u' : Unit} {ss : List Bool} {Ls : Bool → List Rec} (h : StL w base (a, (b, (i, u))) ss Ls) : StL w base (a, (b, (j, u'))) ss Ls := ⟨h.s, h.l⟩
theorem StL.rv {w : World} {base : Nat} {st : StS} {ss : List Bool} {Ls : Bool → List Rec} (h : StL w base st ss Ls) : ∃ Q, RvL w st.1.1 st.1.2.1 st.1.2.2 ss st.2.1.1 st.2.1.2.1 st.2.1.2.2 Q (ss.map Ls) := by
 obtain ⟨Q, o, hQ, hr⟩ := h.l
 refine ⟨Q, SlT.of h.s, SlT.of o, by rw [List.length_map]; exact hQ, fun i a rs x y => ?_⟩
 rw [List.getElem?_map] at y
 cases hf : ss[i]? with
 | none => rw [hf] at y; cases y
 | some f =>
  rw [hf] at y
  cases y
  exact hr i a f x hf
def stA (s : AS) (f : Bool) (go : Bool) (L : List Rec) : AS := { s with ps := { s.ps with xa := cond (go && !f) (L.flatMap zY) s.ps.xa, xb := cond (go && f) (L.flatMap zY) s.ps.xb } }
section calls
variable {w : World} {q : AB} {s : AS}
theorem H5 (h : ArC w q 1 none s) {f g : Bool} {L : List Rec} (hk : kT (cond f s.ps.xb s.ps.xa) L) {Ls : Bool → List Rec} (hLs : Ls f = L) {key : Int} (hkey : 0 ≤ key ∧ key ≤ 4294967295) {b3 base : Nat} {bs : Array Value} (hb3 : Has w b3 (.cells bs 138 (0, 0))) (hg : bs[0 + Int.toNat (zZ f) * 1]? = some (.bool g)) {st : StS} {ss : List Bool} (hi : st.2.2.1 = zZ f) (hss : ss.length ≤ 1) (hL : StL w base st ss Ls) (hbase : base ≤ w.heap.size) (hmsb : ∀ b, q.ms = some ⟨b, 0, none⟩ → b < base) {K4 : StS → World → Prop}
  (hK : ∀ st' w', st'.2.2.1 = zZ f + 1 → StL w' base st' (ss ++ if (g && uD key L) = true then [f] else []) Ls → ArC w' q 1 none (stA s f g L) → Has w' b3 (.cells bs 138 (0, 0)) → Keep (fun i => ArS q w i ∨ base ≤ i) w w' → K4 st' w') :
  StT b3 key st (ramM q.mb f) 0 w K4 := by
 obtain ⟨⟨sp, sl, sc⟩, ⟨lp, ll, lc⟩, i, u⟩ := st
 simp only at hi
 subst hi
 have hwr : IntKind.wrap .i64 (zZ f + 1) = zZ f + 1 := by cases f <;> decide
 unfold StT
 simp only [hwr]
 refine ⟨uO f, ?_⟩
 refine zG (v := .bool g) hb3 hg (zM.2 ?_)
 cases g with
 | false =>
  refine (zT (q := _)).2 ?_
  refine hK _ w rfl (by rw [show (ss ++ if (false && uD key L) = true then [f] else []) = ss by simp]; exact hL.idx) ?_ hb3 (Keep.refl _ _)
  cases f <;> exact h
 | true =>
 refine (zH (p := _)).2 ?_
 refine zJ0 h.stm.mems f hk fun w1 hM1 k1 => ?_
 have h1 := h.Q8 hM1 k1
 have hL1 := hL.keep k1 (zC0 h.stm.mems)
 have hb1 := k1.has hb3 (zC0 h.stm.mems _ _ _ hb3 (Or.inr (Or.inr (Or.inr rfl))))
 have hst : ({ s with ps := { s.ps with pw := (zHy ⟨s.ss.pw, s.ps.xa, s.ps.xb⟩ f (L.flatMap zY)).pw, xa := (zHy ⟨s.ss.pw, s.ps.xa, s.ps.xb⟩ f (L.flatMap zY)).xa, xb := (zHy ⟨s.ss.pw, s.ps.xa, s.ps.xb⟩ f (L.flatMap zY)).xb } } : AS) = stA s f true L := by cases f <;> rfl
 rw [hst] at h1
 have hk1 : kT (cond f (stA s f true L).ps.xb (stA s f true L).ps.xa) L := by
  have : cond f (stA s f true L).ps.xb (stA s f true L).ps.xa = L.flatMap zY := by cases f <;> rfl
  rw [this]
  exact kT.mk hk.1
 refine T0 h1.stm.mems f hk1 fun rp rc w2 o2 k2 => zC.2 ?_
 have hlenL : L.length ≤ 65536 := by
  have hfit := h1.stm.mems.fit
  have hform := h1.stm.mems.form
  have : ((L.flatMap zY).length : Int) ≤ 65536 := by
   cases f
   ·exact Int.le_trans hfit.1 hform.2
   ·exact Int.le_trans hfit.2 hform.2
  rw [XS] at this
  omega
 have k02 : Keep (ArS q w) w w2 := ArS.trans (ArS.ofM k1) (ArS.none k2)
 have h2 := h1.zX k2
 have hL2 := hL1.keep k2 (fun _ _ _ _ _ => by simp)
 have hb2 := k2.has hb1 (by simp)
 clear hL1 hb1
 refine KC (by have := o2.cap; omega) o2.sl hkey fun w3 k3 => zM.2 ?_
 have h3 := h2.zX k3
 have hL3 := hL2.keep k3 (fun _ _ _ _ _ => by simp)
 have hb3' := k3.has hb2 (by simp)
 have o3 := o2.keep k3 (by simp)
 have k03 : Keep (ArS q w) w w3 := ArS.trans k02 (ArS.none k3)
 have hbase3 : base ≤ w3.heap.size := Nat.le_trans hbase k03.size
 clear h1 h2 hL2 hb2 k02 o2 hM1
 have hval : (decide (key = 0) || L.any fun x => decide (x.kind = 6) && decide (x.ver = key)) = uD key L := rfl
 rw [hval]
 refine zN (fun hv => ?_) (fun hv => ?_)
 ·rw [hv] at hK
  obtain ⟨Q, oQ, hQ, hr⟩ := hL3.l
  have oQ : OwnL hLay w3 base 113 lp ll lc Q := oQ
  have hsl : sl = ss.length := by have := hL3.s.length; simpa using this
  have hll : ll = ss.length := by rw [← hQ]; exact oQ.length
  refine ⟨_, _, zQ3 _ w3, zC.2 ?_⟩
  have k4 : Keep (fun _ => False) w3 (w3.alloc (.cells #[.int .i64 (zZ f)] 3)) := Keep.new _ _ _
  have hb4 : Has (w3.alloc (.cells #[.int .i64 (zZ f)] 3)) w3.heap.size (.cells #[.int .i64 (zZ f)] 3 (0, 0)) := Has.new _ _
  have o4 : OwnL iLay _ w3.heap.size 3 (some ⟨w3.heap.size, 0, none⟩) 1 1 [zZ f] := OwnL.mk (xs := [zZ f]) (Nat.le_refl _) hb4 (by simp [maxLen]) rfl
  generalize w3.alloc (.cells #[.int .i64 (zZ f)] 3) = w4 at *
  have hs4 : OwnL iLay w4 base 3 sp sl sc (ss.map zZ) := hL3.s.keep k4 (by simp)
  obtain ⟨p5, c5, w5, hr5, o5, k5, hp5⟩ := xD (P := Tryz.prog) zQv hs4 o4.sl (ty := 69) (c2 := 1) (by omega) (by simp only [maxLen]; omega) (by have := k4.size; omega)
  refine ⟨_, _, hr5, zC.2 ?_⟩
  refine ⟨_, _, zNh _ _ _ w5, zC.2 ?_⟩
  have k6 : Keep (fun _ => False) w5 (w5.alloc (.cells #[.slice rp L.length rc] 113)) := Keep.new _ _ _
  have hb6 : Has (w5.alloc (.cells #[.slice rp L.length rc] 113)) w5.heap.size (.cells #[.slice rp L.length rc] 113 (0, 0)) := Has.new _ _
  have o6 : OwnL hLay _ w5.heap.size 113 (some ⟨w5.heap.size, 0, none⟩) 1 1 [(rp, L.length, rc)] := OwnL.mk (xs := [(rp, L.length, rc)]) (Nat.le_refl _) hb6 (by simp [maxLen]) rfl
  generalize w5.alloc (.cells #[.slice rp L.length rc] 113) = w6 at *
  have nI : ∀ {i : Nat} {cs : Array Value} {t : TypeId} {fz : Nat × Nat}, Has w4 i (.cells cs t fz) → t ≠ 3 → ¬ sp = some ⟨i, 0, none⟩ := fun hi ht e => by
   obtain ⟨_, cur, hh⟩ := yI hs4 _ 0 e
   exact wH hi hh ht rfl
  have oQ5 := (oQ.keep k4 (by simp)).keep k5 fun b hb e => by
   obtain ⟨_, cur, hh⟩ := yI (oQ.keep k4 (by simp)) b 0 hb
   exact nI hh (by decide) e
  have oQ6 := oQ5.keep k6 (by simp)
  obtain ⟨p7, c7, w7, hr7, o7, k7, hp7⟩ := xD (P := Tryz.prog) zOs oQ6 o6.sl (ty := 158) (c2 := 1) (by omega) (by simp only [maxLen]; omega) (by have := (k4.size); have := k5.size; have := k6.size; omega)
  refine ⟨_, _, hr7, zC.2 ?_⟩
  have nQ : ∀ {i : Nat} {cs : Array Value} {t : TypeId} {fz : Nat × Nat}, Has w6 i (.cells cs t fz) → t ≠ 113 → ¬ lp = some ⟨i, 0, none⟩ := fun hi ht e => by
   obtain ⟨_, cur, hh⟩ := yI oQ6 _ 0 e
   exact wH hi hh ht rfl
  have h4 := h3.zX k4
  have hA : ∀ {w1 w2 : World} {S : Nat → Prop}, ArC w1 q 1 none (stA s f true L) → Keep S w1 w2 → (∀ {i : Nat} {cs : Array Value} {t : TypeId} {fz : Nat × Nat}, Has w1 i (.cells cs t fz) → t ≠ 3 → t ≠ 113 → ¬ S i) → (∀ b, q.ms = some ⟨b, 0, none⟩ → ¬ S b) → ArC w2 q 1 none (stA s f true L) := fun ha k hS hms => by
   obtain ⟨pa, la, ca, pb, lb, cb, hra, hrb, hne⟩ := ha.stm.mems.rams
   refine ⟨k.has ha.cells (hS ha.cells (by decide) (by decide)), ⟨ha.stm.set.keep k fun i hi => ?_, ha.stm.disks.keep k fun b hb => ?_, ⟨k.has (show Has _ _ _ from ha.stm.mems.main) (hS (show Has _ _ _ from ha.stm.mems.main) (by decide) (by decide)), ⟨pa, la, ca, pb, lb, cb, ⟨k.has hra.cells (hS hra.cells (by decide) (by decide)), hra.row.keep k fun b hb => ?_⟩, ⟨k.has hrb.cells (hS hrb.cells (by decide) (by decide)), hrb.row.keep k fun b hb => ?_⟩, hne⟩, ha.stm.mems.ne, ha.stm.mems.fit, ha.stm.mems.form, Nat.le_trans ha.stm.mems.low k.size⟩⟩, k.has (show Has _ _ _ from ha.desk) (hS (show Has _ _ _ from ha.desk) (by decide) (by decide)), ha.marks.keep k hms⟩
   ·intro hSi
    obtain ⟨cs, t, hc⟩ := ha.stm.set.blk hi
    by_cases h1 : t = 3
    ·subst h1
     exact absurd hi (ha.stm.set.typ hc (by decide) (by decide) (by decide))
    ·by_cases h2 : t = 113
     ·subst h2
      exact absurd hi (ha.stm.set.typ hc (by decide) (by decide) (by decide))
     ·exact hS hc h1 h2 hSi
   ·obtain ⟨_, cur, hh⟩ := yI ha.stm.disks b 0 hb
    exact hS hh (by decide) (by decide)
   ·obtain ⟨_, cur, hh⟩ := yI hra.row b 0 hb
    exact hS hh (by decide) (by decide)
   ·obtain ⟨_, cur, hh⟩ := yI hrb.row b 0 hb
    exact hS hh (by decide) (by decide)
  have h5 := hA h4 k5 (fun hi h1 h2 e => nI hi h1 e) fun b hb e => by have := hmsb b hb; have := (hs4.lt e).1; omega
  have h6 := h5.zX k6
  have h7 := hA h6 k7 (fun hi h1 h2 e => nQ hi h2 e) fun b hb e => by have := hmsb b hb; have := (oQ6.lt e).1; omega
  have b5 := k5.has (k4.has hb3' (by simp)) (nI (k4.has hb3' (by simp)) (by decide))
  have b6 := k6.has b5 (by simp)
  have b7 := k7.has b6 (nQ b6 (by decide))
  have rows : ∀ {a : Option Addr × Nat × Nat} {rs : List Rec}, SlT rLay w3 246 a.1 a.2.1 a.2.2 rs → SlT rLay w7 246 a.1 a.2.1 a.2.2 rs := fun x =>
   (((x.yA k4 (by simp)).yA k5 fun i cur hi => nI hi (by decide)).yA k6 (by simp)).yA k7 fun i cur hi => nQ hi (by decide)
  have o5' := (o5.keep k6 (by simp)).keep k7 fun b hb => by
   obtain ⟨_, cur, hh⟩ := yI (o5.keep k6 (by simp)) b 0 hb
   exact nQ hh (by decide)
  refine hK ((p5, sl + 1, c5), (p7, ll + 1, c7), zZ f + 1, ()) w7 rfl ?_ h7 b7 ?_
  ·rw [show (ss ++ if (true && true) = true then [f] else []) = ss ++ [f] by simp]
   refine ⟨by rw [List.map_append]; exact o5', Q ++ [(rp, L.length, rc)], o7, by simp [hQ], fun i a g x y => ?_⟩
   by_cases hlt : i < ss.length
   ·rw [List.getElem?_append_left (by omega)] at x
    rw [List.getElem?_append_left hlt] at y
    exact rows (hr i a g x y)
   ·rw [List.getElem?_append_right (by omega)] at x
    rw [List.getElem?_append_right (by omega)] at y
    have h0 : i - ss.length = 0 := by
     have := (List.getElem?_eq_some_iff.1 y).1
     simp at this
     omega
    rw [hQ, h0] at x
    rw [h0] at y
    cases x
    cases y
    rw [hLs]
    exact rows (a := (rp, L.length, rc)) (SlT.of o3)
  ·refine ((((k03.mono fun i e => Or.inl e).trans (k4.mono fun i e => e.elim)).trans (k5.mono fun i e => Or.inr (hs4.lt e).1)).trans (k6.mono fun i e => e.elim)).trans (k7.mono fun i e => Or.inr (oQ6.lt e).1)
 ·have hv : uD key L = false := by simpa using hv
  rw [hv] at hK
  exact hK _ w3 rfl (by rw [show (ss ++ if (true && false) = true then [f] else []) = ss by simp]; exact hL3.idx) h3 hb3' (k03.mono fun i e => Or.inl e)
def QY (key : Int) (f0 f1 : Bool) (Ls : Bool → List Rec) : List Bool := [false, true].filter fun f => cond f f1 f0 && uD key (Ls f)
def trA (s : AS) (f0 f1 : Bool) (Ls : Bool → List Rec) : AS := { s with la := false, lb := false, split := false, d := GC s.d, ps := { s.ps with pw := ⟨true, 0, s.ps.pw.steps⟩, xa := cond f0 ((Ls false).flatMap zY) s.ps.xa, xb := cond f1 ((Ls true).flatMap zY) s.ps.xb } }
def zNz (w0 : World) (q : AB) (s : AS) (f0 f1 : Bool) (Ls : Bool → List Rec) (key : Int) (b3 : Nat) (m : Nat) (st : StS) (w' : World) : Prop :=
 ∃ j : Nat, m = 2 - j ∧ st.2.2.1 = (j : Int) ∧ j ≤ 2 ∧ StL w' w0.heap.size st (([false, true].take j).filter fun f => cond f f1 f0 && uD key (Ls f)) Ls ∧ ArC w' q 1 none { s with la := false, lb := false, split := false, d := GC s.d, ps := { s.ps with pw := ⟨true, 0, s.ps.pw.steps⟩, xa := if 0 < j then cond f0 ((Ls false).flatMap zY) s.ps.xa else s.ps.xa, xb := if 1 < j then cond f1 ((Ls true).flatMap zY) s.ps.xb else s.ps.xb } } ∧ Has w' b3 (.cells #[.bool f0, .bool f1] 138 (0, 0)) ∧ Keep (ArS q w0) w0 w'
variable {R : Value → World → Prop} {pp : Option Addr}
theorem zK9 (h : ArC w q 0 pp s) {f0 f1 : Bool} (hf01 : f0 = true ∨ f1 = true) (hl0 : s.later = 0) (hkey : keyS s.ss ≤ 4294967295) {Ls : Bool → List Rec} (hA : kT s.ps.xa (Ls false)) (hB : kT s.ps.xb (Ls true)) (hmsb : ∀ b, q.ms = some ⟨b, 0, none⟩ → b < w.heap.size)
  (hE : QY (keyS s.ss) f0 f1 Ls = [] → ∀ w', ArC w' q 0 none (trA s f0 f1 Ls) → Keep (ArS q w) w w' → R (.int .i64 13) w')
  (hR : QY (keyS s.ss) f0 f1 Ls ≠ [] → ∀ w1 sp sl sc lp ll lc Q, sl ≤ 2 → ll ≤ 2 → RvL w1 sp sl sc (QY (keyS s.ss) f0 f1 Ls) lp ll lc Q ((QY (keyS s.ss) f0 f1 Ls).map Ls) → ArC w1 q 1 none (trA s f0 f1 Ls) → Keep (ArS q w) w w1 → w.heap.size ≤ w1.heap.size →
   zB Tryz.prog 91 #[.pointer (some ⟨q.a, 0, none⟩), .int .u32 (keyS s.ss), .agg #[.bool f0, .bool f1], .slice sp sl sc, .slice lp ll lc] w1 fun v20 w => OpI .i64 v20 fun n4 => xG Tryz.prog 76 #[.pointer (some ⟨q.a, 0, none⟩)] w fun w => R (.int .i64 n4) w) :
  zB Tryz.prog 21 #[.pointer (some ⟨q.a, 0, none⟩), .bool f0, .bool f1] w R := by
 apply XH
 unfold jI
 have hkn := zG4 s.ss
 refine ⟨fun st w' => st.1 = false ∧ w' = w, ?_, ?_⟩
 ·cases f0 with
  | true => exact (zH (p := _)).2 ⟨rfl, rfl⟩
  | false =>
   have : f1 = true := by rcases hf01 with h | h; cases h; exact h
   subst this
   exact (zT (q := _)).2 ⟨rfl, rfl⟩
 rintro _ ⟨g0, u0⟩ w0 ⟨hg0, rfl⟩
 simp only at hg0 ⊢
 subst hg0
 refine (zH (p := _)).2 ?_
 refine zK4 h fun w1 h1 k1 => ?_
 have kA : ∀ {w1 w2 : World} {x : Obj}, Keep (ArS q w0) w0 w1 → w2 = w1.upd q.a x → Keep (ArS q w0) w0 w2 := fun k e => by subst e; exact ArS.trans k (ArS.ofA (Keep.one _ _ _))
 have k01 : Keep (ArS q w0) w0 w1 := ArS.ofA k1
 refine ⟨fun _ w' => ArC w' q 1 none { s with la := false, lb := false, split := false } ∧ Keep (ArS q w0) w0 w', ?_, ?_⟩
 ·intro d
  have kd := Keep.drew (fun _ => False) w1 d
  have h2 := h1.zX kd
  have k02 := ArS.trans k01 (ArS.none kd)
  generalize w1.dr d = w2 at *
  refine ⟨fun _ => True, trivial, by decide, ?_⟩
  refine xZ h2.cells (by show 13 < 21; decide) rfl ⟨trivial, by decide, ?_⟩
  have h3 := h2.put (lk' := 1) (pp' := pp) (s' := { s with la := false }) rfl ⟨rfl, rfl⟩ rfl rfl
  have k03 := kA (x := .cells (arCp q 1 pp { s with la := false }) 143 (0, 0)) k02 rfl
  have e3 : (arCp q 1 pp s).setIfInBounds (13 + Int.toNat 0 * 2) (.bool false) = arCp q 1 pp { s with la := false } := rfl
  rw [e3]
  generalize w2.upd q.a _ = w3 at *
  refine xZ h3.cells (by show 15 < 21; decide) rfl ⟨trivial, ?_⟩
  have h4 := h3.put (lk' := 1) (pp' := pp) (s' := { s with la := false, lb := false }) rfl ⟨rfl, rfl⟩ rfl rfl
  have k04 := kA (x := .cells (arCp q 1 pp { s with la := false, lb := false }) 143 (0, 0)) k03 rfl
  have e4 : (arCp q 1 pp { s with la := false }).setIfInBounds (13 + Int.toNat 1 * 2) (.bool false) = arCp q 1 pp { s with la := false, lb := false } := rfl
  rw [e4]
  generalize w3.upd q.a _ = w4 at *
  refine xZ h4.cells (by show 9 < 21; decide) rfl ⟨trivial, ?_⟩
  have h5 := h4.put (lk' := 1) (pp' := none) (s' := { s with la := false, lb := false }) rfl ⟨rfl, rfl⟩ rfl rfl
  have k05 := kA (x := .cells (arCp q 1 none { s with la := false, lb := false }) 143 (0, 0)) k04 rfl
  have e5 : (arCp q 1 pp { s with la := false, lb := false }).setIfInBounds 9 (.pointer none) = arCp q 1 none { s with la := false, lb := false } := rfl
  rw [e5]
  generalize w4.upd q.a _ = w5 at *
  refine xZ h5.cells (by show 17 < 21; decide) rfl ⟨trivial, ?_⟩
  have h6 := h5.put (lk' := 1) (pp' := none) (s' := { s with la := false, lb := false, split := false }) rfl ⟨rfl, rfl⟩ rfl rfl
  have k06 := kA (x := .cells (arCp q 1 none { s with la := false, lb := false, split := false }) 143 (0, 0)) k05 rfl
  have e6 : (arCp q 1 none { s with la := false, lb := false }).setIfInBounds 17 (.bool false) = arCp q 1 none { s with la := false, lb := false, split := false } := rfl
  rw [e6]
  exact ⟨h6, k06⟩
 clear h1 k1 k01 kA h
 rintro _ _ w2 ⟨h2, k02⟩
 refine zG (v := .pointer (some ⟨q.dk, 0, none⟩)) h2.cells rfl (zO.2 ?_)
 refine zM7 h2.desk fun w3 d3 k3 => ?_
 have h3 := h2.zPc d3 k3
 have k03 := ArS.trans k02 (k3.mono fun i e => Or.inr e)
 clear h2 k02 k3 d3
 refine zG (v := .pointer (some ⟨q.pb.m, 0, none⟩)) h3.cells rfl (zO.2 ?_)
 refine zD7 h3.stm.mems.main fun w4 m4 k4 z4 => ?_
 have hm4 : MemsAt w4 q.mb ⟨⟨true, 0, s.ps.pw.steps⟩, s.ps.xa, s.ps.xb⟩ := h3.stm.mems.pow k4 (fun i _ e => e) m4
 have h4 := h3.Q8 hm4 (k4.mono fun i e => Or.inl e)
 have k04 := ArS.trans k03 (ArS.ofM (k4.mono fun i e => Or.inl e))
 have h4 : ArC w4 q 1 none { s with la := false, lb := false, split := false, d := GC s.d, ps := { s.ps with pw := ⟨true, 0, s.ps.pw.steps⟩ } } := h4
 clear h3 k03 k4 m4 hm4
 refine zG (v := .int .i64 s.later) h4.cells rfl (zA.2 ?_)
 rw [hl0]
 refine ⟨fun _ w' => w' = w4, (zH (p := _)).2 rfl, ?_⟩
 rintro _ _ w5 rfl
 refine xO (cs := setV q.g q.sp q.g.d.toNat q.sc) h4.cells (by show 3 + 4 ≤ 21; decide) (OE q 1 none _) ?_
 refine zKs (q := q.sb) h4.stm.set h4.stm.disks.sl h4.stm.disks.cap.1 fun w6 k6 => zA.2 ?_
 have h6 := h4.zX k6
 have k06 := ArS.trans k04 (ArS.none k6)
 clear h4 k04 k6
 have hks : keyS (AS.ss { s with la := false, lb := false, split := false, d := GC s.d, ps := { s.ps with pw := ⟨true, 0, s.ps.pw.steps⟩ } }) = keyS s.ss := rfl
 rw [hks]
 generalize hkk : keyS s.ss = key at *
 refine zV (v := .agg #[.bool f0, .bool f1]) (fun _ => run_build _ _ _ _ (by kernel_rfl)) (zJ.2 ⟨rfl, ?_⟩)
 refine yN (by kernel_rfl) rfl (by intro v hv; simp only [List.mem_cons, List.not_mem_nil, or_false] at hv; rcases hv with rfl | rfl <;> rfl) fun w7 hb7 k7 z7 => ?_
 have h7 := h6.zX k7
 have k07 := ArS.trans k06 (ArS.none k7)
 have hlow7 : w0.heap.size ≤ w6.heap.size := k06.size
 clear h6 k06 k7
 generalize w6.heap.size = b3 at *
 refine xO (cs := #[.pointer (some ⟨q.pb.a, 0, none⟩), .pointer (some ⟨q.pb.b, 0, none⟩)]) h7.cells (by show 7 + 2 ≤ 21; decide) (zNt q 1 none _) ?_
 have hz7 : w0.heap.size ≤ w7.heap.size := k07.size
 have kk : ∀ {w1 w2 : World}, Keep (ArS q w0) w0 w1 → Keep (fun i => ArS q w1 i ∨ w0.heap.size ≤ i) w1 w2 → Keep (ArS q w0) w0 w2 := fun {w1 w2} ka kb => ka.trans' kb fun i hi e => Classical.byContradiction fun hn => by
  rcases e with e | e
  ·rcases e with (e | e | e | e | e | e | e | ⟨hb, cs, hc⟩) | e
   ·exact hn (Or.inl (Or.inl e))
   ·exact hn (Or.inl (Or.inr (Or.inl e)))
   ·exact hn (Or.inl (Or.inr (Or.inr (Or.inl e))))
   ·exact hn (Or.inl (Or.inr (Or.inr (Or.inr (Or.inl e)))))
   ·exact hn (Or.inl (Or.inr (Or.inr (Or.inr (Or.inr (Or.inl e))))))
   ·exact hn (Or.inl (Or.inr (Or.inr (Or.inr (Or.inr (Or.inr (Or.inl e)))))))
   ·exact hn (Or.inl (Or.inr (Or.inr (Or.inr (Or.inr (Or.inr (Or.inr (Or.inl e))))))))
   ·exact hn (Or.inl (Or.inr (Or.inr (Or.inr (Or.inr (Or.inr (Or.inr (Or.inr ⟨hb, cs, (ka.block i hi hn).symm.trans hc⟩))))))))
   ·exact hn (Or.inr e)
  ·omega
 refine ⟨zNz w0 q s f0 f1 Ls key b3, ⟨2, 0, rfl, rfl, by decide, ⟨OwnL.nil, [], OwnL.nil, rfl, fun i a f x => by simp at x⟩, h7, hb7, k07⟩, ?_⟩
 clear h7 hb7 k07
 rintro _ m st w8 ⟨j, hm, hi, hj, hL8, h8, hb8, k08⟩
 have hz8 : w0.heap.size ≤ w8.heap.size := k08.size
 have hj3 : j = 0 ∨ j = 1 ∨ j = 2 := by omega
 obtain ⟨⟨sp, sl, sc⟩, ⟨lp, ll, lc⟩, i, u⟩ := st
 simp only at hi ⊢
 subst hi
 rcases hj3 with rfl | rfl | rfl
 ·refine (zT (q := _)).2 ⟨by decide, ⟨.pointer (some ⟨q.pb.a, 0, none⟩), rfl, zO.2 ?_⟩⟩
  show StT b3 key ((sp, sl, sc), (lp, ll, lc), ((0 : Nat) : Int), u) (ramM q.mb false) 0 w8 fun s' w' => ∃ m', m' < m ∧ zNz w0 q s f0 f1 Ls key b3 m' s' w'
  refine H5 (f := false) (g := f0) (L := Ls false) (Ls := Ls) (key := key) (base := w0.heap.size) (bs := #[.bool f0, .bool f1]) (st := ((sp, sl, sc), (lp, ll, lc), ((0 : Nat) : Int), u)) h8 hA rfl ⟨hkn, hkey⟩ hb8 rfl rfl (by simp) hL8 hz8 hmsb fun st' w9 hi9 hL9 h9 hb9 k9 => ?_
  refine ⟨1, by omega, 1, rfl, hi9, by decide, ?_, ?_, hb9, kk k08 k9⟩
  ·have : (([false, true].take 0).filter fun f => cond f f1 f0 && uD key (Ls f)) ++ (if (f0 && uD key (Ls false)) = true then [false] else []) = (([false, true].take 1).filter fun f => cond f f1 f0 && uD key (Ls f)) := by
    show [] ++ _ = List.filter _ [false]
    rw [List.filter_cons]
    simp
   rw [← this]
   exact hL9
  ·have e : stA { s with la := false, lb := false, split := false, d := GC s.d, ps := { s.ps with pw := ⟨true, 0, s.ps.pw.steps⟩, xa := if 0 < 0 then cond f0 ((Ls false).flatMap zY) s.ps.xa else s.ps.xa, xb := if 1 < 0 then cond f1 ((Ls true).flatMap zY) s.ps.xb else s.ps.xb } } false f0 (Ls false) = { s with la := false, lb := false, split := false, d := GC s.d, ps := { s.ps with pw := ⟨true, 0, s.ps.pw.steps⟩, xa := if 0 < 1 then cond f0 ((Ls false).flatMap zY) s.ps.xa else s.ps.xa, xb := if 1 < 1 then cond f1 ((Ls true).flatMap zY) s.ps.xb else s.ps.xb } } := by
    unfold stA
    cases f0 <;> rfl
   rw [← e]
   exact h9
 ·refine (zT (q := _)).2 ⟨by decide, ⟨.pointer (some ⟨q.pb.b, 0, none⟩), rfl, zO.2 ?_⟩⟩
  show StT b3 key ((sp, sl, sc), (lp, ll, lc), ((1 : Nat) : Int), u) (ramM q.mb true) 0 w8 fun s' w' => ∃ m', m' < m ∧ zNz w0 q s f0 f1 Ls key b3 m' s' w'
  refine H5 (f := true) (g := f1) (L := Ls true) (Ls := Ls) (key := key) (base := w0.heap.size) (bs := #[.bool f0, .bool f1]) (st := ((sp, sl, sc), (lp, ll, lc), ((1 : Nat) : Int), u)) h8 hB rfl ⟨hkn, hkey⟩ hb8 rfl rfl (Nat.le_trans (List.length_filter_le _ _) (by simp)) hL8 hz8 hmsb fun st' w9 hi9 hL9 h9 hb9 k9 => ?_
  refine ⟨0, by omega, 2, rfl, hi9, by decide, ?_, ?_, hb9, kk k08 k9⟩
  ·have : (([false, true].take 1).filter fun f => cond f f1 f0 && uD key (Ls f)) ++ (if (f1 && uD key (Ls true)) = true then [true] else []) = (([false, true].take 2).filter fun f => cond f f1 f0 && uD key (Ls f)) := by
    show List.filter _ [false] ++ _ = List.filter _ ([false] ++ [true])
    rw [List.filter_append]
    congr 1
    rw [List.filter_cons]
    simp
   rw [← this]
   exact hL9
  ·have e : stA { s with la := false, lb := false, split := false, d := GC s.d, ps := { s.ps with pw := ⟨true, 0, s.ps.pw.steps⟩, xa := if 0 < 1 then cond f0 ((Ls false).flatMap zY) s.ps.xa else s.ps.xa, xb := if 1 < 1 then cond f1 ((Ls true).flatMap zY) s.ps.xb else s.ps.xb } } true f1 (Ls true) = { s with la := false, lb := false, split := false, d := GC s.d, ps := { s.ps with pw := ⟨true, 0, s.ps.pw.steps⟩, xa := if 0 < 2 then cond f0 ((Ls false).flatMap zY) s.ps.xa else s.ps.xa, xb := if 1 < 2 then cond f1 ((Ls true).flatMap zY) s.ps.xb else s.ps.xb } } := by
    unfold stA
    cases f1 <;> rfl
   rw [← e]
   exact h9
 refine (zH (p := _)).2 ?_
 have h8 : ArC w8 q 1 none (trA s f0 f1 Ls) := h8
 have hL8 : StL w8 w0.heap.size ((sp, sl, sc), (lp, ll, lc), ((2 : Nat) : Int), u) (QY key f0 f1 Ls) Ls := hL8
 have hsl : sl = (QY key f0 f1 Ls).length := by have := hL8.s.length; simpa using this
 obtain ⟨Q, hrv⟩ := hL8.rv
 have hll : ll = (QY key f0 f1 Ls).length := by
  have h1 := hrv.l.len
  have h2 := hrv.q
  rw [List.length_map] at h2
  exact h1.trans h2
 have hl2 : (QY key f0 f1 Ls).length ≤ 2 := Nat.le_trans (List.length_filter_le _ _) (by simp)
 refine zN (fun hc => ?_) (fun hc => ?_)
 ·have hc : sl = 0 := by simp at hc; omega
  have he : QY key f0 f1 Ls = [] := List.length_eq_zero_iff.1 (by omega)
  refine zDq h8 fun w9 h9 k9 => hE he w9 h9 (ArS.trans k08 (ArS.ofA k9))
 ·have hc : sl ≠ 0 := by simp at hc; omega
  refine zQ hb8 rfl ?_
  exact hR (fun e => by rw [e] at hsl; exact hc hsl) w8 sp sl sc lp ll lc Q (by omega) (by omega) hrv h8 k08 hz8
end calls
end Go.Proofs
namespace Go.Proofs
open Go Go.Ev
set_option maxRecDepth 100000
section calls
variable {w : World} {q : AB} {lk : Int} {s : AS} {R : Value → World → Prop}
theorem zHb (h : ArAt w q lk s) (f : Bool) {lba : Int} {d : Sec} (Iv Bad : AS → Prop) (h0 : Iv s)
  (hout : ∀ (s1 : AS) (w1 : World) (R1 : Value → World → Prop), Iv s1 → ArAt w1 q lk s1 → (getV s1.ps.es lba).2.2 ≠ 0 → q.pb.room ≤ (s1.ps.es.length : Int) → (∀ e s2 w2, ArAt w2 q lk s2 → Keep (ArF q w1) w1 w2 → (e = 0 ∧ Iv s2 ∧ s2.ps.es.length < s1.ps.es.length ∨ e ≠ 0 ∧ Bad s2) → R1 (.int .i64 e) w2) →
   zB Tryz.prog 84 #[.pointer (some ⟨q.a, 0, none⟩), .int .i64 (zZ f)] w1 R1)
  (hr : ∀ s1, Iv s1 → ∀ g, upA s1 g = true → 64 ≤ (q.pb.sz - ((xsA s1.ps g).length : Int)) / 37)
  (hK : ∀ s1 w', Iv s1 → ((getV s1.ps.es lba).2.2 = 0 ∨ (s1.ps.es.length : Int) < q.pb.room) → ArAt w' q lk { s1 with ps := (putP q.pb.room q.pb.sz s1.ps f lba d).2 } → Keep (ArF q w) w w' → R (.int .i64 (putP q.pb.room q.pb.sz s1.ps f lba d).1.2) w')
  (hB : ∀ e s2 w', e ≠ 0 → Bad s2 → ArAt w' q lk s2 → Keep (ArF q w) w w' → R (.int .i64 e) w') :
  zB Tryz.prog 82 #[.pointer (some ⟨q.a, 0, none⟩), .int .i64 (zZ f), .int .i64 lba, .agg (secV d)] w R := by
 apply V3
 unfold qZ
 refine zK fun w1 hb1 k1 z1 => ?_
 refine ⟨fun m _ w' => ∃ s', s'.ps.es.length = m ∧ Iv s' ∧ ArAt w' q lk s' ∧ Has w' w.heap.size (.cells (secV d) 37 (0, 0)) ∧ Keep (ArF q w) w w', ⟨_, s, rfl, h0, h.zX k1, hb1, ArF.none k1⟩, ?_⟩
 clear h0 hb1
 rintro _ m _ w2 ⟨s', hm, hv, h2, hb2, k02⟩
 refine zG (v := .pointer (some ⟨q.pb.p, 0, none⟩)) h2.cells rfl (zO.2 ?_)
 refine zBh h2.pair fun w3 k3 => LS.2 (zJ.2 ⟨rfl, zA.2 (zA.2 ?_)⟩)
 refine yN (by rw [vQ]; rfl) rfl (yS _) fun w5 hb5 k5 z5 => ?_
 have k25 := k3.trans k5
 have h5 := h2.zX k25
 have hbd := k25.has hb2 (by simp)
 have k05 := ArF.trans k02 (ArF.none k25)
 refine ⟨fun st w' => (∃ dd, w' = w5.dr dd) ∧ (st.1 = true → ((getV s'.ps.es lba).2.2 = 0 ∨ (s'.ps.es.length : Int) < q.pb.room)) ∧ (st.1 = false → (getV s'.ps.es lba).2.2 ≠ 0 ∧ q.pb.room ≤ (s'.ps.es.length : Int)), ?_, ?_⟩
 ·refine zN (fun hc => ⟨⟨w5.drawn, rfl⟩, fun _ => Or.inl (by simpa using hc), fun e => by cases e⟩) (fun hc => ?_)
  have hc : ¬ (getV s'.ps.es lba).2.2 = 0 := by simpa using hc
  refine zG (v := .pointer (some ⟨q.pb.p, 0, none⟩)) h5.cells rfl (zO.2 ?_)
  refine zF8 h5.pair fun dd => zM.2 ⟨⟨dd, rfl⟩, fun e => Or.inr ?_, fun e => ⟨hc, ?_⟩⟩
  ·simp at e; omega
  ·simp at e; omega
 rintro _ ⟨g, u⟩ w6 ⟨⟨dd, rfl⟩, hT, hF⟩
 have h6 := h5.zX (Keep.drew _ w5 dd)
 have hb6 : Has (w5.dr dd) w.heap.size (.cells (secV d) 37 (0, 0)) := hbd
 have k06 := ArF.trans k05 (ArF.none (Keep.drew _ w5 dd))
 generalize w5.dr dd = w6 at *
 refine zN (fun hg => ?_) (fun hg => ?_)
 ·refine G0 h6 (hr s' hv) fun w7 k7 => zA.2 ((zH (p := _)).2 fun d2 => ?_)
  have k7 := k7.dr d2
  have h7 := h6.zX k7
  have hb7 : Has (w7.dr d2) w.heap.size (.cells (secV d) 37 (0, 0)) := k7.has hb6 (by simp)
  have k07 := ArF.trans k06 (ArF.none k7)
  generalize w7.dr d2 = w8 at *
  refine ⟨fun _ => True, trivial, ?_⟩
  refine zG (v := .pointer (some ⟨q.pb.p, 0, none⟩)) h7.cells rfl (zO.2 ?_)
  refine zQ hb7 rfl ?_
  refine zP7 h7.pair f fun w9 hp k9 => yM.2 (zA.2 (zA.2 ⟨trivial, zF.2 ?_⟩))
  exact hK s' w9 hv (hT hg) (h7.gI hp k9) (ArF.trans k07 (k9.mono fun i e => yE.arF e))
 ·obtain ⟨f1, f2⟩ := hF hg
  refine hout s' w6 _ hv h6 f1 f2 fun e s2 w7 h7 k7 hor => zA.2 ?_
  have k07 := ArF.trans k06 k7
  have hb7 := k7.has hb6 (ArF.not h6 hb6 (by decide) (by decide) (by decide) (by decide) (by decide) (by decide) (by decide))
  rcases hor with ⟨he, hv2, hlt⟩ | ⟨he, hbad⟩
  ·subst he
   exact (zH (p := _)).2 ⟨_, by rw [← hm]; exact hlt, s2, rfl, hv2, h7, hb7, k07⟩
  ·have e3 : (e != 0) = true := by simpa using he
   rw [e3]
   exact (zT (q := _)).2 (zF.2 (hB e s2 w7 he hbad h7 k07))
end calls
end Go.Proofs
namespace Go.Proofs
open Go Go.Ev Go.RowKit
set_option maxRecDepth 100000
section calls
variable {w : World} {R : Value → World → Prop}
theorem YU {w w' : World} {q : AB} {lk : Int} {s : AS} (h : ArAt w q lk s) (k : Keep (ArF q w) w w') {b : Nat} {p : Option Addr} {l c : Nat} {xs : List Sec} (o : OwnL yG w b 37 p l c xs) : OwnL yG w' b 37 p l c xs :=
 o.keep k fun b hb => by
  obtain ⟨_, cur, hh⟩ := yI o b 0 hb
  exact ArF.not h hh (by decide) (by decide) (by decide) (by decide) (by decide) (by decide) (by decide)
end calls
theorem zBx {cap init : Int} {c : Cmd} (hk : c.k = 2 ∨ c.k = 3) (h1 : 1 ≤ cntC c) (h2 : cntC c ≤ 8) (h3 : 0 ≤ c.lba) (h4 : c.lba + cntC c ≤ cap) (h5 : 0 ≤ init ∧ init < 16) : (gN dk0 cap init c).2 = false := by
 unfold gN
 have e : cdE c cap = 0 := by
  unfold cdE
  rw [if_neg (by omega), if_neg (by omega)]
 rw [if_neg (by rw [e]; omega), if_neg (by omega)]
 show (!mayD dk0 init (decide (c.k = 3))) = false
 have : mayD dk0 init (decide (c.k = 3)) = true := by
  unfold mayD
  rw [if_neg (by unfold inD; omega)]
  rfl
 rw [this]; rfl
section wr
variable {w : World} {q : AB} {s : AS} {R : Value → World → Prop} {k ph : Nat} {left S A L : Int} {fin : Int → Sec}
end wr
def nowA (n : Nat) (now : Int → Sec) : List Sec := (List.range n).map fun (k : Nat) => now (k : Int)
theorem QF (n : Nat) (now : Int → Sec) : (nowA n now).length = n := by simp [nowA]
theorem Q9 {n k : Nat} (h : k < n) (now : Int → Sec) : (nowA n now)[k]? = some (now (k : Int)) := by
 simp [nowA, h]
theorem zIv {n k : Nat} (now : Int → Sec) (f : Sec) : (nowA n now).set k f = nowA n (upd now (k : Int) f) := by
 apply List.ext_getElem?
 intro i
 by_cases hi : i < n
 ·by_cases e : k = i
  ·subst e
   rw [List.getElem?_set_self (by rw [QF]; exact hi), Q9 hi]
   unfold upd
   rw [if_pos rfl]
  ·rw [List.getElem?_set_ne e, Q9 hi, Q9 hi]
   unfold upd
   rw [if_neg (by omega)]
 ·rw [List.getElem?_eq_none (by rw [List.length_set, QF]; omega), List.getElem?_eq_none (by rw [QF]; omega)]
theorem zFj (n : Nat) : List.replicate n (sec []) = nowA n now0 := by
 apply List.ext_getElem?
 intro i
 by_cases hi : i < n
 ·rw [Q9 hi, List.getElem?_replicate, if_pos hi]; rfl
 ·rw [List.getElem?_eq_none (by simp; omega), List.getElem?_eq_none (by rw [QF]; omega)]
section law
variable {q0 : AB} {g : Geo} {k n N0 B : Nat} {p : Option Addr} {b : Nat} {w0 w : World} {ph : Nat} {left S A L : Int} {R : Value → World → Prop}
end law
theorem zEq (w : World) {n : Nat} (hn : n ≤ 20000) : ∃ w', (Instr.makeSlice 32 (.int .i64 (n : Int)) (.int .i64 (n : Int))).run Tryz.prog w = .ok (.slice (some ⟨w.heap.size, 0, none⟩) n n) w' ∧ OwnL yG w' w.heap.size 37 (some ⟨w.heap.size, 0, none⟩) n n (List.replicate n (sec [])) ∧ Keep (fun _ => False) w w' ∧ w'.heap.size = w.heap.size + 1 :=
 gC (P := Tryz.prog) (L := yG) (x0 := sec []) (t := 32) (e := 37) (i := (Tryz.prog.info? 37).get (by kernel_rfl)) (z := ((Tryz.prog.info? 37).get (by kernel_rfl)).zero.get (by kernel_rfl)) w (by kernel_rfl) (by kernel_rfl) (by kernel_rfl) (by kernel_rfl) (by kernel_rfl) n
  (by show n * 16 ≤ _; omega) (by have : ((Tryz.prog.info? 37).get (by kernel_rfl)).bytes = 16 := by kernel_rfl
                                  rw [this]; omega) (by simp only [maxLen]; omega)
theorem evS (v : Sec) : (yG.row v).toArray = secV v := by simp [yG]
section calls
variable {w : World} {R : Value → World → Prop}
end calls
structure WaI (q : AB) (s0 : AS) (ep x y S A L : Int) (fin : Int → Sec) (s : AS) : Prop where
 qv : Qv q s fin ep x y
 jn : Jn s ep
 dn : Downs s0 s
 room : (s.ps.es.length : Int) ≤ q.pb.room
 steps : s.ps.pw.steps ≤ S
 a : (s.ps.xa.length : Int) ≤ A
 b : (s.ps.xb.length : Int) ≤ A
 last : s.ps.last ≤ L
 like : Like s0 s
 dead : ∀ i, xN s.ss i = xN s0.ss i
 keq : ∀ i : Nat, (s.ds.getD i dsk0).key = (s0.ds.getD i dsk0).key
structure Use (s0 : AS) (ep : Int) (f : Bool) : Prop where
 up : (cond f s0.ps.ub s0.ps.ua) = true
 epo : epA s0 f = ep
 live : gJ s0 f = true
 alone : upA s0 (!f) = false ∨ (gJ s0 (!f) = true ∧ s0.split = false)
 ep0 : 0 ≤ ep
section plain
variable {q : AB} {s0 s : AS} {ep x y S A L : Int} {fin : Int → Sec} {f : Bool}
theorem Downs.trans {s1 s2 s3 : AS} (h : Downs s1 s2) (k : Downs s2 s3) (hu : s2.ps.ua = s1.ps.ua ∧ s2.ps.ub = s1.ps.ub) : Downs s1 s3 :=
 ⟨fun e => (k.a (by rw [hu.1]; exact e)).trans (h.a e), fun e => (k.b (by rw [hu.2]; exact e)).trans (h.b e)⟩
theorem WaI.mono (h : WaI q s0 ep x y S A L fin s) {S' A' L' : Int} (h1 : S ≤ S') (h2 : A ≤ A') (h3 : L ≤ L') : WaI q s0 ep x y S' A' L' fin s :=
 ⟨h.qv, h.jn, h.dn, h.room, Int.le_trans h.steps h1, Int.le_trans h.a h2, Int.le_trans h.b h2, Int.le_trans h.last h3, h.like, h.dead, h.keq⟩
theorem WaI.ready (h : WaI q s0 ep x y S A L fin s) (u : Use s0 ep f) : vM s f = true := h.qv.ready (by rw [h.like.T7]; exact u.live) (by rw [h.like.ep, u.epo]; exact Int.le_refl _) u.ep0
theorem WaI.alone (h : WaI q s0 ep x y S A L fin s) (u : Use s0 ep f) : upA s (!f) = false ∨ (gJ s (!f) = true ∧ s.split = false) := by
 rw [h.like.upA, h.like.T7, h.like.split]; exact u.alone
theorem WaI.zEv (h : WaI q s0 ep x y S A L fin s) (hz : q.pb.sz = 65536) (hA : A ≤ 60000) (g : Bool) : 64 ≤ (q.pb.sz - ((xsA s.ps g).length : Int)) / 37 := by
 have ha := h.a
 have hb := h.b
 rw [hz]
 cases g
 ·show 64 ≤ ((65536 : Int) - (s.ps.xa.length : Int)) / 37; omega
 ·show 64 ≤ ((65536 : Int) - (s.ps.xb.length : Int)) / 37; omega
theorem WaI.out (h : WaI q s0 ep x y S A L fin s) (u : Use s0 ep f) (hz : q.pb.sz = 65536) (hS : S ≤ 1000000) (hA : A ≤ 60000) (hL : L ≤ 1000000) (hcap : yV q.g ≤ 100000) {p : Int × Ent} (hp : p ∈ s.ps.es) :
  (outA q s f p).1 = 0 ∧ WaI q s0 ep x y (S + 15) (A + 444) (L + 1) fin (outA q s f p).2 ∧ (outA q s f p).2.ps.es = del s.ps.es p.1 := by
 have h1 := h.steps
 have h2 := h.a
 have h3 := h.b
 have h4 := h.last
 have hep : epA s f = ep := by rw [h.like.ep]; exact u.epo
 have hlu := qD s.ps f
 obtain ⟨p1, p2, p3, p4, p5, p6⟩ := h.qv.out (f := f) hep hp (by omega) (by omega) (by rw [hz]; omega) (by rw [hz]; omega)
 obtain ⟨j1, j2⟩ := outJ (f := f) h.qv h.jn hep hp (by omega) (by omega) (by rw [hz]; omega) (by rw [hz]; omega) hcap
 have c1 := p3.steps
 have c2 := p3.a
 have c3 := p3.b
 have c4 := p3.last
 refine ⟨p1, ⟨p2, j1, h.dn.trans j2 ⟨h.like.ua, h.like.ub⟩, ?_, by omega, by omega, by omega, by omega, ⟨by rw [p3.up.1]; exact h.like.ua, by rw [p3.up.2]; exact h.like.ub, ?_⟩, fun i => (p5.dead i).trans (h.dead i), fun i => (p5.keq i).trans (h.keq i)⟩, p4⟩
 ·rw [p4]
  have := zGx hp
  have := h.room
  omega
 ·have := h.like.rest
  generalize outA q s f p = z at *
  rw [p6, this]
theorem KO {es : List (Int × Ent)} {l : Int} {e v : Ent} (hm : zS es l = some e) : (ins es l v).length = es.length := by
 unfold ins
 rw [if_pos (by rw [List.any_eq_true]
                unfold zS at hm
                rw [Option.map_eq_some_iff] at hm
                obtain ⟨r, hr1, _⟩ := hm
                exact ⟨r, List.mem_of_find?_eq_some hr1, by simpa using List.find?_some hr1⟩)]
 simp
theorem WaI.put (h : WaI q s0 ep x y S A L fin s) (u : Use s0 ep f) (hz : q.pb.sz = 65536) (hS : S ≤ 1000000) (hA : A ≤ 60000) (hL : L ≤ 1000000) (hcap : yV q.g ≤ 100000) {lba : Int} {d : Sec} (hd : yD d) (h0 : 0 ≤ lba) (h1 : lba < yV q.g) (hr : (getV s.ps.es lba).2.2 = 0 ∨ (s.ps.es.length : Int) < q.pb.room) :
  (putP q.pb.room q.pb.sz s.ps f lba d).1.2 = 0 ∧ WaI q s0 ep x y (S + 2) (A + 74) (L + 1) (upd fin lba d) { s with ps := (putP q.pb.room q.pb.sz s.ps f lba d).2 } := by
 have e1 := h.steps
 have e2 := h.a
 have e3 := h.b
 have e4 := h.last
 have hlu := qD s.ps f
 have hroom : zS s.ps.es lba = none → (s.ps.es.length : Int) < q.pb.room := fun hn => by
  rcases hr with hr | hr
  ·unfold getV at hr
   rw [hn] at hr
   exact absurd hr (by decide)
  ·exact hr
 have hup : (cond f s.ps.ub s.ps.ua) = true := by rw [h.like.ua, h.like.ub]; exact u.up
 obtain ⟨p1, p2, p3, p4⟩ := h.qv.put (f := f) hd h0 h1 hup hroom (by omega) (by omega) (by rw [hz]; omega) (by rw [hz]; omega) hcap
 obtain ⟨j1, j2⟩ := putJ (f := f) h.qv h.jn hd h0 h1 hup hroom (by omega) (by omega) (by rw [hz]; omega) (by rw [hz]; omega) hcap
 have c1 := p3.steps
 have c2 := p3.a
 have c3 := p3.b
 have c4 := p3.last
 refine ⟨p1, ⟨p2, j1, h.dn.trans j2 ⟨h.like.ua, h.like.ub⟩, ?_, by rw [c1]; omega, by omega, by omega, by rw [c4]; omega, ⟨by rw [p3.up.1]; exact h.like.ua, by rw [p3.up.2]; exact h.like.ub, ?_⟩, h.dead, h.keq⟩⟩
 ·show ((putP q.pb.room q.pb.sz s.ps f lba d).2.es.length : Int) ≤ _
  rw [p4]
  cases hm : zS s.ps.es lba with
  | none =>
   have := hroom hm
   rw [zJ3 hm]
   simp
   omega
  | some e =>
   rw [KO hm]
   exact h.room
 ·have := h.like.rest
  generalize putP q.pb.room q.pb.sz s.ps f lba d = z at *
  rw [this]
end plain
section calls
variable {w : World} {R : Value → World → Prop} {q : AB} {s0 s : AS} {ep x y S A L : Int} {fin : Int → Sec} {f : Bool}
theorem WaI.outC (hR : WaI q s0 ep x y S A L fin s) (u : Use s0 ep f) (hz : q.pb.sz = 65536) (hroom : q.pb.room ≤ 64) (hA : A ≤ 60000) (hS : S ≤ 1000000) (hL : L ≤ 1000000) (hcap : yV q.g ≤ 100000) {lk : Int} (h : ArAt w q lk s) (hne : s.ps.es ≠ [])
  (hK : ∀ p w', p ∈ s.ps.es → ArAt w' q lk (outA q s f p).2 → Keep (ArF q w) w w' → WaI q s0 ep x y (S + 15) (A + 444) (L + 1) fin (outA q s f p).2 → (outA q s f p).2.ps.es = del s.ps.es p.1 → R (.int .i64 0) w') :
  zB Tryz.prog 84 #[.pointer (some ⟨q.a, 0, none⟩), .int .i64 (zZ f)] w R := by
 obtain ⟨now, hg, _⟩ := hR.qv.good
 have hr2 := hR.room
 refine zNs h hg.ss.ok f (by omega) hne (fun e he => ?_) (fun g _ => hR.zEv hz hA g) fun p w' hp _ h' k' => ?_
 ·obtain ⟨e1, e2, _⟩ := hR.qv.es e.1 e.2 (QD hR.qv.nd he)
  exact ⟨e1.1, e1.2, by rw [e2]; exact hR.qv.fok _⟩
 ·obtain ⟨p1, p2, p3⟩ := hR.out u hz hS hA hL hcap hp
  have := hK p w' hp h' k' p2 p3
  rw [p1]
  exact this
theorem N7 {d : Dk} (hd : d = dk0) {cap init : Int} {c : Cmd} (hk : c.k = 2 ∨ c.k = 3) (h1 : 1 ≤ cntC c) (h2 : cntC c ≤ 8) (h3 : 0 ≤ c.lba) (h4 : c.lba + cntC c ≤ cap) (h5 : 0 ≤ init ∧ init < 16) : (gN d cap init c).2 = false := by
 rw [hd]; exact zBx hk h1 h2 h3 h4 h5
theorem WaI.write (hR : WaI q s0 ep x y S A L fin s) (u : Use s0 ep f) (hd0 : s0.d = dk0) (h : ArAt w q 0 s) (hz : q.pb.sz = 65536) (hroom : 1 ≤ q.pb.room ∧ q.pb.room ≤ 64) (hA : A ≤ 50000) (hS : S ≤ 900000) (hL : L ≤ 900000) (hcap : yV q.g ≤ 100000) {l : Int} {d : Sec} (hd : yD d) (h0 : 0 ≤ l) (h1 : l < yV q.g) {dp : Option Addr} {dc : Nat}
  (hx : ∀ w', Keep (ArF q w) w w' → SlL yG w' dp 1 [d]) (hK : ∀ s' w', WaI q s0 ep x y (S + 17) (A + 518) (L + 2) (upd fin l d) s' → ArAt w' q 0 s' → Keep (ArF q w) w w' → R (.agg (repC 1 0 none 0 0)) w') :
  zB Tryz.prog 16 #[.pointer (some ⟨q.a, 0, none⟩), .int .i64 (zZ f), .int .i64 0, .agg (cmdC ⟨3, l, 0, dp, 1, dc, 0, 0, false⟩)] w R := by
 refine M6 (c := ⟨3, l, 0, dp, 1, dc, 0, 0, false⟩) (xs := [d]) h f rfl (hR.ready u) rfl (ZP f (hR.alone u)) (N7 (by rw [hR.like.d]; exact hd0) (Or.inr rfl) (by show (1 : Int) ≤ 1; decide) (by show (1 : Int) ≤ 8; decide) h0 (by show l + (1 : Int) ≤ yV q.g; omega) (by decide)) rfl hx
  (fun n s' => (n = 0 ∧ s' = s) ∨ (n = 1 ∧ WaI q s0 ep x y (S + 17) (A + 518) (L + 2) (upd fin l d) s')) (fun _ => False) (Or.inl ⟨rfl, rfl⟩) ?_ ?_ (fun _ _ h => h.elim)
 ·intro n v s1 w1 R1 hxk hiv h1' hh
  have hn : n = 0 ∧ s1 = s := by
   rcases hiv with h | ⟨rfl, _⟩
   ·exact h
   ·cases hxk
  obtain ⟨rfl, rfl⟩ := hn
  cases hxk
  have e0 : (Cmd.mk 3 l 0 dp 1 dc 0 0 false).lba + ((0 : Nat) : Int) = l := Int.add_zero _
  rw [e0]
  refine zHb h1' f (fun s' => s' = s1 ∨ (WaI q s0 ep x y (S + 15) (A + 444) (L + 1) fin s' ∧ (s'.ps.es.length : Int) < q.pb.room)) (fun _ => False) (Or.inl rfl) ?_ ?_ ?_ (fun e s2 w' _ hb => hb.elim)
  ·rintro s2 w2 R2 hiv2 h2 hg hr2 hh2
   rcases hiv2 with rfl | ⟨_, hb⟩
   ·refine hR.outC u hz hroom.2 (by omega) (by omega) (by omega) hcap h2 (fun e => by rw [e] at hr2; have hr2 : q.pb.room ≤ 0 := hr2; omega) fun p w3 hp h3 k3 hR3 he3 => ?_
    have hlt := zGx hp
    have := hR.room
    refine hh2 0 _ w3 h3 k3 (Or.inl ⟨rfl, Or.inr ⟨hR3, by rw [he3]; omega⟩, by rw [he3]; exact hlt⟩)
   ·omega
  ·rintro s2 hiv2 g _
   rcases hiv2 with rfl | ⟨hR2, _⟩
   ·exact hR.zEv hz (by omega) g
   ·exact hR2.zEv hz (by omega) g
  ·rintro s2 w2 hiv2 hor h2 k2
   have hR2 : WaI q s0 ep x y (S + 15) (A + 444) (L + 1) fin s2 := by
    rcases hiv2 with rfl | ⟨hR2, _⟩
    ·exact hR.mono (by omega) (by omega) (by omega)
    ·exact hR2
   obtain ⟨p1, p2⟩ := hR2.put u hz (by omega) (by omega) (by omega) hcap hd h0 h1 hor
   rw [p1]
   exact hh 0 _ w2 h2 k2 (Or.inl ⟨rfl, Or.inr ⟨rfl, p2.mono (by omega) (by omega) (by omega)⟩⟩)
 ·rintro s' w' (⟨h, _⟩ | ⟨_, hR'⟩) h' k'
  ·cases h
  ·exact hK s' w' hR' h' k'
theorem WaI.zQq (hR : WaI q s0 ep x y S A L fin s) (u : Use s0 ep f) (hd0 : s0.d = dk0) (h : ArAt w q 0 s) {l : Int} (h0 : 0 ≤ l) (h1 : l < yV q.g)
  (hK : ∀ p cc w', ArAt w' q 0 s → Keep (ArF q w) w w' → OwnL yG w' w.heap.size 37 p 1 cc [fin l] → R (.agg (repC 1 0 p 1 cc)) w') :
  zB Tryz.prog 16 #[.pointer (some ⟨q.a, 0, none⟩), .int .i64 (zZ f), .int .i64 0, .agg (cmdC ⟨2, l, 1, none, 0, 0, 0, 0, false⟩)] w R := by
 obtain ⟨now, hg, _⟩ := hR.qv.good
 have hre := hR.qv.read h0 h1
 refine LM (c := ⟨2, l, 1, none, 0, 0, 0, 0, false⟩) h f rfl (hR.ready u) rfl (ZP f (hR.alone u)) (N7 (by rw [hR.like.d]; exact hd0) (Or.inl rfl) (by show (1 : Int) ≤ 1; decide) (by show (1 : Int) ≤ 8; decide) h0 (by show l + (1 : Int) ≤ yV q.g; omega) (by decide)) hg.ss.ok (fun m hm => ?_) fun p' cc w16 ha4 k4 o4 => ?_
 ·have hm : (m : Int) < 1 := hm
  have : m = 0 := by omega
  subst this
  show (jL q s (l + ((0 : Nat) : Int))).2 = 0
  rw [show l + ((0 : Nat) : Int) = l by omega, hre]
 have hrs : Z8 q s l (1 : Int).toNat = [fin l] := by
  show [(jL q s (l + ((0 : Nat) : Int))).1] = _
  rw [show l + ((0 : Nat) : Int) = l by omega, hre]
 have o4 : OwnL yG w16 w.heap.size 37 p' 1 cc (Z8 q s l (1 : Int).toNat) := o4
 rw [hrs] at o4
 exact hK p' cc w16 ha4 k4 o4
theorem WaI.flush (hR : WaI q s0 ep x y S A L fin s) (u : Use s0 ep f) (hfst : YB s = some f) (h : ArAt w q 0 s) (hz : q.pb.sz = 65536) (hroom : q.pb.room ≤ 64) (hA : A ≤ 60000) (hS : S ≤ 1000000) (hL : L ≤ 1000000) (hcap : yV q.g ≤ 100000) (hne : s.ps.es ≠ [])
  (hK : ∀ p w', p ∈ s.ps.es → ArAt w' q 0 (outA q s f p).2 → Keep (ArF q w) w w' → WaI q s0 ep x y (S + 15) (A + 444) (L + 1) fin (outA q s f p).2 → (outA q s f p).2.ps.es = del s.ps.es p.1 → R (.int .i64 0) w') :
  zB Tryz.prog 19 #[.pointer (some ⟨q.a, 0, none⟩)] w R := by
 apply jK
 unfold vK
 obtain ⟨now, hg, _⟩ := hR.qv.good
 refine zAe h fun w1 h1 k1 => ?_
 refine M5 h1 hg.lit.1 hfst fun w2 k2 => yM.2 (zA.2 (zA.2 ((zH (p := _)).2 ?_)))
 have h2 := h1.zX k2
 have k02 : Keep (ArF q w) w w2 := ArF.trans (k1.mono fun i e => Or.inl e) (ArF.none k2)
 refine zG (v := .pointer (some ⟨q.pb.p, 0, none⟩)) h2.cells rfl (zO.2 ?_)
 refine zG (v := .pointer (some ⟨q.pb.c, 0, none⟩)) h2.pair.cells rfl (zO.2 ?_)
 refine GY h2.pair.cache (zA.2 ?_)
 rw [show (((s.ps.es.length : Nat) : Int) == 0) = false by simpa using hne]
 refine (zH (p := _)).2 ?_
 refine LJ h2 f (hR.alone u) (zA.2 ((zH (p := _)).2 ?_))
 refine hR.outC u hz hroom hA hS hL hcap h2 hne fun p w3 hp h3 k3 hR3 he3 => zA.2 ?_
 refine WG h3 fun w4 h4 k4 => ?_
 exact hK p w4 hp h4 (ArF.trans (ArF.trans k02 k3) (k4.mono fun i e => Or.inl e)) hR3 he3
theorem LK (h : ArAt w q 0 s) (hon : s.ps.pw.on = true) (hfst : YB s = some f) (he : s.ps.es = []) (hK : ∀ w', ArAt w' q 0 s → Keep (ArF q w) w w' → R (.int .i64 10) w') :
  zB Tryz.prog 19 #[.pointer (some ⟨q.a, 0, none⟩)] w R := by
 apply jK
 unfold vK
 refine zAe h fun w1 h1 k1 => ?_
 refine M5 h1 hon hfst fun w2 k2 => yM.2 (zA.2 (zA.2 ((zH (p := _)).2 ?_)))
 have h2 := h1.zX k2
 have k02 : Keep (ArF q w) w w2 := ArF.trans (k1.mono fun i e => Or.inl e) (ArF.none k2)
 refine zG (v := .pointer (some ⟨q.pb.p, 0, none⟩)) h2.cells rfl (zO.2 ?_)
 refine zG (v := .pointer (some ⟨q.pb.c, 0, none⟩)) h2.pair.cells rfl (zO.2 ?_)
 refine GY h2.pair.cache (zA.2 ?_)
 rw [he]
 refine (zT (q := _)).2 ?_
 refine WG h2 fun w4 h4 k4 => ?_
 exact hK w4 h4 (ArF.trans k02 (k4.mono fun i e => Or.inl e))
end calls
theorem zFx {es : List (Int × Ent)} {rs : List Rec} (hD : IsD es rs) (hn : (es.map (·.1)).Nodup) (l : Int) : zS (esOf rs) l = zS es l := by
 have hkeys : ((esOf rs).map (·.1)).Nodup := by
  rw [X9]
  have : (rs.map (·.lba)).Perm (es.map (·.1)) := by
   have := hD.1.map (·.lba)
   rw [List.map_map] at this
   exact this
  exact this.nodup_iff.2 hn
 refine Option.ext fun e => ⟨fun h => ?_, fun h => ?_⟩
 ·have hm := kQ h
  unfold esOf at hm
  obtain ⟨r, hr, he⟩ := List.mem_map.1 hm
  obtain ⟨p, hp, rfl⟩ := List.mem_map.1 (hD.1.mem_iff.1 hr)
  have he : (p.1, (p.2.1, p.2.2)) = (l, e) := he
  have : p = (l, e) := he
  rw [this] at hp
  exact qI hn hp
 ·have hm := kQ h
  refine qI hkeys ?_
  unfold esOf
  exact List.mem_map.2 ⟨vS (l, e), hD.1.mem_iff.2 (List.mem_map.2 ⟨(l, e), hm, rfl⟩), rfl⟩
theorem zDs (g : Geo) (s : SS) (ep : Int) : vY g s [] ep = (0, s) := by
 unfold vY
 rw [if_pos (by simp)]
 rfl
theorem zAi {ep : Int} (h0 : 0 ≤ ep) (h1 : ep < 1000000) (f : Bool) : ∃ e, M7 ep (zZ f) = (e, 0) ∧ ep < e ∧ e ≤ ep + 2 := by
 have hside : QZ (zZ f) := by cases f <;> first | exact zQn | exact zQm
 unfold M7
 rw [if_neg (by simpa using hside)]
 simp only
 generalize hx : (if (ep + 1) % 2 = zZ f then ep + 1 else ep + 2) = x
 have hx2 : ep < x ∧ x ≤ ep + 2 := by rw [← hx]; split <;> omega
 rw [if_neg (by omega)]
 exact ⟨x, rfl, hx2⟩
theorem GoodE.zQy {g : Geo} {s : SS} {now : Int → Sec} {ep e : Int} (h : GoodE g s now ep) (h0 : 0 ≤ ep) (h1 : ep ≤ e) (h2 : e ≤ 4294967295) : GoodE g (xM s e).2 now e := by
 have hp := zC3 s e
 refine ⟨zJo h.ss ⟨by omega, h2⟩, by rw [hp]; exact h.lit, zGj (by omega) fun i => Int.le_trans (h.key i) h1, h.inv.see h.ss.geo fun i a _ _ => MN s e i a, h.nok, by rw [hp]; exact h.st0⟩
structure Started (q' : AB) (s s' : AS) (fin : Int → Sec) (e x y : Int) (f0 f1 : Bool) : Prop where
 qv : Qv q' s' fin e x y
 jn : Jn s' e
 len : s'.ps.es.length = s.ps.es.length
 up : s'.ps.ua = f0 ∧ s'.ps.ub = f1
 ua : s'.ua = f0 ∧ s'.ub = f1
 T7 : s'.la = f0 ∧ s'.lb = f1
 ep : s'.ea = e ∧ s'.eb = e
 split : s'.split = false
 later : s'.later = s.later
 marks : s'.marks = s.marks
 d : s'.d = GC s.d
 steps : s.ps.pw.steps ≤ s'.ps.pw.steps ∧ s'.ps.pw.steps ≤ s.ps.pw.steps + 4
 a : (s'.ps.xa.length : Int) ≤ max 2405 (s.ps.xa.length : Int)
 b : (s'.ps.xb.length : Int) ≤ max 2405 (s.ps.xb.length : Int)
 last : s'.ps.last ≤ s.ps.last
 epoch : s'.ps.epoch = e
section calls
variable {w : World} {R : Value → World → Prop} {q : AB} {s : AS} {ep x y : Int} {fin : Int → Sec}
def MemS (go : Bool) (xs : List Int) (es : List (Int × Ent)) (last ep : Int) (A : List Rec) : Prop := kT xs A ∧ (go = true → gT xs A ∧ MemOk A es last ∧ EpOk ep A)
theorem JnM.memS {up go : Bool} {xs : List Int} {es : List (Int × Ent)} {last ep : Int} (h : JnM up xs es last ep) (hu : up = true) : ∃ A, MemS go xs es last ep A := by
 obtain ⟨A, a1, a2, a3⟩ := h hu
 exact ⟨A, a1.kept, fun _ => ⟨a1, a2, a3⟩⟩
set_option maxHeartbeats 1000000 in
theorem zI3 {pp : Option Addr} (h : ArC w q 0 pp s) (hqv : Qv q s fin ep x y) {f0 f1 : Bool} (hf01 : f0 = true ∨ f1 = true) {A B : List Rec} (hA : MemS f0 s.ps.xa s.ps.es s.ps.last ep A) (hB : MemS f1 s.ps.xb s.ps.es s.ps.last ep B) (hl0 : s.later = 0) (hkey : keyS s.ss = ep) (hep : 0 ≤ ep ∧ ep < 1000000) (hst : s.ps.pw.steps < 100000000) (hla : s.ps.last < 100000000)
  (hz : q.pb.sz = 65536) (hroom : 1 ≤ q.pb.room ∧ q.pb.room ≤ 64) (hes : (s.ps.es.length : Int) ≤ q.pb.room) (hcap : yV q.g ≤ 100000) (ha : (s.ps.xa.length : Int) ≤ 60000) (hb : (s.ps.xb.length : Int) ≤ 60000)
  (hK : ∀ p c mp s' w' e, ep < e → e ≤ ep + 2 → w.heap.size ≤ p → w.heap.size ≤ mp → ArAt w' (q.re p c mp) 0 s' → Started (q.re p c mp) s s' fin e x y f0 f1 → (f0 = false → s'.ps.xa = s.ps.xa) → (f1 = false → s'.ps.xb = s.ps.xb) → s'.ds = (xM ⟨s.ds, s.ps.pw⟩ e).2.ds → Keep (ArS q w) w w' → R (.int .i64 0) w') :
  zB Tryz.prog 21 #[.pointer (some ⟨q.a, 0, none⟩), .bool f0, .bool f1] w R := by
 obtain ⟨now, hg, hnow⟩ := hqv.good
 have hon : s.ps.pw.on = true := hg.lit.1
 have hs0 : 0 ≤ s.ps.pw.steps := hg.st0
 have hl00 := hqv.last
 generalize hLsE : (fun f : Bool => cond f B A) = Ls
 have eA : Ls false = A := by rw [← hLsE]; rfl
 have eB : Ls true = B := by rw [← hLsE]; rfl
 have vA : f0 = true → uD ep A = true := fun hf => by
  obtain ⟨_, _, h3⟩ := hA.2 hf
  unfold uD
  rw [Bool.or_eq_true, decide_eq_true_eq, List.any_eq_true]
  rcases h3.1 with h3 | ⟨r, r1, r2, r3⟩
  ·exact Or.inl h3
  ·exact Or.inr ⟨r, r1, by rw [Bool.and_eq_true, decide_eq_true_eq, decide_eq_true_eq]; exact ⟨r2, r3⟩⟩
 have vB : f1 = true → uD ep B = true := fun hf => by
  obtain ⟨_, _, h3⟩ := hB.2 hf
  unfold uD
  rw [Bool.or_eq_true, decide_eq_true_eq, List.any_eq_true]
  rcases h3.1 with h3 | ⟨r, r1, r2, r3⟩
  ·exact Or.inl h3
  ·exact Or.inr ⟨r, r1, by rw [Bool.and_eq_true, decide_eq_true_eq, decide_eq_true_eq]; exact ⟨r2, r3⟩⟩
 have hsrc : QY ep f0 f1 Ls = upsS f0 f1 := by
  unfold QY upsS
  refine List.filter_congr fun f hf => ?_
  cases f
  ·show (f0 && uD ep (Ls false)) = f0
   rw [eA]
   cases f0
   ·rfl
   ·rw [vA rfl]; rfl
  ·show (f1 && uD ep (Ls true)) = f1
   rw [eB]
   cases f1
   ·rfl
   ·rw [vB rfl]; rfl
 have hex : ∃ src srcs, upsS f0 f1 = src :: srcs := by
  cases f0 <;> cases f1
  ·rcases hf01 with h | h <;> cases h
  ·exact ⟨true, [], rfl⟩
  ·exact ⟨false, [], rfl⟩
  ·exact ⟨false, [true], rfl⟩
 obtain ⟨src, srcs, hups⟩ := hex
 have hnd : (upsS f0 f1).Nodup := by unfold upsS; exact List.Nodup.sublist List.filter_sublist (by decide)
 have hlen2 : (upsS f0 f1).length ≤ 2 := Nat.le_trans (List.length_filter_le _ _) (by simp)
 have mem0 : false ∈ upsS f0 f1 ↔ f0 = true := by unfold upsS; cases f0 <;> cases f1 <;> simp
 have mem1 : true ∈ upsS f0 f1 ↔ f1 = true := by unfold upsS; cases f0 <;> cases f1 <;> simp
 have hLL : ∀ Lx ∈ (upsS f0 f1).map Ls, MemOk Lx s.ps.es s.ps.last := fun Lx hLx => by
  obtain ⟨f, hf, rfl⟩ := List.mem_map.1 hLx
  cases f
  ·rw [eA]; exact (hA.2 (mem0.1 hf)).2.1
  ·rw [eB]; exact (hB.2 (mem1.1 hf)).2.1
 have hLLne : (upsS f0 f1).map Ls ≠ [] := by rw [hups]; simp
 have hkA : kT s.ps.xa (Ls false) := by rw [eA]; exact hA.1
 have hkB : kT s.ps.xb (Ls true) := by rw [eB]; exact hB.1
 have exa : (trA s f0 f1 Ls).ps.xa = s.ps.xa := by
  show cond f0 ((Ls false).flatMap zY) s.ps.xa = _
  cases f0
  ·rfl
  ·rw [eA]; exact (hA.2 rfl).1.2.symm
 have exb : (trA s f0 f1 Ls).ps.xb = s.ps.xb := by
  show cond f1 ((Ls true).flatMap zY) s.ps.xb = _
  cases f1
  ·rfl
  ·rw [eB]; exact (hB.2 rfl).1.2.symm
 refine zK9 h hf01 hl0 (by omega) hkA hkB (fun b hb => (h.marks.lt hb).2) (fun he => ?_) fun hne w1 sp sl sc lp ll lc Q hsl2 hll2 hrv hC k1 hz1 => ?_
 ·rw [hkey, hsrc, hups] at he
  cases he
 rw [hkey, hsrc] at hrv
 rw [hkey]
 obtain ⟨e, haf, he1, he2⟩ := zAi hep.1 hep.2 src
 have hlit : Lit0 (⟨true, 0, s.ps.pw.steps⟩ : Pow) := ⟨rfl, rfl⟩
 have hpend : u7 ((upsS f0 f1).map Ls) = [] := zFa fun Lx hLx => (hLL Lx hLx).done
 have hpS := zFb hpend
 have m0 := vV (sz := q.pb.sz) (x := ⟨6, e, 0, sec []⟩) (upsS f0 f1) ⟨⟨true, 0, s.ps.pw.steps⟩, s.ps.xa, s.ps.xb⟩ hlit hs0 (by show s.ps.pw.steps + _ < _; omega) (by show _ ≤ q.pb.sz - (s.ps.xa.length : Int); rw [hz]; omega) (by show _ ≤ q.pb.sz - (s.ps.xb.length : Int); rw [hz]; omega)
 have m1 := uM (sz := q.pb.sz) (x := ⟨6, e, 0, sec []⟩) (upsS f0 f1) ⟨⟨true, 0, s.ps.pw.steps⟩, s.ps.xa, s.ps.xb⟩ hnd hlit hs0 (by show s.ps.pw.steps + _ < _; omega) (by show _ ≤ q.pb.sz - (s.ps.xa.length : Int); rw [hz]; omega) (by show _ ≤ q.pb.sz - (s.ps.xb.length : Int); rw [hz]; omega)
 obtain ⟨m0a, m0b⟩ := m0
 have hms : yF q.pb.sz ⟨6, e, 0, sec []⟩ (src :: srcs) ⟨(trA s f0 f1 Ls).ss.pw, (trA s f0 f1 Ls).ps.xa, (trA s f0 f1 Ls).ps.xb⟩ = (0, (yF q.pb.sz ⟨6, e, 0, sec []⟩ (upsS f0 f1) ⟨⟨true, 0, s.ps.pw.steps⟩, s.ps.xa, s.ps.xb⟩).2) := by
  rw [exa, exb, ← hups]
  exact Prod.ext m0a rfl
 generalize (yF q.pb.sz ⟨6, e, 0, sec []⟩ (upsS f0 f1) ⟨⟨true, 0, s.ps.pw.steps⟩, s.ps.xa, s.ps.xb⟩).2 = ms at *
 have msst : ms.pw.steps = s.ps.pw.steps + ((upsS f0 f1).length : Int) := m0b.steps
 obtain ⟨m1a, m1b⟩ := m1
 have hleft : ∀ rs, G3 ((upsS f0 f1).map Ls) rs → IsD s.ps.es rs := fun rs hrs => zJ5 hLL hLLne hqv.nd hrs.1 hrs.2
 have hrsOk : ∀ rs, G3 ((upsS f0 f1).map Ls) rs → (∀ r ∈ rs, r.kind = 1 ∧ (0 ≤ r.lba ∧ r.lba ≤ 2147483647) ∧ r.ver ≤ topL ((upsS f0 f1).map Ls)) ∧ (rs.map (·.lba)).Nodup ∧ (rs.length : Int) ≤ q.pb.room := fun rs hrs => by
  have hD := hleft rs hrs
  refine ⟨fun r hr => ?_, ?_, ?_⟩
  ·obtain ⟨p, hp, rfl⟩ := List.mem_map.1 (hD.1.mem_iff.1 hr)
   have hm := QD hqv.nd hp
   obtain ⟨e1, _⟩ := hqv.es p.1 p.2 hm
   refine ⟨rfl, ⟨e1.1, by show p.1 ≤ _; omega⟩, ?_⟩
   have hmem : vS p ∈ ((upsS f0 f1).map Ls).flatten := by
    obtain ⟨Lx, hLx⟩ := List.exists_mem_of_ne_nil _ hLLne
    exact List.mem_flatten.2 ⟨Lx, hLx, ((hLL Lx hLx).has p.1 p.2 hm).1⟩
   exact (top_spec _ 0).2.1 _ hmem (by show (1 : Int) ≤ 1; decide) (by show (1 : Int) ≤ 5; decide)
  ·have : (rs.map (·.lba)).Perm (s.ps.es.map (·.1)) := by
    have := hD.1.map (·.lba)
    rw [List.map_map] at this
    exact this
   exact this.nodup_iff.2 hqv.nd
  ·have := hD.1.length_eq
   rw [List.length_map] at this
   omega
 have hcL : ∀ rs, G3 ((upsS f0 f1).map Ls) rs → _ := fun rs hrs => GW (sz := q.pb.sz) (rs := ⟨6, e, 0, sec []⟩ :: rs) (by have := (hrsOk rs hrs).2.2; simp only [List.length_cons]; rw [hz]; omega) (upsS f0 f1) (resP rs (topL ((upsS f0 f1).map Ls)) e f0 f1 ms) hnd m0b.lit (by show 0 ≤ ms.pw.steps; omega) (by show ms.pw.steps + _ < _; omega)
 obtain ⟨htop0, htopM⟩ := MemOk.top hLL hl00
 have hflat : ((upsS f0 f1).map Ls).flatten.length ≤ 100000 := by
  have lenB : ∀ {xs : List Int} {X : List Rec}, kT xs X → (xs.length : Int) ≤ 60000 → X.length ≤ 2000 := fun hk hx => by
   obtain ⟨t, _, _, ht⟩ := hk.2
   rw [ht, List.length_append, XS] at hx
   omega
  have l0 := lenB hkA ha
  have l1 := lenB hkB hb
  unfold upsS
  cases f0 <;> cases f1 <;> simp <;> omega
 refine zDr (q := q) (s := trA s f0 f1 Ls) (ss1 := (trA s f0 f1 Ls).ss) (e := e) (ms := ms) (src := src) (srcs := srcs) hC hf01 hsl2 (by rw [← hups]; exact hrv) hll2 hflat (fun r hr => ?_) ⟨hep.1, by omega⟩ (by rw [hpend]; simp) (by rw [hpS]; simp) (by rw [hpS]; exact zDs _ _ _) hg.ss.ok haf ⟨by omega, by omega⟩ hms m0b.lit.1 hroom hrsOk (fun rs hrs => ⟨(hcL rs hrs).1, (hcL rs hrs).2.1.1⟩) fun p c mp rs w2 hrs hp hmp ha2 k2 => ?_
 ·obtain ⟨Lx, hLx, hr'⟩ := List.mem_flatten.1 hr
  exact (hLL Lx hLx).rc r hr'
 obtain ⟨c1, c2, c3, c4⟩ := hcL rs hrs
 have hD := hleft rs hrs
 obtain ⟨r1, r2, r3⟩ := hrsOk rs hrs
 refine zA.2 (WG ha2 fun w3 ha3 k3 => ?_)
 generalize hps : (kC q.pb.sz (⟨6, e, 0, sec []⟩ :: rs) (upsS f0 f1) (resP rs (topL ((upsS f0 f1).map Ls)) e f0 f1 ms)).2 = ps at *
 have pes : ps.es = esOf rs := by rw [c4]; rfl
 have plast : ps.last = topL ((upsS f0 f1).map Ls) := by rw [c4]; rfl
 have pua : ps.ua = f0 ∧ ps.ub = f1 := by rw [c4]; exact ⟨rfl, rfl⟩
 have pxa : ps.xa = if false ∈ upsS f0 f1 then (⟨6, e, 0, sec []⟩ :: rs).flatMap zY else ms.xa := by rw [c4]; rfl
 have pxb : ps.xb = if true ∈ upsS f0 f1 then (⟨6, e, 0, sec []⟩ :: rs).flatMap zY else ms.xb := by rw [c4]; rfl
 have pep : ps.epoch = e := by rw [c4]; rfl
 have psteps : ps.pw.steps = ms.pw.steps + ((upsS f0 f1).length : Int) := c3
 have look := zFx hD hqv.nd
 have hlenrs : rs.length = s.ps.es.length := by have := hD.1.length_eq; rwa [List.length_map] at this
 have hnes : ((esOf rs).map (·.1)).Nodup := by rw [X9]; exact r2
 have hfl : (((⟨6, e, 0, sec []⟩ :: rs : List Rec).flatMap zY).length : Int) ≤ 2405 := by rw [XS]; simp only [List.length_cons]; omega
 have hgf : GoodE q.g (xM ⟨s.ds, s.ps.pw⟩ e).2 now e := GoodE.zQy (s := ⟨s.ds, s.ps.pw⟩) hg hep.1 (by omega) (by omega)
 have hdsE : (xM ⟨s.ds, ps.pw⟩ e).2.ds = (xM ⟨s.ds, s.ps.pw⟩ e).2.ds := MO _ _ _ c2.1 hon e
 have hMs : MemOk (⟨6, e, 0, sec []⟩ :: rs) (esOf rs) (topL ((upsS f0 f1).map Ls)) := by
  refine MemOk.short (zC5 (fun r hr => (r1 r hr).1) hD.2) hnes (fun l en hl => ?_) (zIj ⟨by omega, by omega⟩)
  rw [look] at hl
  obtain ⟨e1, e2, e3, e4⟩ := hqv.es l en hl
  refine ⟨zBd (by rw [e2]; exact hqv.fok _) ⟨e3, by show en.2 ≤ _; omega⟩ ⟨e1.1, by show l ≤ _; omega⟩, ?_⟩
  have hmm := hD.1.mem_iff.2 (List.mem_map.2 ⟨(l, en), kQ hl, rfl⟩)
  exact (r1 _ hmm).2.2
 have hWs : gT ((⟨6, e, 0, sec []⟩ :: rs : List Rec).flatMap zY) (⟨6, e, 0, sec []⟩ :: rs) := ⟨hMs.rc, rfl⟩
 have hepm : EpOk e (⟨6, e, 0, sec []⟩ :: rs : List Rec) := ⟨Or.inr ⟨_, List.mem_cons_self .., rfl, rfl⟩, fun r hr hk => by
  rcases List.mem_cons.1 hr with rfl | hr
  ·exact Int.le_refl _
  ·have := (r1 r hr).1; omega⟩
 have msxa : f0 = false → ms.xa = s.ps.xa := fun hf => by rw [m1a, if_neg (fun hm => by rw [mem0.1 hm] at hf; cases hf)]; simp
 have msxb : f1 = false → ms.xb = s.ps.xb := fun hf => by rw [m1b, if_neg (fun hm => by rw [mem1.1 hm] at hf; cases hf)]; simp
 have pxa0 : f0 = false → ps.xa = s.ps.xa := fun hf => by rw [pxa, if_neg (fun hm => by rw [mem0.1 hm] at hf; cases hf)]; exact msxa hf
 have pxb0 : f1 = false → ps.xb = s.ps.xb := fun hf => by rw [pxb, if_neg (fun hm => by rw [mem1.1 hm] at hf; cases hf)]; exact msxb hf
 have hpw3 : Keep (ArS q w) w w3 := ArS.trans (ArS.trans k1 (k2.mono fun i e => e)) (ArS.ofA (q := q) k3)
 refine hK p c mp _ w3 e he1 he2 (by omega) (by omega) ha3 ⟨⟨⟨now, ?_, fun l hl => ?_⟩, fun j a hj ha' hv => ?_, fun l en hl => ?_, ?_, ?_, hqv.fok⟩, ⟨?_, ?_⟩, ?_, pua, ⟨rfl, rfl⟩, ⟨rfl, rfl⟩, ⟨rfl, rfl⟩, rfl, rfl, rfl, rfl, ?_, ?_, ?_, ?_, pep⟩ pxa0 pxb0 hdsE hpw3
 ·show GoodE q.g ⟨(xM ⟨s.ds, ps.pw⟩ e).2.ds, ps.pw⟩ now e
  rw [hdsE]
  have hgp := hgf.pow (pw := ps.pw) c2 (by rw [psteps]; omega)
  exact hgp
 ·have hl : zS ps.es l = none := hl
  rw [pes, look] at hl
  exact hnow l hl
 ·have hv : xR ⟨(xM ⟨s.ds, ps.pw⟩ e).2.ds, ps.pw⟩ j a = none := hv
  rw [hdsE] at hv
  have hv2 : xR (xM ⟨s.ds, s.ps.pw⟩ e).2 j a = none := hv
  rw [MN] at hv2
  exact hqv.v2 j a hj ha' hv2
 ·have hl : zS ps.es l = some en := hl
  rw [pes, look] at hl
  obtain ⟨e1, e2, e3, e4⟩ := hqv.es l en hl
  refine ⟨e1, e2, e3, ?_⟩
  show en.2 ≤ ps.last
  rw [plast]
  have hmm := hD.1.mem_iff.2 (List.mem_map.2 ⟨(l, en), kQ hl, rfl⟩)
  exact (r1 _ hmm).2.2
 ·show (ps.es.map (·.1)).Nodup
  rw [pes]; exact hnes
 ·show 0 ≤ ps.last
  rw [plast]; exact htop0.1
 ·show JnM ps.ua ps.xa ps.es ps.last e
  rw [pua.1, pes, plast]
  intro hf
  rw [pxa, if_pos (mem0.2 hf)]
  exact ⟨_, hWs, hMs, hepm⟩
 ·show JnM ps.ub ps.xb ps.es ps.last e
  rw [pua.2, pes, plast]
  intro hf
  rw [pxb, if_pos (mem1.2 hf)]
  exact ⟨_, hWs, hMs, hepm⟩
 ·show ps.es.length = _
  rw [pes]
  unfold esOf
  rw [List.length_map]; exact hlenrs
 ·show s.ps.pw.steps ≤ ps.pw.steps ∧ ps.pw.steps ≤ _
  rw [psteps, msst]
  omega
 ·show (ps.xa.length : Int) ≤ _
  cases hf : f0 with
  | true => rw [pxa, if_pos (mem0.2 hf)]; omega
  | false => rw [pxa0 hf]; omega
 ·show (ps.xb.length : Int) ≤ _
  cases hf : f1 with
  | true => rw [pxb, if_pos (mem1.2 hf)]; omega
  | false => rw [pxb0 hf]; omega
 ·show ps.last ≤ _
  rw [plast]; exact htop0.2
end calls
end Go.Proofs
namespace Go.Proofs
open Go.Ev
set_option maxRecDepth 100000
def qN (a : Int) (b : Int) (c : Int) (w : World) (R : Value → World → Prop) : Prop :=
 Alc 24 (zc Tryz.prog 24) w fun b1 w => Req ((4 : Int) ≠ 0) (Req ((3 : Int) ≠ 0) (Req ((3 : Int) ≠ 0) (DoQ Tryz.prog (Instr.build 24 #[(0, .int .i64 (IntKind.wrap .i64
 ((IntKind.wrap .i64 (Int.tmod a 4)) + 4))), (1, .int .i64 (IntKind.wrap .i64 ((IntKind.wrap .i64 (Int.tmod b 3)) + 1))), (2, .int .i64 (IntKind.wrap .i64 ((IntKind.wrap
 .i64 (Int.tmod c 3)) + 1)))]) (At w) fun v => OpA 3 v fun cs => StA 3 b1 0 cs w fun w => LdA 3 b1 0 (At w) fun cs1 => Ret [] (R (.agg cs1) w))))
theorem VP {a : Int} {b : Int} {c : Int} {w : World} {R : Value → World → Prop} (h : qN a b c w R) : zB Tryz.prog 12 #[.int .u8 a, .int .u8 b, .int .u8 c] w R := by
 exact zE (args := [.int .u8 a, .int .u8 b, .int .u8 c]) (zR [] [] [] [] []) zD Tryz.func12 rfl rfl (by kernel_rfl) h
def wK (n : Int) (k : Int) (w : World) (R : Value → World → Prop) : Prop :=
 Alc 37 (zc Tryz.prog 37) w fun b w => Req (0 ≤ (8 : Int)) (DoQ Tryz.prog (Instr.build 37 #[(0, .int .u8 (IntKind.wrap .u8 n)), (1, .int .u8 (IntKind.wrap .u8 (ishr .i64 n
 8))), (2, .int .u8 (IntKind.wrap .u8 k)), (3, .int .u8 1)]) (At w) fun v => OpA 16 v fun cs => StA 16 b 0 cs w fun w => LdA 16 b 0 (At w) fun cs1 => Ret [] (R (.agg cs1)
 w))
theorem UX {n : Int} {k : Int} {w : World} {R : Value → World → Prop} (h : wK n k w R) : zB Tryz.prog 17 #[.int .i64 n, .int .i64 k] w R := by
 exact zE (args := [.int .i64 n, .int .i64 k]) (zR [] [] [] [] []) zD Tryz.func17 rfl rfl (by kernel_rfl) h
def uA  (w : World) (R : Value → World → Prop) : Prop :=
 DoQ Tryz.prog (Instr.build 24 #[(0, .int .i64 4), (1, .int .i64 1), (2, .int .i64 2)]) (At w) fun v => OpA 3 v fun cs => zB Tryz.prog 13 #[.agg cs, .int .i64 1] w fun
 v1 w => T2 v1 fun v2 v3 => OpN v2 fun b o => OpI .i64 v3 fun n => Req ((n != 0) = (n != 0)) (Req ((n != 0) = (n != 0)) (Cb (cond (n != 0) true false) (Ret [] (R (.bool
 false) w)) (DoQ Tryz.prog (Instr.build 37 #[(0, .int .u8 5)]) (At w) fun v4 => OpA 16 v4 fun cs1 => DoQ Tryz.prog (Instr.build 37 #[(0, .int .u8 6)]) (At w) fun v5 => OpA
 16 v5 fun cs2 => DoV Tryz.prog (Instr.buildSlice 32 2 #[(0, .agg cs1), (1, .agg cs2)]) w fun v6 w => OpS v6 fun p l c => DoQ Tryz.prog (Instr.build 41 #[(0, .int .i64 3),
 (1, .int .i64 1), (3, .slice p l c)]) (At w) fun v7 => OpA 7 v7 fun cs3 => zB Tryz.prog 16 #[.pointer (some ⟨b, o, none⟩), .int .i64 0, .int .i64 0, .agg cs3] w fun v8
 w => OpA 3 v8 fun cs4 => DoQ Tryz.prog (Instr.build 41 #[(0, .int .i64 2), (1, .int .i64 1), (2, .int .i64 2)]) (At w) fun v9 => OpA 7 v9 fun cs5 => zB Tryz.prog 16
 #[.pointer (some ⟨b, o, none⟩), .int .i64 1, .int .i64 0, .agg cs5] w fun v10 w => OpA 3 v10 fun cs6 => Alc 34 (zc Tryz.prog 34) w fun b1 w => StA 3 b1 0 cs6 w fun w =>
 LdV b1 0 (At w) fun v11 => OpI .i64 v11 fun n1 => Cb (n1 == 1) (LdV b1 2 (At w) fun v12 => OpS v12 fun p1 l1 c1 => Cb (((l1 : Nat) : Int) == 2) (LdV b1 2 (At w) fun v13 =>
 OpS v13 fun p2 l2 c2 => IdxS p2 l2 0 16 fun b2 o1 => LdA 16 b2 o1 (At w) fun cs7 => DoQ Tryz.prog (Instr.build 37 #[(0, .int .u8 5)]) (At w) fun v14 => OpA 16 v14 fun cs8
 => EqB Tryz.prog .eql 37 (.tmp 37) (.tmp 38) (.agg cs7 : Value) (.agg cs8 : Value) (At w) fun g => Cb g (LdV b1 2 (At w) fun v15 => OpS v15 fun p3 l3 c3 => IdxS p3 l3 1 16
 fun b3 o2 => LdA 16 b3 o2 (At w) fun cs9 => DoQ Tryz.prog (Instr.build 37 #[(0, .int .u8 6)]) (At w) fun v16 => OpA 16 v16 fun cs10 => EqB Tryz.prog .eql 37 (.tmp 45)
 (.tmp 46) (.agg cs9 : Value) (.agg cs10 : Value) (At w) fun g1 => Cb g1 (zB Tryz.prog 18 #[.pointer (some ⟨b, o, none⟩)] w fun v17 w => OpI .i64 v17 fun n2 => Ret [] (R
 (.bool (n2 == 1)) w)) (Ret [] (R (.bool false) w))) (Ret [] (R (.bool false) w))) (Ret [] (R (.bool false) w))) (Ret [] (R (.bool false) w)))))
theorem wG  {w : World} {R : Value → World → Prop} (h : uA  w R) : zB Tryz.prog 14 #[] w R := by
 exact zE (args := []) (zR [] [] [] [] [100006]) zD Tryz.func14 rfl rfl (by kernel_rfl) h
end Go.Proofs
namespace Go.Proofs
open Go Go.Ev Go.RowKit
set_option maxRecDepth 100000
def zJl (a b c : Int) : Geo := ⟨a % 4 + 4, b % 3 + 1, c % 3 + 1⟩
theorem zJk {a b c : Int} : GeoOk (zJl a b c) := by
 have h1 := Int.emod_nonneg a (show (4 : Int) ≠ 0 by decide)
 have h2 := Int.emod_lt_of_pos a (show (0 : Int) < 4 by decide)
 have h3 := Int.emod_nonneg b (show (3 : Int) ≠ 0 by decide)
 have h4 := Int.emod_lt_of_pos b (show (0 : Int) < 3 by decide)
 have h5 := Int.emod_nonneg c (show (3 : Int) ≠ 0 by decide)
 have h6 := Int.emod_lt_of_pos c (show (0 : Int) < 3 by decide)
 exact ⟨⟨by show 4 ≤ a % 4 + 4; omega, by show a % 4 + 4 ≤ 32; omega⟩, ⟨by show 1 ≤ b % 3 + 1; omega, by show b % 3 + 1 ≤ 8; omega⟩, ⟨by show 1 ≤ c % 3 + 1; omega, by show c % 3 + 1 ≤ 64; omega⟩⟩
def oneS (n k : Int) : Sec := sec [IntKind.wrap .u8 n, IntKind.wrap .u8 (ishr .i64 n 8), IntKind.wrap .u8 k, 1]
theorem zMm (n k : Int) : yD (oneS n k) := H6 (by intro y hy; simp only [List.mem_cons, List.not_mem_nil, or_false] at hy; rcases hy with rfl | rfl | rfl | rfl <;> first | exact zLn _ | decide)
theorem zK0 (a b c d : Int) (w : World) : (Instr.build 37 #[(0, .int .u8 a), (1, .int .u8 b), (2, .int .u8 c), (3, .int .u8 d)]).run Tryz.prog w = .ok (.agg (secV (sec [a, b, c, d]))) w := run_build _ _ _ _ (by kernel_rfl)
theorem ArS.not {w : World} {q : AB} {lk : Int} {s : AS} (h : ArAt w q lk s) {k : Nat} {cs : Array Value} {t : TypeId} {f : Nat × Nat} (hk : Has w k (.cells cs t f)) (h1 : t ≠ 5) (h2 : t ≠ 209) (h3 : t ≠ 214) (h4 : t ≠ 220) (h5 : t ≠ 260) (h6 : t ≠ 153) (h7 : t ≠ 143) (h8 : t ≠ 229) : ¬ ArS q w k := by
 rintro (e | e)
 ·exact ArF.not h hk h1 h2 h3 h4 h5 h6 h7 e
 ·exact wH hk (show Has w _ _ from h.desk) h8 e
theorem zMj {w w' : World} {q : AB} {lk : Int} {s : AS} (h : ArAt w q lk s) (k : Keep (ArS q w) w w') {b : Nat} {p : Option Addr} {l c : Nat} {xs : List Sec} (o : OwnL yG w b 37 p l c xs) : OwnL yG w' b 37 p l c xs :=
 o.keep k fun b hb => by
  obtain ⟨_, cur, hh⟩ := yI o b 0 hb
  exact ArS.not h hh (by decide) (by decide) (by decide) (by decide) (by decide) (by decide) (by decide) (by decide)
theorem ArFrom.re {q : AB} {n p c mp : Nat} (h : ArFrom q n) (hp : n ≤ p) (hmp : n ≤ mp) : ArFrom (q.re p c mp) n := ⟨h.a, h.dk, hp, hmp, h.m, h.ra, h.rb, h.base, h.disks⟩
section calls
variable {w : World} {R : Value → World → Prop}
theorem zOd {a b c : Int} (ha : 0 ≤ a ∧ a ≤ 255) (hb : 0 ≤ b ∧ b ≤ 255) (hc : 0 ≤ c ∧ c ≤ 255) (hK : ∀ w', Keep (fun _ => False) w w' → R (.agg (geoV (zJl a b c))) w') : zB Tryz.prog 12 #[.int .u8 a, .int .u8 b, .int .u8 c] w R := by
 apply VP
 unfold qN
 refine zK fun w1 hb1 k1 z1 => ?_
 refine ⟨by decide, by decide, by decide, ?_⟩
 have h1 := Int.emod_nonneg a (show (4 : Int) ≠ 0 by decide)
 have h2 := Int.emod_lt_of_pos a (show (0 : Int) < 4 by decide)
 have h3 := Int.emod_nonneg b (show (3 : Int) ≠ 0 by decide)
 have h4 := Int.emod_lt_of_pos b (show (0 : Int) < 3 by decide)
 have h5 := Int.emod_nonneg c (show (3 : Int) ≠ 0 by decide)
 have h6 := Int.emod_lt_of_pos c (show (0 : Int) < 3 by decide)
 rw [Int.tmod_eq_emod_of_nonneg ha.1, Int.tmod_eq_emod_of_nonneg hb.1, Int.tmod_eq_emod_of_nonneg hc.1, zW (x := a % 4) (by omega) (by omega), zW (x := b % 3) (by omega) (by omega), zW (x := c % 3) (by omega) (by omega), zW (x := a % 4 + 4) (by omega) (by omega), zW (x := b % 3 + 1) (by omega) (by omega), zW (x := c % 3 + 1) (by omega) (by omega)]
 refine zV (v := .agg (geoV (zJl a b c))) (fun _ => run_build _ _ _ _ (by kernel_rfl)) (zJ.2 ⟨rfl, ?_⟩)
 refine yB hb1 rfl (by kernel_rfl) (zBn _) ?_
 refine zQ (hb1.zL _) rfl (zF.2 (hK _ ?_))
 exact k1.trans' ((Keep.refl (fun k => k = w.heap.size) _).upd (fun _ => rfl) _) fun i hi e => by omega
theorem zOc {n k : Int} (hK : ∀ w', Keep (fun _ => False) w w' → R (.agg (secV (oneS n k))) w') : zB Tryz.prog 17 #[.int .i64 n, .int .i64 k] w R := by
 apply UX
 unfold wK
 refine zK fun w1 hb1 k1 z1 => ⟨by decide, ?_⟩
 refine zV (v := .agg (secV (oneS n k))) (fun _ => zK0 _ _ _ _ _) (zJ.2 ⟨rfl, ?_⟩)
 refine yB hb1 rfl (by rw [vQ]; rfl) (yS _) ?_
 refine zQ (hb1.zL _) rfl (zF.2 (hK _ ?_))
 exact k1.trans' ((Keep.refl (fun k => k = w.heap.size) _).upd (fun _ => rfl) _) fun i hi e => by omega
theorem zKp {q : AB} {g : Geo} (hg : GeoOk g) (hqg : q.g = g) (hroom : 1 ≤ q.pb.room) (x y : Int) : WaI q (arS0 g) 0 x y 0 0 0 now0 (arS0 g) := by
 refine ⟨zP1 hg hqg x y, ⟨fun _ => ⟨[], ⟨by simp, rfl⟩, MemOk.nil _, Or.inl rfl, by simp⟩, fun _ => ⟨[], ⟨by simp, rfl⟩, MemOk.nil _, Or.inl rfl, by simp⟩⟩, Downs.refl _, ?_, Int.le_refl _, Int.le_refl _, Int.le_refl _, Int.le_refl _, KI _, fun _ => rfl, fun _ => rfl⟩
 show (0 : Int) ≤ _
 omega
theorem zEb (g : Geo) (f : Bool) : Use (arS0 g) 0 f := ⟨by cases f <;> rfl, by cases f <;> rfl, by cases f <;> rfl, Or.inr ⟨by cases f <;> rfl, rfl⟩, Int.le_refl _⟩
theorem WaI.putC {q : AB} {s0 s : AS} {ep x y S A L : Int} {fin : Int → Sec} {f : Bool} {lk : Int} (hR : WaI q s0 ep x y S A L fin s) (u : Use s0 ep f) (h : ArAt w q lk s) (hz : q.pb.sz = 65536) (hroom : 1 ≤ q.pb.room ∧ q.pb.room ≤ 64) (hA : A ≤ 50000) (hS : S ≤ 900000) (hL : L ≤ 900000) (hcap : yV q.g ≤ 100000) {l : Int} {d : Sec} (hd : yD d) (h0 : 0 ≤ l) (h1 : l < yV q.g)
  (hK : ∀ s' w', ArAt w' q lk s' → Keep (ArF q w) w w' → WaI q s0 ep x y (S + 17) (A + 518) (L + 2) (upd fin l d) s' → s'.ps.es ≠ [] → R (.int .i64 0) w') :
  zB Tryz.prog 82 #[.pointer (some ⟨q.a, 0, none⟩), .int .i64 (zZ f), .int .i64 l, .agg (secV d)] w R := by
 refine zHb h f (fun s' => s' = s ∨ (WaI q s0 ep x y (S + 15) (A + 444) (L + 1) fin s' ∧ (s'.ps.es.length : Int) < q.pb.room)) (fun _ => False) (Or.inl rfl) ?_ ?_ ?_ (fun e s2 w' _ hb => hb.elim)
 ·rintro s2 w2 R2 hiv2 h2 hg hr2 hh2
  rcases hiv2 with rfl | ⟨_, hb⟩
  ·refine hR.outC u hz hroom.2 (by omega) (by omega) (by omega) hcap h2 (fun e => by rw [e] at hr2; have hr2 : q.pb.room ≤ 0 := hr2; omega) fun p w3 hp h3 k3 hR3 he3 => ?_
   have hlt := zGx hp
   have := hR.room
   refine hh2 0 _ w3 h3 k3 (Or.inl ⟨rfl, Or.inr ⟨hR3, by rw [he3]; omega⟩, by rw [he3]; exact hlt⟩)
  ·omega
 ·rintro s2 hiv2 g _
  rcases hiv2 with rfl | ⟨hR2, _⟩
  ·exact hR.zEv hz (by omega) g
  ·exact hR2.zEv hz (by omega) g
 ·rintro s2 w2 hiv2 hor h2 k2
  have hR2 : WaI q s0 ep x y (S + 15) (A + 444) (L + 1) fin s2 := by
   rcases hiv2 with rfl | ⟨hR2, _⟩
   ·exact hR.mono (by omega) (by omega) (by omega)
   ·exact hR2
  obtain ⟨p1, p2⟩ := hR2.put u hz (by omega) (by omega) (by omega) hcap hd h0 h1 hor
  have hes : (putP q.pb.room q.pb.sz s2.ps f l d).2.es ≠ [] := by
   have e1 := hR2.steps
   have e2 := hR2.a
   have e3 := hR2.b
   have e4 := hR2.last
   have hroom2 : zS s2.ps.es l = none → (s2.ps.es.length : Int) < q.pb.room := fun hn => by
    rcases hor with hr | hr
    ·unfold getV at hr
     rw [hn] at hr
     exact absurd hr (by decide)
    ·exact hr
   obtain ⟨_, _, _, q4⟩ := hR2.qv.put (f := f) hd h0 h1 (by rw [hR2.like.ua, hR2.like.ub]; exact u.up) hroom2 (by omega) (by omega) (by rw [hz]; omega) (by rw [hz]; omega) hcap
   rw [q4]
   intro hnil
   have := xT s2.ps.es l l (d, s2.ps.last + 1)
   rw [hnil, if_pos rfl] at this
   cases this
  rw [p1]
  exact hK _ w2 h2 k2 (p2.mono (by omega) (by omega) (by omega)) hes
theorem zLo (hK : ∀ w', Keep (fun _ => False) w w' → R (.bool true) w') : zB Tryz.prog 14 #[] w R := by
 apply wG
 unfold uA
 refine zV (v := .agg (geoV g4)) (fun _ => run_build _ _ _ _ (by kernel_rfl)) (zJ.2 ⟨rfl, ?_⟩)
 refine zLi zPr (by decide) (by decide) fun q w1 hqg hqr hqs h1 hf k1 => yM.2 (zO.2 (zA.2 ⟨rfl, rfl, (zH (p := _)).2 ?_⟩))
 refine zV (v := .agg (secV (sec [5]))) (fun _ => QI _ _) (zJ.2 ⟨rfl, ?_⟩)
 refine zV (v := .agg (secV (sec [6]))) (fun _ => QI _ _) (zJ.2 ⟨rfl, ?_⟩)
 refine ⟨_, _, zPz _ _ w1, zC.2 ?_⟩
 have k2 : Keep (fun _ => False) w1 (w1.alloc (.cells (secV (sec [5]) ++ secV (sec [6])) 37)) := Keep.new _ _ _
 have hb2 : Has (w1.alloc (.cells (secV (sec [5]) ++ secV (sec [6])) 37)) w1.heap.size (.cells (secV (sec [5]) ++ secV (sec [6])) 37 (0, 0)) := Has.new _ _
 have o2 : OwnL yG _ w1.heap.size 37 (some ⟨w1.heap.size, 0, none⟩) 2 2 [sec [5], sec [6]] := OwnL.mk (xs := [sec [5], sec [6]]) (Nat.le_refl _) hb2 (by simp [maxLen]) (by simp [Lay.rows, yG])
 generalize w1.alloc (.cells (secV (sec [5]) ++ secV (sec [6])) 37) = w2 at *
 generalize w1.heap.size = pb at *
 refine zV (v := .agg (cmdC ⟨3, 1, 0, some ⟨pb, 0, none⟩, 2, 2, 0, 0, false⟩)) (fun _ => run_build _ _ _ _ (by kernel_rfl)) (zJ.2 ⟨rfl, ?_⟩)
 have h2 := h1.zX k2
 have k02 := k1.trans k2
 have hcap4 : yV q.g = 4 := by rw [hqg]; rfl
 have ok5 : yD (sec [5]) := H6 (by simp)
 have ok6 : yD (sec [6]) := H6 (by simp)
 have u0 := fun f => zEb g4 f
 have hI0 := zKp (q := q) zPr hqg (by rw [hqr]; decide) 0 0
 refine M6 (c := ⟨3, 1, 0, some ⟨pb, 0, none⟩, 2, 2, 0, 0, false⟩) (xs := [sec [5], sec [6]]) h2 false rfl (hI0.ready (u0 false)) rfl (ZP false (hI0.alone (u0 false))) (by show (gN dk0 _ _ _).2 = false; exact zBx (Or.inr rfl) (by show (1 : Int) ≤ 2; decide) (by show (2 : Int) ≤ 8; decide) (by show (0 : Int) ≤ 1; decide) (by show (1 : Int) + 2 ≤ yV q.g; omega) (by decide)) rfl (fun w' k => ((SlT.of o2).yA k fun i cur hh => ArF.not h2 hh (by decide) (by decide) (by decide) (by decide) (by decide) (by decide) (by decide)).sl)
  (fun k s' => (k = 0 ∧ s' = arS0 g4) ∨ (k = 1 ∧ WaI q (arS0 g4) 0 0 0 17 518 2 (upd now0 1 (sec [5])) s') ∨ (k = 2 ∧ WaI q (arS0 g4) 0 0 0 34 1036 4 (upd (upd now0 1 (sec [5])) 2 (sec [6])) s' ∧ s'.ps.es ≠ [])) (fun _ => False) (Or.inl ⟨rfl, rfl⟩) ?_ ?_ (fun _ _ h => h.elim)
 ·rintro k v s1 w3 R1 hx hiv h3 hn
  rcases hiv with ⟨rfl, rfl⟩ | ⟨rfl, hI⟩ | ⟨rfl, _⟩
  ·cases hx
   refine hI0.putC (u0 false) h3 hqs (by rw [hqr]; decide) (by decide) (by decide) (by decide) (by omega) ok5 (l := 1) (by decide) (by omega) fun s' w' h' k' hI' _ => hn 0 s' w' h' k' (Or.inl ⟨rfl, Or.inr (Or.inl ⟨rfl, hI'⟩)⟩)
  ·cases hx
   refine hI.putC (u0 false) h3 hqs (by rw [hqr]; decide) (by decide) (by decide) (by decide) (by omega) ok6 (l := 2) (by decide) (by omega) fun s' w' h' k' hI' hne => hn 0 s' w' h' k' (Or.inl ⟨rfl, Or.inr (Or.inr ⟨rfl, hI', hne⟩)⟩)
  ·cases hx
 rintro s' w3 hiv h3 k3
 obtain ⟨hI, hne⟩ : WaI q (arS0 g4) 0 0 0 34 1036 4 (upd (upd now0 1 (sec [5])) 2 (sec [6])) s' ∧ s'.ps.es ≠ [] := by
  rcases hiv with ⟨h, _⟩ | ⟨h, _⟩ | ⟨_, h⟩
  ·cases h
  ·cases h
  ·exact h
 refine zJ.2 ⟨rfl, ?_⟩
 have k03 : Keep (fun _ => False) w w3 := k02.trans' k3 fun i hi e => by have := ArF.low hf e; omega
 clear h2 o2 hb2 k2 k3
 refine zV (v := .agg (cmdC ⟨2, 1, 2, none, 0, 0, 0, 0, false⟩)) (fun _ => run_build _ _ _ _ (by kernel_rfl)) (zJ.2 ⟨rfl, ?_⟩)
 obtain ⟨now, hg, _⟩ := hI.qv.good
 have r1 := hI.qv.read (l := 1) (by decide) (by omega)
 have r2 := hI.qv.read (l := 2) (by decide) (by omega)
 have e1 : upd (upd now0 1 (sec [5])) 2 (sec [6]) 1 = sec [5] := rfl
 have e2 : upd (upd now0 1 (sec [5])) 2 (sec [6]) 2 = sec [6] := rfl
 rw [e1] at r1
 rw [e2] at r2
 refine LM (c := ⟨2, 1, 2, none, 0, 0, 0, 0, false⟩) h3 true rfl (hI.ready (u0 true)) rfl (ZP true (hI.alone (u0 true))) (N7 (by rw [hI.like.d]; rfl) (Or.inl rfl) (by show (1 : Int) ≤ 2; decide) (by show (2 : Int) ≤ 8; decide) (by show (0 : Int) ≤ 1; decide) (by show (1 : Int) + 2 ≤ yV q.g; omega) (by decide)) hg.ss.ok (fun k hk => ?_) fun p cc w4 h4 k4 o4 => zJ.2 ⟨rfl, ?_⟩
 ·have hk : (k : Int) < 2 := hk
  have : k = 0 ∨ k = 1 := by omega
  rcases this with rfl | rfl
  ·show (jL q s' 1).2 = 0; rw [r1]
  ·show (jL q s' 2).2 = 0; rw [r2]
 have hrs : Z8 q s' 1 (2 : Int).toNat = [sec [5], sec [6]] := by
  show [(jL q s' 1).1, (jL q s' 2).1] = _
  rw [r1, r2]
 have o4 : OwnL yG w4 w3.heap.size 37 p 2 cc (Z8 q s' 1 (2 : Int).toNat) := o4
 rw [hrs] at o4
 have k04 : Keep (fun _ => False) w w4 := k03.trans' k4 fun i hi e => by have := ArF.low hf e; omega
 refine yN (by rw [Z5]; rfl) rfl (vE _ _ _ _ _) fun w5 hb5 k5 z5 => ?_
 have o5 := o4.keep k5 (by simp)
 have h5 := h4.zX k5
 refine zG (v := .int .i64 1) hb5 rfl (zA.2 ((zT (q := _)).2 ?_))
 refine zG (v := .slice p 2 cc) hb5 rfl (zC.2 ((zT (q := _)).2 ?_))
 refine zG (v := .slice p 2 cc) hb5 rfl (zC.2 ?_)
 refine o5.ldA (x := sec [5]) rfl (by decide) rfl ?_
 rw [evS]
 refine zV (v := .agg (secV (sec [5]))) (fun _ => QI _ _) (zJ.2 ⟨rfl, ?_⟩)
 refine zHm ok5 ok5 fun r hr => ?_
 rw [hr.2 rfl]
 refine (zT (q := _)).2 ?_
 refine zG (v := .slice p 2 cc) hb5 rfl (zC.2 ?_)
 refine o5.ldA (x := sec [6]) rfl (by decide) rfl ?_
 rw [evS]
 refine zV (v := .agg (secV (sec [6]))) (fun _ => QI _ _) (zJ.2 ⟨rfl, ?_⟩)
 refine zHm ok6 ok6 fun r hr => ?_
 rw [hr.2 rfl]
 refine (zT (q := _)).2 ?_
 refine QL h5 (zA.2 (zF.2 ?_))
 have hlen : s'.ps.es.length = 1 := by
  have h6 := hI.room
  rw [hqr] at h6
  have : s'.ps.es.length ≠ 0 := fun e => hne (List.length_eq_zero_iff.1 e)
  omega
 rw [hlen]
 exact hK w5 (k04.trans k5)
end calls
end Go.Proofs
namespace Go.Proofs
open Go.Ev
set_option maxRecDepth 100000
def vC (x : Int) (y : Int) (z : Int) (lbasp : Option Addr) (lbasl : Nat) (lbasc : Nat) (d : Int) (e2 : Int) (w : World) (R : Value → World → Prop) : Prop :=
 zB Tryz.prog 12 #[.int .u8 x, .int .u8 y, .int .u8 z] w fun v w => OpA 3 v fun cs => Alc 24 (zc Tryz.prog 24) w fun b w => StA 3 b 0 cs w fun w => LdA 3 b 0 (At w) fun
 cs1 => zB Tryz.prog 13 #[.agg cs1, .int .i64 5] w fun v1 w => T2 v1 fun v2 v3 => OpN v2 fun b1 o => OpI .i64 v3 fun n => zB Tryz.prog 14 #[] w fun v4 w => OpB v4 fun
 g => Req ((!g) = (!g)) (Req ((!g) = (!g)) (Req ((cond (!g) true (n != 0)) = (cond (!g) true (n != 0))) (Req ((cond (!g) true (n != 0)) = (cond (!g) true (n != 0))) (Cb
 (cond (cond (!g) true (n != 0)) true false) (Ret [] (R (.bool false) w)) (zB Tryz.prog 15 #[.pointer (some ⟨b1, o, none⟩)] w fun v5 w => OpI .i64 v5 fun n1 => DoV
 Tryz.prog (Instr.makeSlice 32 (.int .i64 n1) (.int .i64 n1)) w fun v6 w => OpS v6 fun p l c => yC (σ := Int × Unit) (fun _ s1 w K1 => Req ((decide (s1.1 < ((lbasl :
 Nat) : Int))) = (decide (s1.1 < ((lbasl : Nat) : Int)))) (Req ((decide (s1.1 < ((lbasl : Nat) : Int))) = (decide (s1.1 < ((lbasl : Nat) : Int)))) (Cb (cond (decide (s1.1 <
 ((lbasl : Nat) : Int))) (decide (s1.1 < 60)) false) (IdxS lbasp lbasl s1.1 1 fun b2 o1 => LdV b2 o1 (At w) fun v7 => OpI .u8 v7 fun n2 => Req (n1 ≠ 0) (Req ((2 : Int) ≠ 0)
 (zB Tryz.prog 17 #[.int .i64 s1.1, .int .i64 (Int.tmod (IntKind.wrap .i64 n2) n1)] w fun v8 w => OpA 16 v8 fun cs2 => DoV Tryz.prog (Instr.buildSlice 32 1 #[(0, .agg
 cs2)]) w fun v9 w => OpS v9 fun p1 l1 c1 => DoQ Tryz.prog (Instr.build 41 #[(0, .int .i64 3), (1, .int .i64 (Int.tmod (IntKind.wrap .i64 n2) n1)), (3, .slice p1 l1 c1)])
 (At w) fun v10 => OpA 7 v10 fun cs3 => zB Tryz.prog 16 #[.pointer (some ⟨b1, o, none⟩), .int .i64 (Int.tmod s1.1 2), .int .i64 0, .agg cs3] w fun v11 w => OpA 3 v11 fun
 cs4 => Fld cs4 0 fun v12 => OpI .i64 v12 fun n3 => Cb (n3 != 1) (Ret [] (R (.bool false) w)) (zB Tryz.prog 17 #[.int .i64 s1.1, .int .i64 (Int.tmod (IntKind.wrap .i64
 n2) n1)] w fun v13 w => OpA 16 v13 fun cs5 => IdxS p l (Int.tmod (IntKind.wrap .i64 n2) n1) 16 fun b3 o2 => StA 16 b3 o2 cs5 w fun w => K1 (IntKind.wrap .i64 (s1.1 + 1),
 ()) w)))) (zB Tryz.prog 18 #[.pointer (some ⟨b1, o, none⟩)] w fun v14 w => OpI .i64 v14 fun n4 => yC (σ := Int × Unit) (fun _ s2 w K2 => Cb (decide (s2.1 < n4))
 (zB Tryz.prog 18 #[.pointer (some ⟨b1, o, none⟩)] w fun v15 w => OpI .i64 v15 fun n5 => Cb (n5 != (IntKind.wrap .i64 (n4 - s2.1))) (Ret [] (R (.bool false) w)) (zB
 Tryz.prog 19 #[.pointer (some ⟨b1, o, none⟩)] w fun v16 w => OpI .i64 v16 fun n6 => Cb (n6 != 0) (Ret [] (R (.bool false) w)) (K2 (IntKind.wrap .i64 (s2.1 + 1), ()) w)))
 (zB Tryz.prog 19 #[.pointer (some ⟨b1, o, none⟩)] w fun v17 w => OpI .i64 v17 fun n7 => Cb (n7 != 10) (Ret [] (R (.bool false) w)) (zB Tryz.prog 18 #[.pointer (some
 ⟨b1, o, none⟩)] w fun v18 w => OpI .i64 v18 fun n8 => Cb (n8 != 0) (Ret [] (R (.bool false) w)) (LdV b 0 (At w) fun v19 => OpI .i64 v19 fun n9 => Req (n9 ≠ 0) (zB
 Tryz.prog 20 #[.pointer (some ⟨b1, o, none⟩), .int .i64 (Int.tmod (IntKind.wrap .i64 d) n9)] w fun v20 w => OpI .i64 v20 fun n10 => Cb (n10 != 0) (Ret [] (R (.bool false)
 w)) (LdV b 0 (At w) fun v21 => OpI .i64 v21 fun n11 => Req (n11 ≠ 0) (zB Tryz.prog 20 #[.pointer (some ⟨b1, o, none⟩), .int .i64 (Int.tmod (IntKind.wrap .i64 e2) n11)]
 w fun v22 w => OpI .i64 v22 fun n12 => xV (σ := Bool × Unit) (fun J3 => yJ w fun S w => LdV b 0 S fun v23 => OpI .i64 v23 fun n13 => Req (n13 ≠ 0) (LdV b 0 S fun v24
 => OpI .i64 v24 fun n14 => Req (n14 ≠ 0) (Cb (!((n12 == 5) == (Int.tmod (IntKind.wrap .i64 d) n13 == (Int.tmod (IntKind.wrap .i64 e2) n14)))) (Hld (S w) (J3 (true, ()) w))
 (Cb (n12 != 0) (Cb (n12 != 5) (Hld (S w) (J3 (true, ()) w)) (zB Tryz.prog 21 #[.pointer (some ⟨b1, o, none⟩), .bool true, .bool true] w fun v25 w => OpI .i64 v25 fun
 n15 => Hld (S w) (J3 (n15 != 0, ()) w))) (zB Tryz.prog 21 #[.pointer (some ⟨b1, o, none⟩), .bool true, .bool true] w fun v26 w => OpI .i64 v26 fun n16 => Hld (S w) (J3
 (n16 != 0, ()) w)))))) (fun _ s3 w => Cb s3.1 (Ret [] (R (.bool false) w)) (yC (σ := Int × Unit) (fun _ s4 w K4 => Cb (decide (s4.1 < n1)) (Req ((2 : Int) ≠ 0) (DoQ
 Tryz.prog (Instr.build 41 #[(0, .int .i64 2), (1, .int .i64 s4.1), (2, .int .i64 1)]) (At w) fun v27 => OpA 7 v27 fun cs6 => zB Tryz.prog 16 #[.pointer (some ⟨b1, o,
 none⟩), .int .i64 (Int.tmod s4.1 2), .int .i64 0, .agg cs6] w fun v28 w => OpA 3 v28 fun cs7 => Alc 34 (zc Tryz.prog 34) w fun b4 w => StA 3 b4 0 cs7 w fun w => LdV b4 0
 (At w) fun v29 => OpI .i64 v29 fun n17 => Cb (n17 != 1) (Drw w fun w => Ret [] (R (.bool false) w)) (LdV b4 2 (At w) fun v30 => OpS v30 fun p2 l2 c2 => Cb (((l2 : Nat) :
 Int) != 1) (Drw w fun w => Ret [] (R (.bool false) w)) (LdV b4 2 (At w) fun v31 => OpS v31 fun p3 l3 c3 => IdxS p3 l3 0 16 fun b5 o3 => LdA 16 b5 o3 (At w) fun cs8 => IdxS
 p l s4.1 16 fun b6 o4 => LdA 16 b6 o4 (At w) fun cs9 => EqB Tryz.prog .neq 37 (.tmp 177) (.tmp 181) (.agg cs8 : Value) (.agg cs9 : Value) (At w) fun g1 => Drw w fun w =>
 Cb g1 (Ret [] (R (.bool false) w)) (K4 (IntKind.wrap .i64 (s4.1 + 1), ()) w))))) (Ret [] (R (.bool true) w))) (0, ()) w))))))))) (0, ()) w)))) (0, ()) w)))))
theorem qF {x : Int} {y : Int} {z : Int} {lbasp : Option Addr} {lbasl : Nat} {lbasc : Nat} {d : Int} {e2 : Int} {w : World} {R : Value → World → Prop} (h : vC x y z lbasp lbasl lbasc d e2 w R) : zB Tryz.prog 3 #[.int .u8 x, .int .u8 y, .int .u8 z, .slice lbasp lbasl lbasc, .int .u8 d, .int .u8 e2] w R := by
 exact zE (args := [.int .u8 x, .int .u8 y, .int .u8 z, .slice lbasp lbasl lbasc, .int .u8 d, .int .u8 e2]) (XZ [(8, [(18, (.int .i64))]), (16, [(21, (.int .i64))]), (26, [(23, (.int .i64))])] [] [] [] [150, 100031] [] [(23, [(152, .bool)])]) zD Tryz.func3 rfl rfl (by kernel_rfl) h
end Go.Proofs
namespace Go.Proofs
open Go Go.Ev Go.RowKit
set_option maxRecDepth 100000
def WI (b1 o : Nat) (p : Option Addr) (l : Nat) (n1 : Int) (ox oy : Operand) (w : World) (R : Value → World → Prop) : Prop :=
 yC (σ := Int × Unit) (fun _ s4 w K4 => Cb (decide (s4.1 < n1)) (Req ((2 : Int) ≠ 0) (DoQ Tryz.prog (Instr.build 41 #[(0, .int .i64 2), (1, .int .i64 s4.1), (2, .int .i64 1)]) (At w) fun v27 => OpA 7 v27 fun cs6 =>
  zB Tryz.prog 16 #[.pointer (some ⟨b1, o, none⟩), .int .i64 (Int.tmod s4.1 2), .int .i64 0, .agg cs6] w fun v28 w => OpA 3 v28 fun cs7 => Alc 34 (zc Tryz.prog 34) w fun b4 w => StA 3 b4 0 cs7 w fun w => LdV b4 0 (At w) fun v29 => OpI .i64 v29 fun n17 =>
   Cb (n17 != 1) (Drw w fun w => Ret [] (R (.bool false) w)) (LdV b4 2 (At w) fun v30 => OpS v30 fun p2 l2 c2 => Cb (((l2 : Nat) : Int) != 1) (Drw w fun w => Ret [] (R (.bool false) w)) (LdV b4 2 (At w) fun v31 => OpS v31 fun p3 l3 c3 => IdxS p3 l3 0 16 fun b5 o3 => LdA 16 b5 o3 (At w) fun cs8 =>
    IdxS p l s4.1 16 fun b6 o4 => LdA 16 b6 o4 (At w) fun cs9 => EqB Tryz.prog .neq 37 ox oy (.agg cs8 : Value) (.agg cs9 : Value) (At w) fun g1 => Drw w fun w => Cb g1 (Ret [] (R (.bool false) w)) (K4 (IntKind.wrap .i64 (s4.1 + 1), ()) w))))) (Ret [] (R (.bool true) w))) (0, ()) w
section calls
variable {w w0 : World} {R : Value → World → Prop}
theorem zEk (i : Nat) : ∃ f, Int.tmod (i : Int) 2 = zZ f := by
 rw [Int.tmod_eq_emod_of_nonneg (by omega)]
 by_cases hev : i % 2 = 0
 ·exact ⟨false, by show ((i : Int)) % 2 = 0; omega⟩
 ·exact ⟨true, by show ((i : Int)) % 2 = 1; omega⟩
theorem zMb {q : AB} {s0 s : AS} {ep x y S A L : Int} {fin : Int → Sec} (hI : WaI q s0 ep x y S A L fin s) (hu : ∀ f, Use s0 ep f) (hd0 : s0.d = dk0) (ha : ArAt w q 0 s) {B n : Nat} {p : Option Addr} (hn : (n : Int) = yV q.g) (hn2 : n ≤ 100000) (ho : OwnL yG w B 37 p n n (nowA n fin)) {N0 : Nat} (hfr : ArFrom q N0) (hN0 : w0.heap.size ≤ N0) (hk0 : Keep (fun _ => False) w0 w) {ox oy : Operand} (hK : ∀ w', Keep (fun _ => False) w0 w' → R (.bool true) w') :
  WI q.a 0 p n (n : Int) ox oy w R := by
 unfold WI
 refine zP (σ := Int × Unit) (fun st w' => ∃ j : Nat, st.1 = (j : Int) ∧ j ≤ n ∧ ArAt w' q 0 s ∧ OwnL yG w' B 37 p n n (nowA n fin) ∧ Keep (fun _ => False) w0 w') (fun st _ => ((n : Int) - st.1).toNat) ⟨0, rfl, by omega, ha, ho, hk0⟩ ?_
 clear ha ho hk0
 rintro _ ⟨j1, u1⟩ w15 ⟨j, hj, hjn, ha, o, kk⟩
 simp only at hj ⊢
 subst hj
 refine zN (fun hc => ?_) (fun hc => zF.2 (hK w15 kk))
 have hc : j < n := by simp at hc; omega
 obtain ⟨f, hf⟩ := zEk j
 refine ⟨by decide, ?_⟩
 refine zV (v := .agg (cmdC ⟨2, (j : Int), 1, none, 0, 0, 0, 0, false⟩)) (fun _ => run_build _ _ _ _ (by kernel_rfl)) (zJ.2 ⟨rfl, ?_⟩)
 rw [hf]
 refine hI.zQq (hu f) hd0 ha (l := (j : Int)) (by omega) (by omega) fun p' cc w16 ha4 k4 o4 => zJ.2 ⟨rfl, ?_⟩
 refine yN (by rw [Z5]; rfl) rfl (vE _ _ _ _ _) fun w17 hb17 k17 z17 => ?_
 refine zG (v := .int .i64 1) hb17 rfl (zA.2 ((zH (p := _)).2 ?_))
 refine zG (v := .slice p' 1 cc) hb17 rfl (zC.2 ((zH (p := _)).2 ?_))
 refine zG (v := .slice p' 1 cc) hb17 rfl (zC.2 ?_)
 refine (o4.keep k17 (by simp)).ldA (x := fin (j : Int)) rfl (by decide) rfl ?_
 rw [evS]
 have o5 := (YU ha k4 o).keep k17 (by simp)
 refine o5.ldA (x := fin (j : Int)) rfl (by omega) (by rw [Int.toNat_natCast]; exact Q9 hc fin) ?_
 rw [evS]
 refine zDu (hI.qv.fok _) (hI.qv.fok _) fun r hr => ?_
 have hrf : r = false := by cases r <;> simp_all
 subst hrf
 intro dd2
 refine (zH (p := _)).2 ?_
 have k18 := k17.dr dd2
 rw [zW (by omega) (by omega)]
 refine ⟨_, ?_, ⟨j + 1, by show (j : Int) + 1 = ((j + 1 : Nat) : Int); omega, hc, ha4.zX k18, (YU ha k4 o).keep k18 (by simp), (kk.trans' k4 fun i hi e => by have := ArF.low hfr e; omega).trans k18⟩, rfl⟩
 show ((n : Int) - ((j : Int) + 1)).toNat < ((n : Int) - (j : Int)).toNat
 omega
theorem zAf {q : AB} {lk : Int} {s : AS} (h : ArAt w q lk s) (hon : s.ps.pw.on = true) {n : Nat} (hn : n < s.ds.length) (hal : (s.ds.getD n dsk0).dead = true) (hK : R (.int .i64 5) w) : zB Tryz.prog 20 #[.pointer (some ⟨q.a, 0, none⟩), .int .i64 (n : Int)] w R := by
 apply qA
 unfold uB
 obtain ⟨b, r, D, hb, hD, hdk, hdl⟩ := h.set.get (show n < s.ss.ds.length from hn)
 have hDg : s.ds.getD n dsk0 = D := by
  have hD : s.ds[n]? = some D := hD
  rw [List.getD_eq_getElem?_getD, hD]; rfl
 refine zHc h hon hb (yM.2 (WJ.2 (zA.2 ((zH (p := _)).2 ?_))))
 refine GS hdk (zM.2 ?_)
 rw [← hDg, hal]
 exact (zT (q := _)).2 (zF.2 hK)
theorem zMi {q : AB} {lk : Int} {s : AS} (ha : ArAt w q lk s) {B n : Nat} {fin : Int → Sec} (o : OwnL yG w B 37 (some ⟨B, 0, none⟩) n n (nowA n fin)) {l : Nat} (hl : l < n) {d : Sec} {K : World → Prop}
  (hK : ∀ w', ArAt w' q lk s → OwnL yG w' B 37 (some ⟨B, 0, none⟩) n n (nowA n (upd fin (l : Int) d)) → Keep (fun k => k = B) w w' → K w') : IdxS (some ⟨B, 0, none⟩) n (l : Int) 16 fun b o => StA 16 b o (secV d) w K := by
 refine o.stA (n := 16) rfl (by omega) (by omega) d (evS d).symm fun w11 o11 k11 z11 => ?_
 rw [Int.toNat_natCast, zIv] at o11
 obtain ⟨_, cur, hh⟩ := yI o B 0 rfl
 have k11' : Keep (fun k => k = B) w w11 := k11.mono fun i e => by cases e; rfl
 exact hK w11 (ha.T8 hh (by decide) (by decide) (by decide) (by decide) (by decide) (by decide) (by decide) (by decide) (by decide) (by decide) (by decide) k11') o11 k11'
theorem MM {q : AB} {s0 s : AS} {ep x y S A L : Int} {fin : Int → Sec} (hI : WaI q s0 ep x y S A L fin s) (hu : Use s0 ep false) : YB s = some false := by
 unfold YB
 rw [hI.ready hu, if_pos rfl]
set_option maxHeartbeats 1000000 in
theorem zN4 {x y z d e2 : Int} {lp : Option Addr} {ll lc : Nat} {xs : List Int} (hx : 0 ≤ x ∧ x ≤ 255) (hy : 0 ≤ y ∧ y ≤ 255) (hz : 0 ≤ z ∧ z ≤ 255) (hd : 0 ≤ d ∧ d ≤ 255) (he2 : 0 ≤ e2 ∧ e2 ≤ 255) (hxs : SlL zU w lp ll xs) (hxb : By xs)
  (hK : ∀ w', Keep (fun _ => False) w w' → R (.bool true) w') : zB Tryz.prog 3 #[.int .u8 x, .int .u8 y, .int .u8 z, .slice lp ll lc, .int .u8 d, .int .u8 e2] w R := by
 apply qF
 unfold vC
 obtain rfl : ll = xs.length := hxs.1
 refine zOd hx hy hz fun w1 k1 => zJ.2 ⟨rfl, ?_⟩
 refine yN (by kernel_rfl) rfl (zBn _) fun w2 hb2 k2 z2 => ?_
 have hg := zJk (a := x) (b := y) (c := z)
 generalize zJl x y z = g at *
 have hgd : 4 ≤ g.d ∧ g.d ≤ 32 := hg.d
 have hsz := hg.size
 have hcap := hg.cap
 refine zQ hb2 rfl ?_
 refine zLi hg (by decide) (by decide) fun q w3 hqg hqr hqs h3 hf k3 => yM.2 (zO.2 (zA.2 ?_))
 refine zLo fun w4 k4 => zM.2 ⟨rfl, rfl, rfl, rfl, (zH (p := _)).2 ?_⟩
 refine zAg (h3.zX k4) fun w6 k6 => zA.2 ?_
 rw [hqg]
 have hcapE : (g.d - 2) * g.c * g.s = yV g := rfl
 rw [hcapE] at hcap ⊢
 obtain ⟨n, hn⟩ : ∃ n : Nat, (n : Int) = yV g := ⟨(yV g).toNat, by omega⟩
 obtain ⟨w7, hr7, o7, k7, z7⟩ := zEq w6 (n := n) (by omega)
 rw [hn] at hr7
 refine ⟨_, _, hr7, zC.2 ?_⟩
 have k37 := (k4.trans k6).trans k7
 have h7 := h3.zX k37
 have hb7 := (k3.trans k37).has hb2 (by simp)
 have k02 := k1.trans k2
 have k07 := (k02.trans k3).trans k37
 have hN0 : w.heap.size ≤ w2.heap.size := k02.size
 have hBlow : w.heap.size ≤ w6.heap.size := ((k02.trans k3).trans (k4.trans k6)).size
 rw [zFj] at o7
 clear h3 hb2 k1 k2 k3 k4 k6 k7 hr7 k02 k37
 generalize w1.heap.size = b at *
 generalize w2.heap.size = N0 at *
 generalize hB : w6.heap.size = B at *
 obtain ⟨ka, hka⟩ : ∃ ka : Nat, (ka : Int) = d % g.d := ⟨(d % g.d).toNat, by have := Int.emod_nonneg d (show g.d ≠ 0 by omega); omega⟩
 obtain ⟨kb, hkb⟩ : ∃ kb : Nat, (kb : Int) = e2 % g.d := ⟨(e2 % g.d).toNat, by have := Int.emod_nonneg e2 (show g.d ≠ 0 by omega); omega⟩
 have hkad : (ka : Int) < g.d := by rw [hka]; exact Int.emod_lt_of_pos d (by omega)
 have hkbd : (kb : Int) < g.d := by rw [hkb]; exact Int.emod_lt_of_pos e2 (by omega)
 have hkaT : Int.tmod (IntKind.wrap .i64 d) g.d = (ka : Int) := by rw [zW (by omega) (by omega), Int.tmod_eq_emod_of_nonneg hd.1, hka]
 have hkbT : Int.tmod (IntKind.wrap .i64 e2) g.d = (kb : Int) := by rw [zW (by omega) (by omega), Int.tmod_eq_emod_of_nonneg he2.1, hkb]
 have hu := fun f => zEb g f
 have hcapq : yV q.g ≤ 100000 := by rw [hqg]; omega
 have hroom : 1 ≤ q.pb.room ∧ q.pb.room ≤ 64 := by rw [hqr]; decide
 have hI0 := zKp (q := q) hg hqg hroom.1 ka ka
 refine zP (σ := Int × Unit) (fun st w' => ∃ (i : Nat) (s : AS) (fin : Int → Sec), st.1 = (i : Int) ∧ i ≤ xs.length ∧ i ≤ 60 ∧ ArAt w' q 0 s ∧ WaI q (arS0 g) 0 ka ka (17 * (i : Int)) (518 * (i : Int)) (2 * (i : Int)) fin s ∧ OwnL yG w' B 37 (some ⟨B, 0, none⟩) n n (nowA n fin) ∧ Has w' b (.cells (geoV g) 24 (0, 0)) ∧ Keep (fun _ => False) w w') (fun st _ => (60 - st.1).toNat) ⟨0, arS0 g, now0, rfl, by omega, by omega, h7, hI0, o7, hb7, k07⟩ ?_
 clear h7 hI0 o7 hb7 k07
 rintro _ ⟨i1, u1⟩ w8 ⟨i, s, fin, hi, hil, hi60, ha, hI, o, hb, kk⟩
 simp only at hi ⊢
 subst hi
 refine ⟨by trivial, by trivial, ?_⟩
 refine zN (fun hc => ?_) (fun hc => ?_)
 ·have hc : i < xs.length ∧ i < 60 := by
   cases h1 : decide ((i : Int) < ((xs.length : Nat) : Int))
   ·rw [h1] at hc; cases hc
   ·rw [h1] at hc
    simp at h1 hc
    omega
  obtain ⟨v, hv⟩ : ∃ v, xs[i]? = some v := ⟨_, List.getElem?_eq_getElem hc.1⟩
  have hv8 := hxb v (List.mem_of_getElem? hv)
  refine (hxs.yA kk (by simp)).ld0 (x := v) (v := .int .u8 v) rfl (by omega) (by rw [Int.toNat_natCast]; exact hv) rfl (zA.2 ⟨by omega, by decide, ?_⟩)
  obtain ⟨l, hl1⟩ : ∃ l : Nat, (l : Int) = v % yV g := ⟨(v % yV g).toNat, by have := Int.emod_nonneg v (show yV g ≠ 0 by omega); omega⟩
  have hl2 : (l : Int) < yV g := by rw [hl1]; exact Int.emod_lt_of_pos v (by omega)
  have hlt : Int.tmod (IntKind.wrap .i64 v) (yV g) = (l : Int) := by rw [zW (by omega) (by omega), Int.tmod_eq_emod_of_nonneg hv8.1, hl1]
  rw [hlt]
  refine zOc fun w9 k9 => zJ.2 ⟨rfl, ?_⟩
  generalize hdat : oneS (i : Int) (l : Int) = dat
  have hdok : yD dat := by rw [← hdat]; exact zMm _ _
  refine ⟨_, _, zH6 _ w9, zC.2 ?_⟩
  have k10 : Keep (fun _ => False) w9 (w9.alloc (.cells (secV dat) 37)) := Keep.new _ _ _
  have hb10 : Has (w9.alloc (.cells (secV dat) 37)) w9.heap.size (.cells (secV dat) 37 (0, 0)) := Has.new _ _
  have o10 : OwnL yG _ w9.heap.size 37 (some ⟨w9.heap.size, 0, none⟩) 1 1 [dat] := OwnL.mk (xs := [dat]) (Nat.le_refl _) hb10 (by simp [maxLen]) (by simp [Lay.rows, yG])
  have ka10 := k9.trans k10
  have ha10 := ha.zX ka10
  have oN10 := o.keep ka10 (by simp)
  have hbb10 := ka10.has hb (by simp)
  have kk10 := kk.trans ka10
  clear ha o hb kk k9 k10 ka10 hb10
  generalize w9.alloc (.cells (secV dat) 37) = w10 at *
  refine zV (v := .agg (cmdC ⟨3, (l : Int), 0, some ⟨w9.heap.size, 0, none⟩, 1, 1, 0, 0, false⟩)) (fun _ => run_build _ _ _ _ (by kernel_rfl)) (zJ.2 ⟨rfl, ?_⟩)
  obtain ⟨f, hside⟩ := zEk i
  rw [hside]
  refine hI.write (hu f) rfl ha10 hqs hroom (by omega) (by omega) (by omega) hcapq hdok (l := (l : Int)) (by omega) (by rw [hqg]; exact hl2) (fun w' k' => ((SlT.of o10).yA k' fun i cur hh => ArF.not ha10 hh (by decide) (by decide) (by decide) (by decide) (by decide) (by decide) (by decide)).sl) fun s' w11 hI' ha11 k11 => zJ.2 ⟨rfl, ?_⟩
  have oN11 := YU ha10 k11 oN10
  have hbb11 := k11.has hbb10 (ArF.not ha10 hbb10 (by decide) (by decide) (by decide) (by decide) (by decide) (by decide) (by decide))
  have kk11 : Keep (fun _ => False) w w11 := kk10.trans' k11 fun i hi e => by have := ArF.low hf e; omega
  clear ha10 oN10 hbb10 kk10 k11 o10
  refine ⟨.int .i64 1, rfl, zA.2 ((zH (p := _)).2 ?_)⟩
  refine zOc fun w12 k12 => zJ.2 ⟨rfl, ?_⟩
  rw [hdat]
  refine zMi (ha11.zX k12) (oN11.keep k12 (by simp)) (by omega) fun w13 ha13 o13 k13 => ?_
  have hbb12 := k12.has hbb11 (by simp)
  obtain ⟨_, cur, hh⟩ := yI (oN11.keep k12 (by simp)) B 0 rfl
  have hbb13 := k13.has hbb12 (wH hbb12 hh (by decide))
  rw [zW (by omega) (by omega)]
  refine ⟨_, by omega, ⟨i + 1, s', upd fin (l : Int) dat, by omega, by omega, by omega, ha13, hI'.mono (by omega) (by omega) (by omega), o13, hbb13, (kk11.trans k12).trans' k13 fun i hi e => by omega⟩, rfl⟩
 clear hc hil hxs
 refine QL ha (zA.2 ?_)
 have hroom5 := hI.room
 rw [hqr] at hroom5
 generalize hD : s.ps.es.length = D at *
 have hI := hI.mono (S' := 1020) (A' := 31080) (L' := 120) (by omega) (by omega) (by omega)
 refine zP (σ := Int × Unit) (fun st w' => ∃ (j : Nat) (s : AS), st.1 = (j : Int) ∧ s.ps.es.length + j = D ∧ ArAt w' q 0 s ∧ WaI q (arS0 g) 0 ka ka (1020 + 15 * (j : Int)) (31080 + 444 * (j : Int)) (120 + (j : Int)) fin s ∧ OwnL yG w' B 37 (some ⟨B, 0, none⟩) n n (nowA n fin) ∧ Has w' b (.cells (geoV g) 24 (0, 0)) ∧ Keep (fun _ => False) w w') (fun st _ => ((D : Int) - st.1).toNat) ⟨0, s, rfl, by omega, ha, hI.mono (by omega) (by omega) (by omega), o, hb, kk⟩ ?_
 clear ha hI o hb kk hD
 rintro _ ⟨j1, u2⟩ w9 ⟨j, s2, hj, hjD, ha, hI, o, hb, kk⟩
 simp only at hj ⊢
 subst hj
 refine zN (fun hc => ?_) (fun hc => ?_)
 ·have hc : j < D := by simp at hc; omega
  refine QL ha (zA.2 ?_)
  rw [zW (x := (D : Int) - (j : Int)) (by omega) (by omega), show (((s2.ps.es.length : Nat) : Int) != (D : Int) - (j : Int)) = false by simp; omega]
  refine (zH (p := _)).2 ?_
  refine hI.flush (hu false) (MM hI (hu false)) ha hqs hroom.2 (by omega) (by omega) (by omega) hcapq (fun e => by rw [e] at hjD; simp at hjD; omega) fun p w10 hp ha10 k10 hI10 he10 => zA.2 ((zH (p := _)).2 ?_)
  have hdl := zNb hI.qv.nd hp
  rw [zW (by omega) (by omega)]
  exact ⟨_, by omega, ⟨j + 1, _, by omega, by rw [he10]; omega, ha10, hI10.mono (by omega) (by omega) (by omega), YU ha k10 o, k10.has hb (ArF.not ha hb (by decide) (by decide) (by decide) (by decide) (by decide) (by decide) (by decide)), kk.trans' k10 fun i hi e => by have := ArF.low hf e; omega⟩, rfl⟩
 have hes : s2.ps.es = [] := List.length_eq_zero_iff.1 (by simp at hc; omega)
 have hI := hI.mono (S' := 1200) (A' := 34000) (L' := 140) (by omega) (by omega) (by omega)
 clear hc hjD
 obtain ⟨now1, hg1, hnow1⟩ := hI.qv.good
 have hon : s2.ps.pw.on = true := hg1.lit.1
 refine LK ha hon (MM hI (hu false)) hes fun w10 ha10 k10 => zA.2 ((zH (p := _)).2 ?_)
 have o10 := YU ha k10 o
 have hb10 := k10.has hb (ArF.not ha hb (by decide) (by decide) (by decide) (by decide) (by decide) (by decide) (by decide))
 have kk10 : Keep (fun _ => False) w w10 := kk.trans' k10 fun i hi e => by have := ArF.low hf e; omega
 clear ha o hb kk k10
 refine QL ha10 (zA.2 ?_)
 rw [hes]
 refine (zH (p := _)).2 ?_
 refine zG (v := .int .i64 g.d) hb10 rfl (zA.2 ⟨by omega, ?_⟩)
 rw [hkaT]
 have hnum : (s2.ds.length : Int) = q.g.d := hg1.ss.num
 rw [hqg] at hnum
 have al : ∀ j : Nat, (s2.ds.getD j dsk0).dead = false := fun j => by
  have h1 := hI.dead (j : Int)
  have h2 : xN (arS0 g).ss (j : Int) = false := zFm g pw0 _
  rw [h2] at h1
  unfold xN at h1
  rw [Int.toNat_natCast] at h1
  exact h1
 refine zCd ha10 hon (n := ka) (by omega) (al ka) ⟨if ka = 0 then 1 else 0, by split <;> omega, by split <;> omega, al _⟩ fun w11 ha11 k11 => zA.2 ((zH (p := _)).2 ?_)
 have o11 := YU ha10 k11 o10
 have hb11 := k11.has hb10 (ArF.not ha10 hb10 (by decide) (by decide) (by decide) (by decide) (by decide) (by decide) (by decide))
 have kk11 : Keep (fun _ => False) w w11 := kk10.trans' k11 fun i hi e => by have := ArF.low hf e; omega
 have qv11 : Qv q (UU s2 ka) fin 0 ka ka := hI.qv.fail (by rw [hqg]; exact hkad)
 clear ha10 o10 hb10 kk10 k11
 refine zG (v := .int .i64 g.d) hb11 rfl (zA.2 ⟨by omega, ?_⟩)
 rw [hkbT]
 have hlen2 : (UU s2 ka).ds.length = s2.ds.length := by
  show (s2.ds.set ka _).length = _
  rw [List.length_set]
 have al2 : ∀ j : Nat, (UU s2 ka).ds.getD j dsk0 = if ka = j then { s2.ds.getD ka dsk0 with dead := true } else s2.ds.getD j dsk0 := fun j => qJ (by omega) _ _
 have go : ∀ (s3 : AS) (w12 : World) (f : Int) (y' : Int), (f = 0 ∨ f = 5) → (f = 5 ↔ ka = kb) → ArAt w12 q 0 s3 → Qv q s3 fin 0 ka y' → s3.ps = s2.ps → s3.later = s2.later → s3.d = s2.d → OwnL yG w12 B 37 (some ⟨B, 0, none⟩) n n (nowA n fin) → Has w12 b (.cells (geoV g) 24 (0, 0)) → Keep (fun _ => False) w w12 →
   xV (σ := Bool × Unit) (fun J3 => yJ w12 fun S w => LdV b 0 S fun v23 => OpI .i64 v23 fun n13 => Req (n13 ≠ 0) (LdV b 0 S fun v24 => OpI .i64 v24 fun n14 => Req (n14 ≠ 0) (Cb (!((f == 5) == (Int.tmod (IntKind.wrap .i64 d) n13 == (Int.tmod (IntKind.wrap .i64 e2) n14)))) (Hld (S w) (J3 (true, ()) w))
    (Cb (f != 0) (Cb (f != 5) (Hld (S w) (J3 (true, ()) w)) (zB Tryz.prog 21 #[.pointer (some ⟨q.a, 0, none⟩), .bool true, .bool true] w fun v25 w => OpI .i64 v25 fun n15 => Hld (S w) (J3 (n15 != 0, ()) w))) (zB Tryz.prog 21 #[.pointer (some ⟨q.a, 0, none⟩), .bool true, .bool true] w fun v26 w => OpI .i64 v26 fun n16 => Hld (S w) (J3 (n16 != 0, ()) w)))))) (fun _ s3 w => Cb s3.1 (Ret [] (R (.bool false) w)) (WI q.a 0 (some ⟨B, 0, none⟩) n (yV g) (.tmp 177) (.tmp 181) w R)) := by
  intro s3 w12 f y' hf05 hf5 ha12 qv12 hps hlat hd12 o12 hb12 kk12
  refine ⟨fun st w' => st.1 = false ∧ WI q.a 0 (some ⟨B, 0, none⟩) n (yV g) (.tmp 177) (.tmp 181) w' R, ?_, ?_⟩
  ·intro dd
   have kd := Keep.drew (fun _ => False) w12 dd
   have ha13 := ha12.zX kd
   have o13 := o12.keep kd (by simp)
   have hb13 : Has (w12.dr dd) b (.cells (geoV g) 24 (0, 0)) := hb12
   have kk13 := kk12.trans kd
   clear ha12 o12 hb12 kk12 kd
   generalize w12.dr dd = w13 at *
   refine ⟨fun w' => Has w' b (.cells (geoV g) 24 (0, 0)), hb13, ?_⟩
   refine yO (v := .int .i64 g.d) (fun w' hw => ⟨_, _, _, hw, rfl⟩) (zA.2 ⟨by omega, ?_⟩)
   refine yO (v := .int .i64 g.d) (fun w' hw => ⟨_, _, _, hw, rfl⟩) (zA.2 ⟨by omega, ?_⟩)
   rw [hkaT, hkbT]
   have e1 : (!((f == 5) == ((ka : Int) == (kb : Int)))) = false := by
    by_cases h : ka = kb
    ·rw [hf5.2 h, h]; simp
    ·have : ¬ f = 5 := fun e => h (hf5.1 e)
     have h' : ¬ (ka : Int) = (kb : Int) := by omega
     rw [show (f == 5) = false by simpa using this, show ((ka : Int) == (kb : Int)) = false by simpa using h']
     rfl
   rw [e1]
   refine (zH (p := _)).2 ?_
   have start : ∀ (R1 : Value → World → Prop), (∀ w', WI q.a 0 (some ⟨B, 0, none⟩) n (yV g) (.tmp 177) (.tmp 181) w' R → Has w' b (.cells (geoV g) 24 (0, 0)) → R1 (.int .i64 0) w') → zB Tryz.prog 21 #[.pointer (some ⟨q.a, 0, none⟩), .bool true, .bool true] w13 R1 := by
    intro R1 hR1
    obtain ⟨now3, hg3, _⟩ := qv12.good
    have hJa := hI.jn.a
    have hJb := hI.jn.b
    have hua : s2.ps.ua = true := hI.like.ua
    have hub : s2.ps.ub = true := hI.like.ub
    obtain ⟨LA, mA⟩ := JnM.memS (go := true) hJa hua
    obtain ⟨LB, mB⟩ := JnM.memS (go := true) hJb hub
    have hstp := hI.steps
    have hlst := hI.last
    have hlna := hI.a
    have hlnb := hI.b
    refine zI3 ha13.toC qv12 (Or.inl rfl) (A := LA) (B := LB) (by rw [hps]; exact mA) (by rw [hps]; exact mB) (by rw [hlat, hI.like.rest]; rfl) (zG3 hg3) ⟨Int.le_refl _, by decide⟩ (by rw [hps]; omega) (by rw [hps]; omega) hqs hroom (by rw [hps, hes]; show (0 : Int) ≤ _; omega) hcapq (by rw [hps]; omega) (by rw [hps]; omega) fun p c mp s4 w14 e he1 he3 hp hmp ha14 hSt _ _ _ k14 => ?_
    have hI4 : WaI (q.re p c mp) s4 e ka y' s4.ps.pw.steps (max (s4.ps.xa.length : Int) (s4.ps.xb.length : Int)) s4.ps.last fin s4 := by
     refine ⟨hSt.qv, hSt.jn, Downs.refl _, ?_, Int.le_refl _, by omega, by omega, Int.le_refl _, KI _, fun _ => rfl, fun _ => rfl⟩
     rw [hSt.len, hps, hes]
     show (0 : Int) ≤ q.pb.room
     omega
    have hu4 : ∀ f, Use s4 e f := fun f => by
     refine ⟨?_, ?_, ?_, Or.inr ⟨?_, hSt.split⟩, by omega⟩
     ·cases f
      ·exact hSt.up.1
      ·exact hSt.up.2
     ·cases f
      ·exact hSt.ep.1
      ·exact hSt.ep.2
     ·cases f
      ·exact hSt.T7.1
      ·exact hSt.T7.2
     ·cases f
      ·exact hSt.T7.2
      ·exact hSt.T7.1
    have hd4 : s4.d = dk0 := by rw [hSt.d, hd12, hI.like.d]; rfl
    have hlowN : N0 ≤ w13.heap.size := by have := ha13.cells.lt; have := hf.a; omega
    refine hR1 w14 ?_ (k14.has hb13 (ArS.not ha13 hb13 (by decide) (by decide) (by decide) (by decide) (by decide) (by decide) (by decide) (by decide)))
    have hrd := zMb (ox := .tmp 177) (oy := .tmp 181) hI4 hu4 hd4 ha14 (n := n) (B := B) (p := some ⟨B, 0, none⟩) (by rw [hn, ← hqg]; rfl) (by omega) (zMj ha13 k14 o13) (N0 := N0) (hf.re (by omega) (by omega)) hN0 (kk13.trans' k14 fun i hi e => by have := ArS.low hf e; omega) hK
    rw [hn] at hrd
    exact hrd
   rcases hf05 with hf0 | hf0
   ·subst hf0
    refine (zH (p := _)).2 (start _ fun w' hr hbb => zA.2 ⟨hbb, rfl, hr⟩)
   ·subst hf0
    refine (zT (q := _)).2 ((zH (p := _)).2 (start _ fun w' hr hbb => zA.2 ⟨hbb, rfl, hr⟩))
  ·rintro _ ⟨g4, u4⟩ w13 ⟨hg4, hr⟩
   simp only at hg4 ⊢
   subst hg4
   exact (zH (p := _)).2 hr
 by_cases hab : ka = kb
 ·refine zAf ha11 hon (n := kb) (by rw [hlen2]; omega) (by rw [al2, if_pos hab]) (zA.2 ?_)
  exact go (UU s2 ka) w11 5 ka (Or.inr rfl) ⟨fun _ => hab, fun _ => rfl⟩ ha11 qv11 rfl rfl rfl o11 hb11 kk11
 ·have hother : ∃ i : Nat, i < s2.ds.length ∧ i ≠ ka ∧ i ≠ kb := by
   by_cases h0 : ka ≠ 0 ∧ kb ≠ 0
   ·exact ⟨0, by omega, by omega, by omega⟩
   ·by_cases h1 : ka ≠ 1 ∧ kb ≠ 1
    ·exact ⟨1, by omega, by omega, by omega⟩
    ·exact ⟨2, by omega, by omega, by omega⟩
  obtain ⟨io, io1, io2, io3⟩ := hother
  refine zCd ha11 hon (n := kb) (by rw [hlen2]; omega) (by rw [al2, if_neg hab]; exact al kb) ⟨io, by rw [hlen2]; exact io1, io3, by rw [al2, if_neg (fun e => io2 e.symm)]; exact al io⟩ fun w12 ha12 k12 => zA.2 ?_
  exact go (UU (UU s2 ka) kb) w12 0 kb (Or.inl rfl) ⟨(fun e => by cases e), fun e => absurd e hab⟩ ha12 (qv11.fail (by rw [hqg]; exact hkbd)) rfl rfl rfl (YU ha11 k12 o11) (k12.has hb11 (ArF.not ha11 hb11 (by decide) (by decide) (by decide) (by decide) (by decide) (by decide) (by decide))) (kk11.trans' k12 fun i hi e => by have := ArF.low hf e; omega)
theorem drain_walk21 {W : World} {x y z d e2 : Int} {lp : Option Addr} {ll lc : Nat} {xs : List Int} (hx : 0 ≤ x ∧ x ≤ 255) (hy : 0 ≤ y ∧ y ≤ 255) (hz : 0 ≤ z ∧ z ≤ 255) (hd : 0 ≤ d ∧ d ≤ 255) (he2 : 0 ≤ e2 ∧ e2 ≤ 255) (hxs : SlL zU W lp ll xs) (hxb : By xs) :
  zB Tryz.prog 3 #[.int .u8 x, .int .u8 y, .int .u8 z, .slice lp ll lc, .int .u8 d, .int .u8 e2] W fun v w' => v = .bool true ∧ Below W.heap.size W w' := zN4 hx hy hz hd he2 hxs hxb fun w' k => ⟨rfl, k.below⟩
end calls
end Go.Proofs
