import Derived.Test.YthhimblbnnafkaaGreatDm2
set_option linter.unusedSimpArgs false
set_option linter.unusedVariables false
namespace Go.Proofs
open Go Go.Ev
set_option maxRecDepth 100000
structure Cel where
 data : Sec
 sum : Int
def celL (c : Cel) : List Value := (secV c.data).toList ++ [.int .u32 c.sum]
def celV (c : Cel) : Array Value := (celL c).toArray
theorem ZJ (c : Cel) : ∀ v ∈ (celV c).toList, oneV v = true := by
 intro v hv
 have hv : v ∈ (secV c.data).toList ++ [.int .u32 c.sum] := by simpa [celV, celL] using hv
 rcases List.mem_append.1 hv with h | h
 ·exact yS _ v h
 ·rw [List.mem_singleton.1 h]; rfl
def atB (at_ : Int) (k : Nat) : Int := IntKind.wrap .u8 (ishr .i64 at_ (56 - 8 * (k : Int)))
def atBs (at_ : Int) : List Int := [atB at_ 0, atB at_ 1, atB at_ 2, atB at_ 3, atB at_ 4, atB at_ 5, atB at_ 6, atB at_ 7]
def sumS (at_ : Int) (d : Sec) : Int := crcS (atBs at_ ++ secB d)
section calls
variable {w : World} {R : Value → World → Prop}
theorem zB9 {at_ : Int} {d : Sec} (hK : ∀ w', Keep (fun _ => False) w w' → R (.agg (celV ⟨d, sumS at_ d⟩)) w') : zB Tryz.prog 116 #[.int .i64 at_, .agg (secV d)] w R := by
 apply zDw
 unfold M9
 refine zK fun w1 hb1 k1 z1 => ?_
 refine zK fun w2 hb2 k2 z2 => ?_
 refine zK fun w3 hb3 k3 z3 => ?_
 have z24 : zc Tryz.prog 285 = ofF 24 fun _ => .int .u8 0 := by kernel_rfl
 rw [z24] at hb3
 have hd3 := k3.has (k2.has hb1 (by simp)) (by simp)
 have hc3 := k3.has hb2 (by simp)
 have k03 := (k1.trans k2).trans k3
 have hs2 : w.heap.size < w2.heap.size := by omega
 have hs12 : w1.heap.size < w2.heap.size := by omega
 have hs01 : w.heap.size < w1.heap.size := by omega
 generalize w2.heap.size = b2 at *
 generalize w1.heap.size = b1 at *
 generalize hb : w.heap.size = b at *
 refine zP (σ := Int × Unit) (fun st w' => ∃ k : Nat, st.1 = (k : Int) ∧ k ≤ 8 ∧ Has w' b2 (.cells (ofF 24 fun j => if j < k then .int .u8 (atB at_ j) else .int .u8 0) 285 (0, 0)) ∧ Keep (fun k => k = b2) w3 w') (fun st _ => (8 - st.1).toNat)
  ⟨0, rfl, by omega, by simpa using hb3, Keep.refl _ _⟩ ?_
 rintro _ ⟨i, u⟩ w4 ⟨k, hi, hk, h4, k4⟩
 simp only at hi ⊢
 subst hi
 refine zN (fun hc => ?_) (fun hc => ?_)
 ·have hc : k < 8 := by
   have : (k : Int) < 8 := by simpa using hc
   omega
  have e1 : IntKind.wrap .i64 (8 * (k : Int)) = 8 * (k : Int) := zW (by omega) (by omega)
  have e2 : IntKind.wrap .i64 (56 - 8 * (k : Int)) = 56 - 8 * (k : Int) := zW (by omega) (by omega)
  have e3 : IntKind.wrap .i64 ((k : Int) + 1) = ((k + 1 : Nat) : Int) := by rw [zW (by omega) (by omega)]; omega
  rw [e1, e2, e3]
  refine ⟨by omega, by omega, ?_⟩
  refine xZ h4 (by simp; omega) rfl ?_
  refine ⟨_, by show (8 - ((k + 1 : Nat) : Int)).toNat < (8 - (k : Int)).toNat; omega, ⟨k + 1, rfl, by omega, ?_, k4.upd (fun _ => rfl) _⟩, rfl⟩
  have := h4.zL (.cells ((ofF 24 fun j => if j < k then .int .u8 (atB at_ j) else .int .u8 0).setIfInBounds (0 + (k : Int).toNat * 1) (.int .u8 (atB at_ k))) 285 (0, 0))
  rw [TL] at this
  have e : (fun j => if j = 0 + (k : Int).toNat * 1 then Value.int .u8 (atB at_ k) else if j < k then .int .u8 (atB at_ j) else .int .u8 0) = fun j => if j < k + 1 then Value.int .u8 (atB at_ j) else .int .u8 0 := by
   funext j
   by_cases h1 : j = k
   ·subst h1
    rw [if_pos (by omega), if_pos (by omega)]
   ·rw [if_neg (by omega)]
    by_cases h2 : j < k
    ·rw [if_pos h2, if_pos (by omega)]
    ·rw [if_neg h2, if_neg (by omega)]
  rw [e] at this
  have e5 : (ofF 24 fun j => if j < k then Value.int .u8 (atB at_ j) else .int .u8 0).setIfInBounds (0 + (k : Int).toNat * 1) (.int .u8 (IntKind.wrap .u8 (ishr .i64 at_ (56 - 8 * (k : Int))))) = ofF 24 fun j => if j < k + 1 then Value.int .u8 (atB at_ j) else .int .u8 0 := by
   rw [TL, ← e]; rfl
  rw [e5]
  exact this
 ·have hc : k = 8 := by
   have : ¬ (k : Int) < 8 := by simpa using hc
   omega
  subst hc
  have o4 : OwnL zU w4 b2 285 (some ⟨b2, 0, none⟩) 24 24 (atBs at_ ++ List.replicate 16 0) := by
   refine OwnL.mk (xs := atBs at_ ++ List.replicate 16 0) (Nat.le_refl _) h4 (by simp [atBs, maxLen]) ?_
   rw [GZ]
   rfl
  have hd4 := k4.has hd3 (by omega)
  have hc4 := k4.has hc3 (by omega)
  intro dd _
  refine zCg (lo := 8) (by omega) (by omega) ?_
  refine OH (by omega) ?_
  have o4d := o4.keep (Keep.drew (fun _ => False) w4 dd) (by simp)
  obtain ⟨w5, hr5, o5, k5⟩ := zBm (a := ⟨b, 0, none⟩) (ds := secB d) (lo := 8) (n := 16) o4d (fun j x hx => by
   rw [WH, cell_of (hd4.dr dd), Nat.zero_add]
   have e : (secV d).toList = (secB d).map fun y => Value.int .u8 y := rfl
   rw [← Array.getElem?_toList, e, List.getElem?_map, hx]; rfl) rfl (by decide) 16 16
  refine ⟨_, _, hr5, zA.2 ?_⟩
  have e24 : (atBs at_ ++ List.replicate 16 (0 : Int)).take 8 ++ secB d ++ (atBs at_ ++ List.replicate 16 (0 : Int)).drop (8 + 16) = atBs at_ ++ secB d := rfl
  rw [e24] at o5
  have hd5 := k5.has (hd4.dr dd) (by omega)
  have hc5 := k5.has (hc4.dr dd) (by omega)
  intro d2 _
  refine zQ (hd5.dr d2) rfl ?_
  refine OH (by omega) ?_
  have o5d := o5.keep (Keep.drew (fun _ => False) w5 d2) (by simp)
  refine zCp (V := .int .u32 (sumS at_ d)) (zOr o5d.sl (by omega) ⟨rfl, rfl⟩) ?_
  refine zA.2 ?_
  refine zV (v := .agg (celV ⟨d, sumS at_ d⟩)) (fun _ => run_build _ _ _ _ (by kernel_rfl)) ?_
  refine zJ.2 ⟨rfl, ?_⟩
  refine yB (hc5.dr d2) rfl (by kernel_rfl) (ZJ _) ?_
  refine zQ ((hc5.dr d2).zL _) rfl ?_
  refine zF.2 (hK _ ?_)
  have k35 : Keep (fun k => k = b2) w3 w5 := (k4.dr dd).trans (k5.mono fun k hk => hk)
  refine ((k03.trans' k35 fun k hk e => by omega).dr d2).upd (by omega) _
end calls
theorem KE (z : Array Value) (hz : 0 < z.size) : ∀ n : Nat, (madeCells z (n * z.size)).toList = (List.replicate n z.toList).flatten
 | 0 => by simp [madeCells]
 | n + 1 => by
  have ih := KE z hz n
  have e : ∀ m, (madeCells z m).toList = (List.range m).map fun i => z[i % z.size]! := by
   intro m
   unfold madeCells
   simp
  rw [e] at ih ⊢
  rw [Nat.succ_mul, List.range_add, List.map_append, ih, List.replicate_succ', List.flatten_append]
  congr 1
  rw [List.map_map]
  simp only [List.flatten_cons, List.flatten_nil, List.append_nil]
  apply List.ext_getElem
  ·simp
  ·intro i h1 h2
   have hi : i < z.size := by simpa using h1
   simp only [List.getElem_map, List.getElem_range, Function.comp_apply]
   rw [Nat.mul_add_mod_self_right, Nat.mod_eq_of_lt hi]
   simp [hi]
theorem gC {P : Program} {α : Type} {L : Lay α} {t e : TypeId} {i : TypeInfo} {z : Value} {x0 : α} (w : World) (ht : P.underlying t = some (.slice e)) (hi : P.info? e = some i) (hz : i.zero = some z) (hx : z.cells.toList = L.row x0) (hs : i.size = L.size) (n : Nat) (h1 : n * L.size ≤ 16777216) (h2 : (i.bytes : Int) * (n : Int) ≤ 281474976710656) (h3 : n ≤ maxLen) :
  ∃ w', (Instr.makeSlice t (.int .i64 (n : Int)) (.int .i64 (n : Int))).run P w = .ok (.slice (some ⟨w.heap.size, 0, none⟩) n n) w' ∧ OwnL L w' w.heap.size e (some ⟨w.heap.size, 0, none⟩) n n (List.replicate n x0) ∧ Keep (fun _ => False) w w' ∧ w'.heap.size = w.heap.size + 1 := by
 have hr := run_makeSlice (P := P) w t e i z ht hi hz .i64 .i64 (n : Int) (n : Int) (by omega) (by omega) (by rw [Int.toNat_natCast, hs]; exact h1) h2 (by simp only [maxLen] at h3; omega)
 rw [Int.toNat_natCast, hs] at hr
 refine ⟨_, hr, ?_, Keep.new _ _ _, by simp⟩
 have hzs : z.cells.size = L.size := by
  have : z.cells.toList.length = (L.row x0).length := by rw [hx]
  rw [L.len] at this
  simpa using this
 have hlen : (List.replicate n x0).length = n := by simp
 have := OwnL.mk (L := L) (w := w.alloc (.cells (madeCells z.cells (n * L.size)) e)) (base := w.heap.size) (e := e) (xs := List.replicate n x0) (b := w.heap.size) (cs := madeCells z.cells (n * L.size)) (Nat.le_refl _) (Has.new _ _) (by rw [hlen]; exact h3) (by
  have hp : 0 < z.cells.size := by rw [hzs]; exact L.pos
  rw [← hzs, KE z.cells hp n, hx, L.wA]
  simp)
 rw [hlen] at this
 exact this
structure Sct where
 cel : Cel
 good : Bool
def sctL (x : Sct) : List Value := celL x.cel ++ [.bool x.good]
theorem NT (c : Cel) : ∀ v ∈ celL c, oneV v = true := fun v hv => ZJ c v (by simpa [celV] using hv)
theorem zIs (x : Sct) : ∀ v ∈ sctL x, oneV v = true := by
 intro v hv
 rcases List.mem_append.1 hv with h | h
 ·exact NT _ v h
 ·rw [List.mem_singleton.1 h]; rfl
def cLay : Lay Cel := ⟨17, celL, fun _ => rfl, NT, by decide⟩
def kLay : Lay Sct := ⟨18, sctL, fun _ => rfl, zIs, by decide⟩
structure Dsk where
 secs : List Sct
 key : Int
 dead : Bool
def zA6 (m r : Nat) (D : Dsk) : Array Value := #[.pointer (some ⟨m, 0, none⟩), .slice (some ⟨r, 0, none⟩) D.secs.length D.secs.length, .int .u32 D.key, .bool D.dead]
structure DiskAt (w : World) (m b r : Nat) (D : Dsk) : Prop where
 cells : Has w b (.cells (zA6 m r D) 220 (0, 0))
 row : OwnL kLay w 0 260 (some ⟨r, 0, none⟩) D.secs.length D.secs.length D.secs
theorem DiskAt.keep {w w' : World} {m b r : Nat} {D : Dsk} {S : Nat → Prop} (h : DiskAt w m b r D) (k : Keep S w w') (h1 : ¬ S b) (h2 : ¬ S r) : DiskAt w' m b r D :=
 ⟨k.has h.cells h1, h.row.keep k fun i hi => by cases hi; exact h2⟩
theorem DiskAt.wI {w : World} {m b r : Nat} {D : Dsk} (h : DiskAt w m b r D) : ∃ cs, Has w r (.cells cs 260 (0, 0)) := by
 rcases Own.cases h.row with ⟨h0, _⟩ | ⟨b', cur, h0, _, hg, _⟩
 ·cases h0
 ·cases h0; exact ⟨_, hg⟩
theorem DiskAt.ne {w : World} {m b r : Nat} {D : Dsk} (h : DiskAt w m b r D) : b ≠ r := by
 obtain ⟨cs, hc⟩ := h.wI
 exact h.cells.ne hc (by simp only [ne_eq, Obj.cells.injEq]; intro e; exact absurd e.2.1 (by decide))
theorem DiskAt.nem {w : World} {m b r : Nat} {D : Dsk} {pw : Pow} (h : DiskAt w m b r D) (hm : MaAt w m pw) : b ≠ m ∧ r ≠ m := by
 obtain ⟨cs, hc⟩ := h.wI
 have hm : Has w m _ := hm
 exact ⟨h.cells.ne hm (by simp only [ne_eq, Obj.cells.injEq]; intro e; exact absurd e.2.1 (by decide)), hc.ne hm (by simp only [ne_eq, Obj.cells.injEq]; intro e; exact absurd e.2.1 (by decide))⟩
def sct0 : Sct := ⟨⟨sec [], 0⟩, false⟩
def cel0 : Cel := ⟨sec [], 0⟩
theorem zAv : zc Tryz.prog 86 = celV cel0 := by kernel_rfl
theorem zK1 (w : World) : (Instr.build 86 #[]).run Tryz.prog w = .ok (.agg (celV cel0)) w := run_build _ _ _ _ (by kernel_rfl)
theorem OwnL.ldP {α : Type} {L : Lay α} {w : World} {base : Nat} {e : TypeId} {p : Option Addr} {l c : Nat} {xs : List α} (h : OwnL L w base e p l c xs) {i : Int} {x : α} {n m : Nat} (hn : L.size = n) (hm : m ≤ n) (h0 : 0 ≤ i) (hi : xs[i.toNat]? = some x) {cs : Array Value} (hcs : cs.toList = (L.row x).take m) {K : Array Value → Prop} (hK : K cs) :
  IdxS p l i n fun b o => LdA m b o (At w) K := by
 subst hn
 obtain ⟨b, rfl, hc⟩ := h.at hi
 have hlt := (List.getElem?_eq_some_iff.1 hi).1
 refine ⟨b, 0, rfl, h0, by have := h.length; omega, cs, ?_, ?_, hK⟩
 ·have : cs.toList.length = m := by rw [hcs, List.length_take, L.len]; omega
  simpa using this
 ·rintro w' ⟨d, rfl⟩ j hj
  rw [Nat.zero_add]
  have := hc j (by omega)
  rw [show (w.dr d).cell? ⟨b, i.toNat * L.size + j, none⟩ = w.cell? ⟨b, i.toNat * L.size + j, none⟩ from rfl, this, ← Array.getElem?_toList, hcs, List.getElem?_take, if_pos hj]
section calls
variable {w : World} {m b r : Nat} {D : Dsk} {R : Value → World → Prop}
theorem zQz {n : Nat} (h1 : 1 ≤ n) (h2 : n ≤ 1024) (hK : ∀ b r w', DiskAt w' m b r ⟨List.replicate n sct0, 0, false⟩ → Keep (fun _ => False) w w' → w.heap.size ≤ b → w.heap.size ≤ r → R (.tuple #[.pointer (some ⟨b, 0, none⟩), .int .i64 0]) w') :
  zB Tryz.prog 129 #[.int .i64 (n : Int), .pointer (some ⟨m, 0, none⟩)] w R := by
 apply zE1
 unfold NF
 refine ⟨rfl, rfl, rfl, rfl, ?_⟩
 rw [decide_eq_false (show ¬ (n : Int) < 1 by omega), decide_eq_false (show ¬ (n : Int) > 1024 by omega)]
 refine (zH (p := _)).2 ?_
 obtain ⟨w1, hr, o1, k1, z1⟩ := gC (P := Tryz.prog) (L := kLay) (x0 := sct0) (t := 218) (e := 260) (i := (Tryz.prog.info? 260).get (by kernel_rfl)) (z := ((Tryz.prog.info? 260).get (by kernel_rfl)).zero.get (by kernel_rfl)) w (by kernel_rfl) (by kernel_rfl) (by kernel_rfl) (by kernel_rfl) (by kernel_rfl) n
  (by show n * 18 ≤ _; omega) (by have : ((Tryz.prog.info? 260).get (by kernel_rfl)).bytes = 24 := by kernel_rfl
                                  rw [this]; omega) (by simp only [maxLen]; omega)
 refine ⟨_, _, hr, zC.2 ?_⟩
 have hlen : (List.replicate n sct0).length = n := by simp
 refine zV (v := .agg (zA6 m w.heap.size ⟨List.replicate n sct0, 0, false⟩)) (fun d => ?_) (zJ.2 ⟨rfl, ?_⟩)
 ·have : ∀ l : Nat, (Instr.build 220 #[(0, .pointer (some ⟨m, 0, none⟩)), (1, .slice (some ⟨w.heap.size, 0, none⟩) l l)]).run Tryz.prog (w1.dr d) = .ok (.agg #[.pointer (some ⟨m, 0, none⟩), .slice (some ⟨w.heap.size, 0, none⟩) l l, .int .u32 0, .bool false]) (w1.dr d) := fun l => run_build _ _ _ _ (by kernel_rfl)
  rw [this]
  unfold zA6
  rw [hlen]
 refine zK fun w2 hb k2 z2 => ?_
 refine zF.2 (hK w1.heap.size w.heap.size w2 ⟨hb, ?_⟩ (k1.trans k2) (by omega) (Nat.le_refl _))
 rw [hlen]
 exact (o1.y5 (Nat.zero_le _)).keep k2 (by simp)
theorem d_On (h : DiskAt w m b r D) {m2 : Nat} (hK : ∀ w', DiskAt w' m2 b r D → Keep (fun k => k = b) w w' → R (.pointer (some ⟨b, 0, none⟩)) w') : zB Tryz.prog 130 #[.pointer (some ⟨b, 0, none⟩), .pointer (some ⟨m2, 0, none⟩)] w R := by
 apply H0
 unfold YO
 refine xZ h.cells (by show 0 < 4; decide) rfl ?_
 refine zF.2 (hK _ ⟨h.cells.zL _, ?_⟩ (Keep.one _ _ _))
 exact h.row.keep (Keep.one w b _) fun k hk e => by
  subst e
  injection hk with hk
  injection hk with hk
  exact h.ne hk.symm
theorem zL7 (h : DiskAt w m b r D) (hK : R (.int .i64 (D.secs.length : Int)) w) : zB Tryz.prog 119 #[.pointer (some ⟨b, 0, none⟩)] w R := by
 apply U5
 unfold wS
 refine zG (v := .slice (some ⟨r, 0, none⟩) D.secs.length D.secs.length) h.cells rfl ?_
 exact zC.2 (zF.2 hK)
theorem d_in (h : DiskAt w m b r D) {at_ : Int} (hK : R (.bool (decide (0 ≤ at_ ∧ at_ < (D.secs.length : Int)))) w) : zB Tryz.prog 172 #[.pointer (some ⟨b, 0, none⟩), .int .i64 at_] w R := by
 apply HZ
 unfold YN
 refine ⟨rfl, rfl, ?_⟩
 refine zN (fun hc => ?_) (fun hc => ?_)
 ·have hc : 0 ≤ at_ := by simpa using hc
  refine zG (v := .slice (some ⟨r, 0, none⟩) D.secs.length D.secs.length) h.cells rfl ?_
  refine zC.2 (zF.2 ?_)
  have e : decide (at_ < (D.secs.length : Int)) = decide (0 ≤ at_ ∧ at_ < (D.secs.length : Int)) := by simp [hc]
  rw [e]; exact hK
 ·have hc : ¬ 0 ≤ at_ := by simpa using hc
  refine zF.2 ?_
  have e : false = decide (0 ≤ at_ ∧ at_ < (D.secs.length : Int)) := by simp [hc]
  rw [e]; exact hK
def uC (pw : Pow) (D : Dsk) (at_ : Int) : Cel × Int :=
 if ¬ (0 ≤ at_ ∧ at_ < (D.secs.length : Int)) then (cel0, 2)
 else if pw.on = false then (cel0, 4)
 else if D.dead = true then (cel0, 5)
 else if (D.secs.getD at_.toNat sct0).good = false then (cel0, 7)
 else ((D.secs.getD at_.toNat sct0).cel, 0)
theorem zL8 {pw : Pow} (h : DiskAt w m b r D) (hm : MaAt w m pw) {at_ : Int} (hK : ∀ w', Keep (fun _ => False) w w' → R (.tuple #[.agg (celV (uC pw D at_).1), .int .i64 (uC pw D at_).2]) w') : zB Tryz.prog 175 #[.pointer (some ⟨b, 0, none⟩), .int .i64 at_] w R := by
 apply U6
 unfold wT
 refine zK fun w1 hb1 k1 z1 => ?_
 rw [zAv] at hb1
 have h1 := h.keep k1 (by simp) (by simp)
 have hm1 : MaAt w1 m pw := k1.has hm (by simp)
 have fin : ∀ (c : Cel) (e : Int), uC pw D at_ = (c, e) → StA 17 w.heap.size 0 (celV c) w1 fun w2 => LdA 17 w.heap.size 0 (At w2) fun cs => Ret [] (R (.tuple #[.agg cs, .int .i64 e]) w2) := by
  intro c e he
  rw [he] at hK
  refine yB hb1 rfl rfl (ZJ _) ?_
  refine zQ (hb1.zL _) rfl ?_
  exact zF.2 (hK _ (k1.upd (by omega) _))
 have bad : ∀ (e : Int), uC pw D at_ = (cel0, e) → DoQ Tryz.prog (Instr.build 86 #[]) (At w1) fun v1 => OpA 17 v1 fun cs => StA 17 w.heap.size 0 cs w1 fun w2 => LdA 17 w.heap.size 0 (At w2) fun cs1 => Ret [] (R (.tuple #[.agg cs1, .int .i64 e]) w2) := by
  intro e he
  refine zV (fun d => zK1 _) (zJ.2 ⟨rfl, ?_⟩)
  exact fin cel0 e he
 refine d_in h1 ?_
 refine zM.2 ?_
 refine zN (fun hc => ?_) (fun hc => ?_)
 ·have hc : ¬ (0 ≤ at_ ∧ at_ < (D.secs.length : Int)) := by
   rw [Bool.not_eq_true', decide_eq_false_iff_not] at hc
   exact hc
  exact bad 2 (by unfold uC; rw [if_pos hc])
 have hin : 0 ≤ at_ ∧ at_ < (D.secs.length : Int) := by simpa using hc
 refine zG (v := .pointer (some ⟨m, 0, none⟩)) h1.cells rfl (zO.2 ?_)
 refine GB hm1 (zM.2 ?_)
 refine zN (fun hc => ?_) (fun hc => ?_)
 ·have hc : pw.on = false := by simpa using hc
  exact bad 4 (by unfold uC; rw [if_neg (by simpa using hin), if_pos hc])
 have hon : pw.on = true := by simpa using hc
 refine zG (v := .bool D.dead) h1.cells rfl (zM.2 ?_)
 refine zN (fun hc => ?_) (fun hc => ?_)
 ·exact bad 5 (by unfold uC; rw [if_neg (by simpa using hin), if_neg (by simp [hon]), if_pos hc])
 refine zG (v := .slice (some ⟨r, 0, none⟩) D.secs.length D.secs.length) h1.cells rfl (zC.2 ?_)
 have hget : D.secs[at_.toNat]? = some (D.secs.getD at_.toNat sct0) := by
  have := N6 (xs := D.secs) (i := at_.toNat) (by omega) sct0
  rwa [Int.toNat_natCast] at this
 have hd : D.dead = false := hc
 generalize hx : D.secs.getD at_.toNat sct0 = x at hget
 refine h1.row.ldF (i := at_) (n := 18) (t := 17) (x := x) (v := .bool x.good) rfl hin.1 hget rfl (zM.2 ?_)
 refine zN (fun hg => ?_) (fun hg => ?_)
 ·have hg : x.good = false := by simpa using hg
  exact bad 7 (by unfold uC; rw [if_neg (by simpa using hin), if_neg (by simp [hon]), if_neg (by simp [hd]), hx, if_pos hg])
 have hg : x.good = true := by simpa using hg
 refine zG (v := .slice (some ⟨r, 0, none⟩) D.secs.length D.secs.length) h1.cells rfl (zC.2 ?_)
 refine OwnL.ldP h1.row (i := at_) (n := 18) (m := 17) (x := x) (cs := celV x.cel) rfl (by omega) hin.1 hget rfl ?_
 exact fin x.cel 0 (by unfold uC; rw [if_neg (by simpa using hin), if_neg (by simp [hon]), if_neg (by simp [hd]), hx, if_neg (by simp [hg])])
def qG (pw : Pow) (D : Dsk) (at_ : Int) (c : Cel) (ep : Int) : (Int × Int) × Pow × Dsk :=
 if pw.on = false then ((0, 4), pw, D)
 else if D.dead = true then ((0, 5), pw, D)
 else if ep < D.key then ((0, 6), pw, D)
 else if (yW pw).1 = false then ((0, 4), (yW pw).2, D)
 else ((1, 0), (yW pw).2, { D with secs := D.secs.set at_.toNat ⟨c, true⟩ })
theorem zGy {pw : Pow} (h : DiskAt w m b r D) (hm : MaAt w m pw) {at_ ep : Int} {c : Cel} {cp : Option Addr} {cc : Nat} (hcl : SlL cLay w cp 1 [c]) (hat : 0 ≤ at_ ∧ at_ < (D.secs.length : Int))
  (hK : ∀ w', DiskAt w' m b r (qG pw D at_ c ep).2.2 → MaAt w' m (qG pw D at_ c ep).2.1 → Keep (fun k => k = m ∨ k = r) w w' → R (.tuple #[.int .i64 (qG pw D at_ c ep).1.1, .int .i64 (qG pw D at_ c ep).1.2]) w') : zB Tryz.prog 120 #[.pointer (some ⟨b, 0, none⟩), .int .i64 at_, .slice cp 1 cc, .int .u32 ep] w R := by
 apply VV
 unfold qS
 have hcap := h.row.cap
 have hmax : D.secs.length ≤ 9223372036854775807 := by have := hcap.1; have := hcap.2; simp only [maxLen] at this; omega
 refine ⟨rfl, rfl, ?_⟩
 rw [decide_eq_false (show ¬ at_ < 0 by omega)]
 refine (zH (p := _)).2 ?_
 refine zG (v := .slice (some ⟨r, 0, none⟩) D.secs.length D.secs.length) h.cells rfl (zC.2 ?_)
 rw [decide_eq_false (show ¬ at_ > (D.secs.length : Int) by omega)]
 refine (zH (p := _)).2 ?_
 refine zG (v := .slice (some ⟨r, 0, none⟩) D.secs.length D.secs.length) h.cells rfl (zC.2 ?_)
 have e1 : IntKind.wrap .i64 ((D.secs.length : Int) - at_) = (D.secs.length : Int) - at_ := zW (by omega) (by omega)
 rw [e1, decide_eq_false (show ¬ (((1 : Nat) : Int) > (D.secs.length : Int) - at_) by omega)]
 refine (zH (p := _)).2 ?_
 unfold qG at hK
 refine zG (v := .pointer (some ⟨m, 0, none⟩)) h.cells rfl (zO.2 ?_)
 refine GB hm (zM.2 ?_)
 refine zN (fun hc => ?_) (fun hc => ?_)
 ·have hc : pw.on = false := by simpa using hc
  rw [if_pos hc] at hK
  exact zF.2 (hK w h hm (Keep.refl _ _))
 have hon : pw.on = true := by simpa using hc
 rw [if_neg (by simp [hon])] at hK
 refine zG (v := .bool D.dead) h.cells rfl (zM.2 ?_)
 refine zN (fun hd => ?_) (fun hd => ?_)
 ·rw [if_pos hd] at hK
  exact zF.2 (hK w h hm (Keep.refl _ _))
 have hd : D.dead = false := hd
 rw [if_neg (by simp [hd])] at hK
 refine zG (v := .int .u32 D.key) h.cells rfl (zA.2 ?_)
 refine zN (fun hk => ?_) (fun hk => ?_)
 ·have hk : ep < D.key := by simpa using hk
  rw [if_pos hk] at hK
  exact zF.2 (hK w h hm (Keep.refl _ _))
 have hk : ¬ ep < D.key := by simpa using hk
 rw [if_neg hk] at hK
 have hne := h.ne
 obtain ⟨hbm, hrm⟩ := h.nem hm
 refine zP (σ := Int × Unit) (fun st w' => (st.1 = 0 ∧ w' = w) ∨ (st.1 = 1 ∧ ((yW pw).1 = true ∧ DiskAt w' m b r { D with secs := D.secs.set at_.toNat ⟨c, true⟩ } ∧ MaAt w' m (yW pw).2 ∧ Keep (fun k => k = m ∨ k = r) w w'))) (fun st _ => (1 - st.1).toNat) (Or.inl ⟨rfl, rfl⟩) ?_
 rintro _ ⟨i, u⟩ w1 hI
 simp only at hI ⊢
 rcases hI with ⟨hi, hw⟩ | ⟨hi, hst, hd1, hm1, k1⟩
 ·subst hi
  rw [hw]
  clear hw
  refine (zT (q := _)).2 ?_
  refine hcl.ldA (i := 0) (n := 17) (x := c) rfl (by omega) rfl ?_
  refine yN (by rw [zAv]; rfl) rfl (ZJ c) fun w2 hb2 k2 z2 => ?_
  have h2 := h.keep k2 (by simp) (by simp)
  have hm2 : MaAt w2 m pw := k2.has hm (by simp)
  refine zG (v := .pointer (some ⟨m, 0, none⟩)) h2.cells rfl (zO.2 ?_)
  refine T5 hm2 fun w3 hm3 k3 z3 => ?_
  refine zM.2 ?_
  have h3 := h2.keep k3 hbm hrm
  have hwm : w.heap.size ≠ m := by have := (show Has w m _ from hm).lt; omega
  have hb3 := k3.has hb2 hwm
  have k03 : Keep (fun k => k = m ∨ k = r) w w3 := (k2.mono fun _ h => h.elim).trans (k3.mono fun _ h => Or.inl h)
  refine zN (fun hst => ?_) (fun hst => ?_)
  ·have hst : (yW pw).1 = false := by simpa using hst
   rw [if_pos hst] at hK
   exact zF.2 (hK w3 h3 hm3 k03)
  ·have hst : (yW pw).1 = true := by simpa using hst
   intro dd _
   have kd := Keep.drew (fun _ => False) w3 dd
   have h4 := h3.keep kd (by simp) (by simp)
   refine zG (v := .slice (some ⟨r, 0, none⟩) D.secs.length D.secs.length) h4.cells rfl (zC.2 ?_)
   refine zQ (hb3.dr dd) rfl ?_
   refine zV (v := .agg (sctL ⟨c, true⟩).toArray) (fun _ => run_build _ _ _ _ (by kernel_rfl)) ?_
   refine zJ.2 ⟨rfl, ?_⟩
   have e2 : IntKind.wrap .i64 (at_ + 0) = at_ := by rw [Int.add_zero, zW (by omega) (by omega)]
   rw [e2]
   refine h4.row.stA (i := at_) (n := 18) rfl hat.1 hat.2 ⟨c, true⟩ rfl fun w5 o5 k5 z5 => ?_
   have k5' : Keep (fun k => k = r) (w3.dr dd) w5 := k5.mono fun k e => by
    injection e with e
    injection e with e
    exact e.symm
   refine ⟨_, by show (1 - IntKind.wrap .i64 (0 + 1)).toNat < _; decide +kernel, Or.inr ⟨by show IntKind.wrap .i64 (0 + 1) = 1; decide +kernel, hst, ⟨?_, ?_⟩, k5'.has (hm3.dr dd) (fun e => hrm e.symm), (k03.dr dd).trans (k5'.mono fun _ h => Or.inr h)⟩, rfl⟩
   ·have := k5'.has h4.cells hne
    have e3 : zA6 m r D = zA6 m r { D with secs := D.secs.set at_.toNat ⟨c, true⟩ } := by unfold zA6; simp
    rw [e3] at this
    exact this
   ·have el : (D.secs.set at_.toNat ⟨c, true⟩).length = D.secs.length := by simp
    show OwnL kLay w5 0 _ _ (D.secs.set at_.toNat ⟨c, true⟩).length (D.secs.set at_.toNat ⟨c, true⟩).length _
    rw [el]
    exact o5
 ·subst hi
  refine (zH (p := _)).2 ?_
  rw [if_neg (by rw [hst]; simp)] at hK
  exact zF.2 (hK w1 hd1 hm1 k1)
end calls
structure Geo where
 d : Int
 c : Int
 s : Int
def geoV (g : Geo) : Array Value := #[.int .i64 g.d, .int .i64 g.c, .int .i64 g.s]
structure GeoOk (g : Geo) : Prop where
 d : 4 ≤ g.d ∧ g.d ≤ 32
 c : 1 ≤ g.c ∧ g.c ≤ 8
 s : 1 ≤ g.s ∧ g.s ≤ 64
theorem GeoOk.size {g : Geo} (h : GeoOk g) : 1 ≤ g.c * g.s ∧ g.c * g.s ≤ 512 := by
 obtain ⟨_, ⟨h1, h2⟩, ⟨h3, h4⟩⟩ := h
 constructor
 ·have := Int.mul_le_mul h1 h3 (by omega) (by omega); omega
 ·have := Int.mul_le_mul h2 h4 (by omega) (by omega); omega
structure Plc where
 dk : Int
 at_ : Int
def plcL (x : Plc) : List Value := [.int .i64 x.dk, .int .i64 x.at_]
def plcV (x : Plc) : Array Value := #[.int .i64 x.dk, .int .i64 x.at_]
def O7 : Lay Plc := ⟨2, plcL, fun _ => rfl, fun y v hv => by
 simp only [plcL, List.mem_cons, List.not_mem_nil, or_false] at hv
 rcases hv with rfl | rfl <;> rfl, by decide⟩
section calls
variable {w : World} {g : Geo} {R : Value → World → Prop}
theorem zBn (g : Geo) : ∀ v ∈ (geoV g).toList, oneV v = true := by
 intro v hv
 have hv : v ∈ [Value.int .i64 g.d, .int .i64 g.c, .int .i64 g.s] := hv
 simp only [List.mem_cons, List.not_mem_nil, or_false] at hv
 rcases hv with rfl | rfl | rfl <;> rfl
theorem N3 (h : GeoOk g) (hK : ∀ w', Keep (fun _ => False) w w' → R (.int .i64 0) w') : zB Tryz.prog 71 #[.agg (geoV g)] w R := by
 apply HV
 unfold YJ
 refine zK fun w1 hb k1 z1 => ?_
 obtain ⟨⟨d1, d2⟩, ⟨c1, c2⟩, ⟨s1, s2⟩⟩ := h
 refine zG (v := .int .i64 g.d) hb rfl (zA.2 ?_)
 rw [decide_eq_false (show ¬ g.d < 4 by omega)]
 refine (zH (p := _)).2 ?_
 refine zG (v := .int .i64 g.d) hb rfl (zA.2 ?_)
 rw [decide_eq_false (show ¬ g.d > 32 by omega)]
 refine (zH (p := _)).2 ?_
 refine zG (v := .int .i64 g.c) hb rfl (zA.2 ?_)
 rw [decide_eq_false (show ¬ g.c < 1 by omega)]
 refine (zH (p := _)).2 ?_
 refine zG (v := .int .i64 g.c) hb rfl (zA.2 ?_)
 rw [decide_eq_false (show ¬ g.c > 8 by omega)]
 refine (zH (p := _)).2 ?_
 refine zG (v := .int .i64 g.s) hb rfl (zA.2 ?_)
 rw [decide_eq_false (show ¬ g.s < 1 by omega)]
 refine (zH (p := _)).2 ?_
 refine zG (v := .int .i64 g.s) hb rfl (zA.2 ?_)
 rw [decide_eq_false (show ¬ g.s > 64 by omega)]
 exact (zH (p := _)).2 (zF.2 (hK w1 k1))
theorem zKx (h : GeoOk g) (hK : ∀ w', Keep (fun _ => False) w w' → R (.tuple #[.int .i64 (g.c * g.s), .int .i64 0]) w') : zB Tryz.prog 128 #[.agg (geoV g)] w R := by
 apply OU
 unfold WU
 have hs := h.size
 refine zK fun w1 hb k1 z1 => ?_
 refine zQ hb rfl ?_
 refine N3 h fun w2 k2 => ?_
 refine zA.2 ((zH (p := _)).2 ?_)
 have hb2 := k2.has hb (by simp)
 refine zG (v := .int .i64 g.c) hb2 rfl (zA.2 ?_)
 refine zG (v := .int .i64 g.s) hb2 rfl (zA.2 ?_)
 rw [zW (by omega) (by omega)]
 exact zF.2 (hK w2 (k1.trans k2))
end calls
def qK (g : Geo) (st : Int) : Int := (2 * g.d + 1 - st % g.d) % g.d
def plcP (g : Geo) (st off k : Int) : Plc := ⟨(qK g st + k) % g.d, st * g.c + off⟩
theorem GeoOk.cap {g : Geo} (h : GeoOk g) : 2 ≤ (g.d - 2) * g.c * g.s ∧ (g.d - 2) * g.c * g.s ≤ 15360 := by
 obtain ⟨⟨d1, d2⟩, ⟨c1, c2⟩, ⟨s1, s2⟩⟩ := h
 have h1 := Int.mul_le_mul (show (2 : Int) ≤ g.d - 2 by omega) c1 (by omega) (by omega)
 have h2 := Int.mul_le_mul (show g.d - 2 ≤ (30 : Int) by omega) c2 (by omega) (by omega)
 have h3 := Int.mul_le_mul h1 s1 (by omega) (by omega)
 have h4 := Int.mul_le_mul h2 s2 (by omega) (by omega)
 omega
theorem GeoOk.row {g : Geo} (h : GeoOk g) {st off : Int} (hs : 0 ≤ st ∧ st < g.s) (ho : 0 ≤ off ∧ off < g.c) : 0 ≤ st * g.c ∧ 0 ≤ st * g.c + off ∧ st * g.c + off < g.c * g.s := by
 have h1 := Int.mul_nonneg hs.1 (show (0 : Int) ≤ g.c by have := h.c; omega)
 have h2 := Int.mul_le_mul_of_nonneg_right (show st ≤ g.s - 1 by omega) (show (0 : Int) ≤ g.c by have := h.c; omega)
 have h3 : (g.s - 1) * g.c = g.c * g.s - g.c := by rw [Int.sub_mul, Int.mul_comm g.s]; omega
 omega
section calls
variable {w : World} {g : Geo} {R : Value → World → Prop}
theorem zPk (h : GeoOk g) (hK : ∀ w', Keep (fun _ => False) w w' → R (.tuple #[.int .i64 ((g.d - 2) * g.c * g.s), .int .i64 0]) w') : zB Tryz.prog 140 #[.agg (geoV g)] w R := by
 apply VT
 unfold qQ
 have hcap := h.cap
 obtain ⟨⟨d1, d2⟩, ⟨c1, c2⟩, ⟨s1, s2⟩⟩ := h
 have h1 := Int.mul_le_mul (show g.d - 2 ≤ (30 : Int) by omega) c2 (by omega) (by omega)
 have h0 := Int.mul_nonneg (show (0 : Int) ≤ g.d - 2 by omega) (show (0 : Int) ≤ g.c by omega)
 refine zK fun w1 hb k1 z1 => ?_
 refine zQ hb rfl ?_
 refine N3 ⟨⟨d1, d2⟩, ⟨c1, c2⟩, ⟨s1, s2⟩⟩ fun w2 k2 => ?_
 refine zA.2 ((zH (p := _)).2 ?_)
 have hb2 := k2.has hb (by simp)
 refine zG (v := .int .i64 g.d) hb2 rfl (zA.2 ?_)
 refine zG (v := .int .i64 g.c) hb2 rfl (zA.2 ?_)
 refine zG (v := .int .i64 g.s) hb2 rfl (zA.2 ?_)
 rw [zW (x := g.d - 2) (by omega) (by omega), zW (x := (g.d - 2) * g.c) (by omega) (by omega), zW (by omega) (by omega)]
 exact zF.2 (hK w2 (k1.trans k2))
theorem zG2 (h : GeoOk g) {st : Int} (hst : 0 ≤ st) (hK : ∀ w', Keep (fun _ => False) w w' → R (.int .i64 (qK g st)) w') : zB Tryz.prog 174 #[.agg (geoV g), .int .i64 st] w R := by
 apply HU
 unfold YI
 obtain ⟨⟨d1, d2⟩, _, _⟩ := h
 refine zK fun w1 hb k1 z1 => ?_
 refine zG (v := .int .i64 g.d) hb rfl (zA.2 ?_)
 refine zG (v := .int .i64 g.d) hb rfl (zA.2 ⟨by omega, ?_⟩)
 refine zG (v := .int .i64 g.d) hb rfl (zA.2 ⟨by omega, fun d => ?_⟩)
 refine zF.2 ?_
 have hm1 := Int.emod_nonneg st (show g.d ≠ 0 by omega)
 have hm2 := Int.emod_lt_of_pos st (show 0 < g.d by omega)
 rw [Int.tmod_eq_emod_of_nonneg hst, zW (x := 2 * g.d) (by omega) (by omega), zW (x := 2 * g.d + 1) (by omega) (by omega), zW (x := 2 * g.d + 1 - st % g.d) (by omega) (by omega), Int.tmod_eq_emod_of_nonneg (by omega)]
 exact hK _ (k1.dr d)
theorem GM (h : GeoOk g) (st : Int) : 0 ≤ qK g st ∧ qK g st < g.d := by
 obtain ⟨⟨d1, d2⟩, _, _⟩ := h
 exact ⟨Int.emod_nonneg _ (by omega), Int.emod_lt_of_pos _ (by omega)⟩
def yT (g : Geo) (lba : Int) : Int × Int × Int := (lba / ((g.d - 2) * g.c), lba / g.c % (g.d - 2), lba % g.c)
def x5 (x : Int × Int × Int) : Array Value := #[.int .i64 x.1, .int .i64 x.2.1, .int .i64 x.2.2]
theorem XX (x : Int × Int × Int) : ∀ v ∈ (x5 x).toList, oneV v = true := by
 intro v hv
 have hv : v ∈ [Value.int .i64 x.1, .int .i64 x.2.1, .int .i64 x.2.2] := hv
 simp only [List.mem_cons, List.not_mem_nil, or_false] at hv
 rcases hv with rfl | rfl | rfl <;> rfl
theorem NS (x : Plc) : ∀ v ∈ (plcV x).toList, oneV v = true := by
 intro v hv
 have hv : v ∈ [Value.int .i64 x.dk, .int .i64 x.at_] := hv
 simp only [List.mem_cons, List.not_mem_nil, or_false] at hv
 rcases hv with rfl | rfl <;> rfl
theorem vR (h : GeoOk g) {lba : Int} (h0 : 0 ≤ lba) (h1 : lba < (g.d - 2) * g.c * g.s) : (0 ≤ (yT g lba).1 ∧ (yT g lba).1 < g.s) ∧ (0 ≤ (yT g lba).2.1 ∧ (yT g lba).2.1 < g.d - 2) ∧ (0 ≤ (yT g lba).2.2 ∧ (yT g lba).2.2 < g.c) := by
 obtain ⟨⟨d1, d2⟩, ⟨c1, c2⟩, ⟨s1, s2⟩⟩ := h
 have hp : 0 < (g.d - 2) * g.c := Int.mul_pos (by omega) (by omega)
 refine ⟨⟨Int.ediv_nonneg h0 (by omega), ?_⟩, ⟨Int.emod_nonneg _ (by omega), Int.emod_lt_of_pos _ (by omega)⟩, ⟨Int.emod_nonneg _ (by omega), Int.emod_lt_of_pos _ (by omega)⟩⟩
 exact Int.ediv_lt_of_lt_mul hp (by rw [Int.mul_comm g.s]; exact h1)
theorem zPj (h : GeoOk g) {lba : Int} (h0 : 0 ≤ lba) (h1 : lba < (g.d - 2) * g.c * g.s) (hK : ∀ w', Keep (fun _ => False) w w' → R (.tuple #[.agg (x5 (yT g lba)), .agg (plcV (plcP g (yT g lba).1 (yT g lba).2.2 (yT g lba).2.1)), .int .i64 0]) w') :
  zB Tryz.prog 105 #[.agg (geoV g), .int .i64 lba] w R := by
 apply L5
 unfold UI
 have hcap := h.cap
 obtain ⟨⟨p1, p2⟩, ⟨p3, p4⟩, ⟨p5, p6⟩⟩ := vR h h0 h1
 have hrow := h.row ⟨p1, p2⟩ ⟨p5, p6⟩
 have hsz := h.size
 have hh := h
 obtain ⟨⟨d1, d2⟩, ⟨c1, c2⟩, ⟨s1, s2⟩⟩ := h
 have hm1 := Int.mul_le_mul (show g.d - 2 ≤ (30 : Int) by omega) c2 (by omega) (by omega)
 have hm0 : 0 < (g.d - 2) * g.c := Int.mul_pos (by omega) (by omega)
 refine zK fun w1 hb1 k1 z1 => ?_
 refine zK fun w2 hb2 k2 z2 => ?_
 refine zK fun w3 hb3 k3 z3 => ?_
 have k23 := k2.trans k3
 have hg3 := k23.has hb1 (by simp)
 refine zQ hg3 rfl ?_
 refine zPk hh fun w4 k4 => ?_
 refine yM.2 (zA.2 (zA.2 ((zH (p := _)).2 ⟨rfl, rfl, rfl, ?_⟩)))
 rw [decide_eq_false (show ¬ lba < 0 by omega), decide_eq_false (show ¬ lba ≥ (g.d - 2) * g.c * g.s by omega)]
 refine (zH (p := _)).2 ?_
 have hg4 := k4.has hg3 (by simp)
 have hs4 := k4.has (k3.has hb2 (by simp)) (by simp)
 have hp4 := k4.has hb3 (by simp)
 have k04 := ((k1.trans k23).trans k4)
 have hl1 : w1.heap.size = w.heap.size + 1 := z1
 have hl2 : w2.heap.size = w1.heap.size + 1 := z2
 generalize hb0 : w.heap.size = b at *
 generalize w1.heap.size = bs at *
 generalize w2.heap.size = bp at *
 refine zG (v := .int .i64 g.d) hg4 rfl (zA.2 ?_)
 have e2 : IntKind.wrap .i64 (g.d - 2) = g.d - 2 := zW (by omega) (by omega)
 have e3 : IntKind.wrap .i64 ((g.d - 2) * g.c) = (g.d - 2) * g.c := zW (by omega) (by omega)
 intro dd
 refine ⟨fun w' => Has w' b (.cells (geoV g) 24 (0, 0)), hg4.dr dd, ?_⟩
 refine yO (v := .int .i64 g.c) (fun w' hw => ⟨_, _, _, hw, rfl⟩) (zA.2 ?_)
 rw [e2, e3]
 refine ⟨by omega, ?_⟩
 refine yO (v := .int .i64 g.c) (fun w' hw => ⟨_, _, _, hw, rfl⟩) (zA.2 ⟨by omega, by omega, ?_⟩)
 refine yO (v := .int .i64 g.c) (fun w' hw => ⟨_, _, _, hw, rfl⟩) (zA.2 ⟨by omega, ?_⟩)
 have q1 : IntKind.wrap .i64 (Int.tdiv lba ((g.d - 2) * g.c)) = (yT g lba).1 := by
  rw [Int.tdiv_eq_ediv_of_nonneg h0]
  exact zW (by have := p1; show _ ≤ lba / ((g.d - 2) * g.c); change 0 ≤ lba / ((g.d - 2) * g.c) at p1; omega) (by change lba / ((g.d - 2) * g.c) < g.s at p2; omega)
 have q2 : Int.tmod (IntKind.wrap .i64 (Int.tdiv lba g.c)) (g.d - 2) = (yT g lba).2.1 := by
  have a1 := Int.ediv_nonneg h0 (show 0 ≤ g.c by omega)
  have a2 := Int.ediv_le_self g.c h0
  rw [Int.tdiv_eq_ediv_of_nonneg h0, zW (by omega) (by omega), Int.tmod_eq_emod_of_nonneg a1]
  rfl
 have q3 : Int.tmod lba g.c = (yT g lba).2.2 := by rw [Int.tmod_eq_emod_of_nonneg h0]; rfl
 rw [q1, q2, q3]
 generalize hsp : yT g lba = x at *
 refine ⟨.agg (x5 x), fun w' _ => run_build _ _ _ _ (by kernel_rfl), zJ.2 ⟨rfl, ?_⟩⟩
 refine zK fun w5 hb5 k5 z5 => ?_
 have kd := Keep.drew (fun _ => False) w4 dd
 have hg5 := (kd.trans k5).has hg4 (by simp)
 have hs5 := (kd.trans k5).has hs4 (by simp)
 have hp5 := (kd.trans k5).has hp4 (by simp)
 have k05 := (k04.trans kd).trans k5
 refine ⟨hg5, ?_⟩
 have hlt := hp4.lt
 show StA 3 (w4.dr dd).heap.size 0 (x5 x) w5 _
 have hlt4 : bp < (w4.dr dd).heap.size := hlt
 generalize (w4.dr dd).heap.size = bx at *
 refine yB hb5 rfl (by kernel_rfl) (XX x) ?_
 have hx6 := hb5.zL (.cells (x5 x) 177 (0, 0))
 have hg6 := Has.upd (y := .cells (x5 x) 177 (0, 0)) hg5 (show b ≠ bx by omega)
 have hs6 := Has.upd (y := .cells (x5 x) 177 (0, 0)) hs5 (show bs ≠ bx by omega)
 have hp6 := Has.upd (y := .cells (x5 x) 177 (0, 0)) hp5 (show bp ≠ bx by omega)
 have hwb : w.heap.size ≤ w4.heap.size := k04.size
 refine ⟨hg6, ?_⟩
 have k06 : Keep (fun k => k = b ∨ k = bs ∨ k = bp ∨ k = bx) w (w5.upd bx (.cells (x5 x) 177 (0, 0))) := (k05.mono fun _ h => h.elim).upd (fun _ => Or.inr (Or.inr (Or.inr rfl))) _
 generalize w5.upd bx (.cells (x5 x) 177 (0, 0)) = w6 at *
 intro d2
 refine ⟨fun w' => Has w' b (.cells (geoV g) 24 (0, 0)) ∧ Has w' bx (.cells (x5 x) 177 (0, 0)), ⟨hg6.dr d2, hx6.dr d2⟩, ?_⟩
 refine jR (cs := x5 x) rfl (fun w' hw => ⟨_, _, _, hw.2, Nat.le_refl 3, rfl⟩) ?_
 refine jR (cs := geoV g) rfl (fun w' hw => ⟨_, _, _, hw.1, Nat.le_refl 3, rfl⟩) ?_
 refine yO (v := .int .i64 x.1) (fun w' hw => ⟨_, _, _, hw.2, rfl⟩) (zA.2 ?_)
 refine yO (v := .int .i64 x.2.1) (fun w' hw => ⟨_, _, _, hw.2, rfl⟩) (zA.2 ?_)
 refine yO (v := .int .i64 g.d) (fun w' hw => ⟨_, _, _, hw.1, rfl⟩) (zA.2 ?_)
 refine yO (v := .int .i64 x.1) (fun w' hw => ⟨_, _, _, hw.2, rfl⟩) (zA.2 ?_)
 refine yO (v := .int .i64 g.c) (fun w' hw => ⟨_, _, _, hw.1, rfl⟩) (zA.2 ?_)
 refine yO (v := .int .i64 x.2.2) (fun w' hw => ⟨_, _, _, hw.2, rfl⟩) (zA.2 ?_)
 refine zG2 hh p1 fun w7 k7 => ?_
 have hx7 := k7.has (hx6.dr d2) (by simp)
 have hg7 := k7.has (hg6.dr d2) (by simp)
 have hs7 := k7.has (hs6.dr d2) (by simp)
 have hp7 := k7.has (hp6.dr d2) (by simp)
 refine zA.2 ⟨⟨hg7, hx7⟩, by omega, ?_⟩
 have hf := GM hh x.1
 have r1 : Int.tmod (IntKind.wrap .i64 (qK g x.1 + x.2.1)) g.d = (qK g x.1 + x.2.1) % g.d := by rw [zW (by omega) (by omega), Int.tmod_eq_emod_of_nonneg (by omega)]
 have r2 : IntKind.wrap .i64 ((IntKind.wrap .i64 (x.1 * g.c)) + x.2.2) = x.1 * g.c + x.2.2 := by rw [zW (x := x.1 * g.c) (by omega) (by omega), zW (by omega) (by omega)]
 rw [r1, r2]
 refine ⟨.agg (plcV (plcP g x.1 x.2.2 x.2.1)), fun w' _ => run_build _ _ _ _ (by kernel_rfl), zJ.2 ⟨rfl, ?_⟩⟩
 refine yB hs7 rfl (by kernel_rfl) (XX x) ?_
 have hg8 := Has.upd (y := .cells (x5 x) 177 (0, 0)) hg7 (show b ≠ bs by omega)
 have hx8 := Has.upd (y := .cells (x5 x) 177 (0, 0)) hx7 (show bx ≠ bs by omega)
 have hp8 := Has.upd (y := .cells (x5 x) 177 (0, 0)) hp7 (show bp ≠ bs by omega)
 have hs8 := hs7.zL (.cells (x5 x) 177 (0, 0))
 refine ⟨⟨hg8, hx8⟩, ?_⟩
 have k08 : Keep (fun k => k = b ∨ k = bs ∨ k = bp ∨ k = bx) w (w7.upd bs (.cells (x5 x) 177 (0, 0))) := ((k06.dr d2).trans (k7.mono fun _ h => h.elim)).upd (fun _ => Or.inr (Or.inl rfl)) _
 generalize w7.upd bs (.cells (x5 x) 177 (0, 0)) = w8 at *
 refine yB hp8 rfl (by kernel_rfl) (NS _) ?_
 have hg9 := Has.upd (y := .cells (plcV (plcP g x.1 x.2.2 x.2.1)) 84 (0, 0)) hg8 (show b ≠ bp by omega)
 have hx9 := Has.upd (y := .cells (plcV (plcP g x.1 x.2.2 x.2.1)) 84 (0, 0)) hx8 (show bx ≠ bp by omega)
 have hs9 := Has.upd (y := .cells (plcV (plcP g x.1 x.2.2 x.2.1)) 84 (0, 0)) hs8 (show bs ≠ bp by omega)
 refine ⟨⟨hg9, hx9⟩, ?_⟩
 refine zQ hs9 rfl ?_
 refine zQ (hp8.zL _) rfl ?_
 refine zF.2 (hK _ ?_)
 have k09 := k08.upd (k := bp) (fun _ => Or.inr (Or.inr (Or.inl rfl))) (.cells (plcV (plcP g x.1 x.2.2 x.2.1)) 84 (0, 0))
 exact (Keep.refl (fun _ => False) w).trans' k09 fun i hi hh => by rw [hb0] at hi; omega
theorem zP9 : LayT Tryz.prog O7 184 84 16 := ⟨by kernel_rfl, ⟨(Tryz.prog.info? 84).get (by kernel_rfl), ((Tryz.prog.info? 84).get (by kernel_rfl)).zero.get (by kernel_rfl), by kernel_rfl, by kernel_rfl, by kernel_rfl, by kernel_rfl, by kernel_rfl⟩⟩
theorem zNi (x : Plc) (w : World) : (Instr.buildSlice 184 1 #[(0, .agg (plcV x))]).run Tryz.prog w = .ok (.slice (some ⟨w.heap.size, 0, none⟩) 1 1) (w.alloc (.cells (plcV x) 84)) :=
 run_buildSlice w 184 84 1 _ (plcV x) ((Tryz.prog.info? 84).get (by kernel_rfl)) (((Tryz.prog.info? 84).get (by kernel_rfl)).zero.get (by kernel_rfl)) (by kernel_rfl) (by kernel_rfl) (by kernel_rfl) (by decide +kernel) (by decide +kernel) (by kernel_rfl)
def rowP (g : Geo) (st off : Int) (n : Nat) : List Plc := (List.range n).map fun (k : Nat) => plcP g st off (k : Int)
theorem zEu (g : Geo) (st off : Int) (n : Nat) : rowP g st off (n + 1) = rowP g st off n ++ [plcP g st off (n : Int)] := by unfold rowP; rw [List.range_succ, List.map_append]; rfl
theorem zPi (h : GeoOk g) {st off : Int} (hst : 0 ≤ st ∧ st < g.s) (hof : 0 ≤ off ∧ off < g.c) (hK : ∀ p c w', OwnL O7 w' w.heap.size 84 p g.d.toNat c (rowP g st off g.d.toNat) → Keep (fun _ => False) w w' → R (.tuple #[.slice p g.d.toNat c, .int .i64 0]) w') :
  zB Tryz.prog 109 #[.agg (geoV g), .int .i64 st, .int .i64 off] w R := by
 apply L4
 unfold UH
 have hrow := h.row hst hof
 have hsz := h.size
 have hh := h
 obtain ⟨⟨d1, d2⟩, ⟨c1, c2⟩, ⟨s1, s2⟩⟩ := h
 refine zK fun w1 hb1 k1 z1 => ?_
 refine zQ hb1 rfl ?_
 refine N3 hh fun w2 k2 => ?_
 refine zA.2 ((zH (p := _)).2 ?_)
 rw [decide_eq_false (show ¬ st < 0 by omega)]
 refine (zH (p := _)).2 ?_
 have hb2 := k2.has hb1 (by simp)
 refine zG (v := .int .i64 g.s) hb2 rfl (zA.2 ⟨rfl, rfl, ?_⟩)
 rw [decide_eq_false (show ¬ st ≥ g.s by omega), decide_eq_false (show ¬ off < 0 by omega)]
 refine (zH (p := _)).2 ?_
 refine zG (v := .int .i64 g.c) hb2 rfl (zA.2 ?_)
 rw [decide_eq_false (show ¬ off ≥ g.c by omega)]
 refine (zH (p := _)).2 ?_
 refine zG (v := .int .i64 g.d) hb2 rfl (zA.2 ?_)
 have k02 := k1.trans k2
 generalize hq : w.heap.size = b at *
 refine zP (σ := (Option Addr × Nat × Nat) × Int × Unit) (fun s w' => ∃ k : Nat, s.2.1 = (k : Int) ∧ (k : Int) ≤ g.d ∧ s.1.2.1 = k ∧ OwnL O7 w' (b + 1) 84 s.1.1 k s.1.2.2 (rowP g st off k) ∧ Has w' b (.cells (geoV g) 24 (0, 0)) ∧ Keep (fun _ => False) w w' ∧ b + 1 ≤ w'.heap.size) (fun s _ => (g.d - s.2.1).toNat)
  ⟨0, rfl, by omega, rfl, OwnL.nil, hb2, k02, hb2.lt⟩ ?_
 rintro _ ⟨⟨p, l, c⟩, i, u⟩ w3 ⟨k, hi, hk, hl, o3, hb3, k3, z3⟩
 simp only at hi hl o3 ⊢
 subst hi hl
 refine zN (fun hc => ?_) (fun hc => ?_)
 ·have hc : (l : Int) < g.d := by simpa using hc
  intro dd
  refine ⟨fun w' => Has w' b (.cells (geoV g) 24 (0, 0)), hb3.dr dd, ?_⟩
  refine jR (cs := geoV g) rfl (fun w' hw => ⟨_, _, _, hw, Nat.le_refl 3, rfl⟩) ?_
  refine yO (v := .int .i64 g.d) (fun w' hw => ⟨_, _, _, hw, rfl⟩) (zA.2 ?_)
  refine yO (v := .int .i64 g.c) (fun w' hw => ⟨_, _, _, hw, rfl⟩) (zA.2 ?_)
  refine zG2 hh hst.1 fun w4 k4 => ?_
  have hb4 := k4.has (hb3.dr dd) (by simp)
  refine zA.2 ⟨hb4, by omega, ?_⟩
  have hf := GM hh st
  have r1 : Int.tmod (IntKind.wrap .i64 (qK g st + (l : Int))) g.d = (qK g st + (l : Int)) % g.d := by rw [zW (by omega) (by omega), Int.tmod_eq_emod_of_nonneg (by omega)]
  have r2 : IntKind.wrap .i64 ((IntKind.wrap .i64 (st * g.c)) + off) = st * g.c + off := by rw [zW (x := st * g.c) (by omega) (by omega), zW (by omega) (by omega)]
  rw [r1, r2]
  refine ⟨.agg (plcV (plcP g st off (l : Int))), fun w' _ => run_build _ _ _ _ (by kernel_rfl), zJ.2 ⟨rfl, ?_⟩⟩
  refine ⟨_, _, zNi _ w4, zC.2 ?_⟩
  have k5 := Keep.new (fun _ => False) w4 (.cells (plcV (plcP g st off (l : Int))) 84)
  have h5 := Has.new w4 (.cells (plcV (plcP g st off (l : Int))) 84)
  generalize hw5 : w4.alloc (.cells (plcV (plcP g st off (l : Int))) 84) = w5 at *
  have k35 := ((Keep.drew (fun _ => False) w3 dd).trans k4).trans k5
  have hb5 := k5.has hb4 (by simp)
  refine ⟨hb5, ?_⟩
  have z5 := k35.size
  obtain ⟨p6, c6, w6, hr6, o6, k6, _⟩ := yK zP9 (o3.keep k35 (by simp)) (y := plcP g st off (l : Int)) h5 rfl (ty := 184) (by omega) (by simp only [maxLen]; omega) (by omega) (c2 := 1)
  have hb6 := k6.has hb5 (fun e => by have := (o3.lt e).1; omega)
  refine ⟨_, _, hr6, zC.2 ⟨hb6, ?_⟩⟩
  have ek : IntKind.wrap .i64 ((l : Int) + 1) = ((l + 1 : Nat) : Int) := by rw [zW (by omega) (by omega)]; omega
  refine ⟨_, by show (g.d - IntKind.wrap .i64 ((l : Int) + 1)).toNat < (g.d - (l : Int)).toNat; rw [ek]; omega, ⟨l + 1, ek, by omega, rfl, by rw [zEu]; exact o6, hb6, (k3.trans k35).trans' k6 fun i hi e => by have := (o3.lt e).1; rw [hq] at hi; omega, by have := k6.size; omega⟩, rfl⟩
 ·have hc : (l : Int) = g.d := by
   have : ¬ (l : Int) < g.d := by simpa using hc
   omega
  have e : g.d.toNat = l := by omega
  rw [e] at hK
  exact zF.2 (hK p c w3 (o3.y5 (by omega)) k3)
end calls
structure SB where
 m : Nat
 g : Geo
 bks : List (Nat × Nat)
structure SS where
 ds : List Dsk
 pw : Pow
def setV (g : Geo) (p : Option Addr) (l c : Nat) : Array Value := #[.int .i64 g.d, .int .i64 g.c, .int .i64 g.s, .slice p l c]
def dLay : Lay Nat := ⟨1, fun b => [.pointer (some ⟨b, 0, none⟩)], fun _ => rfl, fun y v hv => by rw [List.mem_singleton.1 hv]; rfl, by decide⟩
structure SetAt (w : World) (q : SB) (s : SS) : Prop where
 main : MaAt w q.m s.pw
 geo : GeoOk q.g
 len : q.bks.length = s.ds.length
 num : (s.ds.length : Int) = q.g.d
 disks : ∀ (i : Nat) (br : Nat × Nat) (D : Dsk), q.bks[i]? = some br → s.ds[i]? = some D → DiskAt w q.m br.1 br.2 D ∧ (D.secs.length : Int) = q.g.c * q.g.s
 nodb : (q.bks.map Prod.fst).Nodup
 nodr : (q.bks.map Prod.snd).Nodup
def vJ (q : SB) (k : Nat) : Prop := k = q.m ∨ k ∈ q.bks.map Prod.fst ∨ k ∈ q.bks.map Prod.snd
theorem NU {l : List Nat} (h : l.Nodup) {i j x : Nat} (hi : l[i]? = some x) (hj : l[j]? = some x) : i = j := by
 have h1 := (List.getElem?_eq_some_iff.1 hi)
 have h2 := (List.getElem?_eq_some_iff.1 hj)
 obtain ⟨a, ha⟩ := h1
 obtain ⟨b, hb⟩ := h2
 exact (List.getElem_inj h).1 (ha.trans hb.symm)
section plain
variable {w w' : World} {q : SB} {s : SS}
theorem SetAt.keep (h : SetAt w q s) {S : Nat → Prop} (k : Keep S w w') (hS : ∀ i, vJ q i → ¬ S i) : SetAt w' q s := by
 refine ⟨k.has (show Has w _ _ from h.main) (hS _ (Or.inl rfl)), h.geo, h.len, h.num, fun i br D hb hD => ?_, h.nodb, h.nodr⟩
 obtain ⟨h1, h2⟩ := h.disks i br D hb hD
 refine ⟨h1.keep k (hS _ (Or.inr (Or.inl ?_))) (hS _ (Or.inr (Or.inr ?_))), h2⟩
 ·exact List.mem_map.2 ⟨br, List.mem_of_getElem? hb, rfl⟩
 ·exact List.mem_map.2 ⟨br, List.mem_of_getElem? hb, rfl⟩
theorem SetAt.zX (h : SetAt w q s) (k : Keep (fun _ => False) w w') : SetAt w' q s := h.keep k fun _ _ h => h
theorem SetAt.upd (h : SetAt w q s) {i : Nat} {b r : Nat} {D' : Dsk} {pw : Pow} (hb : q.bks[i]? = some (b, r)) (k : Keep (fun k => k = q.m ∨ k = b ∨ k = r) w w') (hd : DiskAt w' q.m b r D') (hl : (D'.secs.length : Int) = q.g.c * q.g.s) (hm : MaAt w' q.m pw) :
  SetAt w' q ⟨s.ds.set i D', pw⟩ := by
 refine ⟨hm, h.geo, by simp [h.len], by simp [h.num], fun j br D hbj hD => ?_, h.nodb, h.nodr⟩
 have hD : (s.ds.set i D')[j]? = some D := hD
 by_cases hij : i = j
 ·subst hij
  have hlt : i < s.ds.length := by rw [← h.len]; exact (List.getElem?_eq_some_iff.1 hb).1
  rw [List.getElem?_set_self hlt] at hD
  cases hD
  rw [hb] at hbj
  cases hbj
  exact ⟨hd, hl⟩
 ·rw [List.getElem?_set_ne hij] at hD
  obtain ⟨h1, h2⟩ := h.disks j br D hbj hD
  have hDi : ∃ Di, s.ds[i]? = some Di := by
   have hlt : i < s.ds.length := by rw [← h.len]; exact (List.getElem?_eq_some_iff.1 hb).1
   exact ⟨_, List.getElem?_eq_getElem hlt⟩
  obtain ⟨Di, hDi⟩ := hDi
  obtain ⟨g1, _⟩ := h.disks i (b, r) Di hb hDi
  have ty : ∀ {x y : Nat} {cs cs' : Array Value}, Has w x (.cells cs 220 (0, 0)) → Has w y (.cells cs' 260 (0, 0)) → x ≠ y := fun h1 h2 => h1.ne h2 (by simp only [ne_eq, Obj.cells.injEq]; intro e; exact absurd e.2.1 (by decide))
  have hjb : br.1 ≠ b := fun e => hij (NU h.nodb (x := b) (by rw [List.getElem?_map, hb]; rfl) (by rw [List.getElem?_map, hbj]; simp [e]))
  have hjr : br.2 ≠ r := fun e => hij (NU h.nodr (x := r) (by rw [List.getElem?_map, hb]; rfl) (by rw [List.getElem?_map, hbj]; simp [e]))
  obtain ⟨c1, hc1⟩ := h1.wI
  obtain ⟨c2, hc2⟩ := g1.wI
  obtain ⟨m1, m2⟩ := h1.nem h.main
  refine ⟨h1.keep k ?_ ?_, h2⟩
  ·rintro (e | e | e)
   ·exact m1 e
   ·exact hjb e
   ·exact ty h1.cells hc2 e
  ·rintro (e | e | e)
   ·exact m2 e
   ·exact ty g1.cells hc1 e.symm
   ·exact hjr e
theorem SetAt.get (h : SetAt w q s) {i : Nat} (hi : i < s.ds.length) : ∃ b r D, q.bks[i]? = some (b, r) ∧ s.ds[i]? = some D ∧ DiskAt w q.m b r D ∧ (D.secs.length : Int) = q.g.c * q.g.s := by
 have h1 : i < q.bks.length := by rw [h.len]; exact hi
 refine ⟨q.bks[i].1, q.bks[i].2, s.ds[i], List.getElem?_eq_getElem h1, List.getElem?_eq_getElem hi, ?_⟩
 exact h.disks i _ _ (List.getElem?_eq_getElem h1) (List.getElem?_eq_getElem hi)
end plain
theorem KW {P : Program} (d : Nat) {t e : TypeId} {j : TypeInfo} {a b : Nat} {ca cb : Array Value} {ta tb : TypeId} {w : World} (hp : P.underlying t = some (.pointer e)) (hte : P.info? e = some j) (hsz : j.size ≠ 0) (hne : a ≠ b) (ha : Has w a (.cells ca ta (0, 0))) (hb : Has w b (.cells cb tb (0, 0))) :
  (Op.equalIn (d + 1) t (.pointer (some ⟨a, 0, none⟩)) (.pointer (some ⟨b, 0, none⟩))).run P w = .ok false w := by
 have hs := run_sameAddr_other (P := P) w (a := ⟨a, 0, none⟩) (b := ⟨b, 0, none⟩) (fun e => by injection e with e; exact hne e) ha hb
 simp [Op.equalIn, run_underlying hp, typeInfo, sizeOf, hte, hsz, hs]
theorem zJr {a b : Nat} {ca cb : Array Value} {ta tb : TypeId} {w : World} (hne : a ≠ b) (ha : Has w a (.cells ca ta (0, 0))) (hb : Has w b (.cells cb tb (0, 0))) :
  (binOp .eql 111 (.pointer (some ⟨a, 0, none⟩)) (.pointer (some ⟨b, 0, none⟩))).run Tryz.prog w = .ok (.bool false) w := by
 have hm : (Tryz.prog.info? 220).map (·.size) = some 4 := by kernel_rfl
 cases hj : Tryz.prog.info? 220 with
 | none => rw [hj] at hm; cases hm
 | some j =>
  rw [hj] at hm
  have hz : j.size = 4 := Option.some.inj hm
  have := KW (P := Tryz.prog) 9999 (t := 111) (e := 220) (by kernel_rfl) hj (by rw [hz]; decide) hne ha hb
  simp only [binOp]
  simp [Op.equal, Op.maxDepth, this]
theorem zKg {a b : Nat} {ca cb : Array Value} {ta tb : TypeId} {w : World} {x y : Operand} {K : Bool → Prop} (hne : a ≠ b) (ha : Has w a (.cells ca ta (0, 0))) (hb : Has w b (.cells cb tb (0, 0))) (hK : K false) :
  EqB Tryz.prog .eql 111 x y (.pointer (some ⟨a, 0, none⟩)) (.pointer (some ⟨b, 0, none⟩)) (At w) K := by
 refine ⟨false, fun w' hw => ?_, hK⟩
 obtain ⟨d, rfl⟩ := hw
 have hg : Tryz.prog.eqGuardType Tryz.prog.depth 111 = false := by kernel_rfl
 have := zJr (w := w.dr d) hne ha hb
 simp only [eqGuard, Sem.run_bind, run_program, hg, Bool.not_false, if_true, Result.andThen_ok, this]
 try simp [Sem.run_bind, Sem.run_pure, run_program, hg, this]
section calls
variable {w : World} {q : SB} {s : SS} {R : Value → World → Prop}
theorem NR (g : Geo) (p : Option Addr) (l c : Nat) : ∀ v ∈ (setV g p l c).toList, oneV v = true := by
 intro v hv
 have hv : v ∈ [Value.int .i64 g.d, .int .i64 g.c, .int .i64 g.s, .slice p l c] := hv
 simp only [List.mem_cons, List.not_mem_nil, or_false] at hv
 rcases hv with rfl | rfl | rfl | rfl <;> rfl
theorem q8 (h : SetAt w q s) {p : Option Addr} {l c : Nat} (hsl : SlL dLay w p l (q.bks.map Prod.fst)) (hlc : l ≤ c) (hK : ∀ w', Keep (fun _ => False) w w' → R (.int .i64 0) w') : zB Tryz.prog 93 #[.agg (setV q.g p l c)] w R := by
 apply HR
 unfold YF
 have hll : l = s.ds.length := by have := hsl.1; rw [List.length_map, h.len] at this; exact this
 have hnum := h.num
 have hgd := h.geo.d
 refine zK fun w1 hb1 k1 z1 => ?_
 refine xO (cs := geoV q.g) hb1 (by show 0 + 3 ≤ 4; decide) rfl ?_
 refine zKx h.geo fun w2 k2 => ?_
 refine yM.2 (zA.2 (zA.2 ((zH (p := _)).2 ?_)))
 have hb2 := k2.has hb1 (by simp)
 refine zG (v := .slice p l c) hb2 rfl (zC.2 ?_)
 refine zG (v := .int .i64 q.g.d) hb2 rfl (zA.2 ?_)
 have e1 : (((l : Nat) : Int) != q.g.d) = false := by rw [hll, hnum]; simp
 rw [e1]
 refine (zH (p := _)).2 ?_
 refine zG (v := .slice p l c) hb2 rfl (zC.2 ?_)
 have k02 := k1.trans k2
 refine zP (σ := Int × Unit) (fun st w' => ∃ i : Nat, st.1 = (i : Int) ∧ i ≤ l ∧ Keep (fun _ => False) w2 w') (fun st _ => (l - st.1).toNat) ⟨0, rfl, by omega, Keep.refl _ _⟩ ?_
 rintro _ ⟨i, u⟩ w3 ⟨i', hi, hil, k3⟩
 simp only at hi ⊢
 subst hi
 have k03 := k02.trans k3
 have h3 := h.zX k03
 have hsl3 := hsl.yA k03 (by simp)
 have hb3 := k3.has hb2 (by simp)
 refine zN (fun hc => ?_) (fun hc => ?_)
 ·have hc : i' < l := by
   have : (i' : Int) < (l : Int) := by simpa using hc
   omega
  obtain ⟨b, r, D, hbk, hD, hda, hdl⟩ := h3.get (i := i') (by omega)
  refine hsl3.ld0 (i := (i' : Int)) (n := 1) (x := b) (v := .pointer (some ⟨b, 0, none⟩)) rfl (by omega) (by rw [Int.toNat_natCast, List.getElem?_map, hbk]; rfl) rfl (zO.2 ?_)
  refine zL7 hda ?_
  refine zA.2 ?_
  have e2 : (((D.secs.length : Nat) : Int) != q.g.c * q.g.s) = false := by rw [hdl]; simp
  rw [e2]
  refine (zH (p := _)).2 ?_
  refine zG (v := .slice p l c) hb3 rfl (zC.2 ?_)
  refine G2 (hi := i') (by omega) ?_
  have hsub := hsl3.sub (lo := 0) (hi := i') (m := c) (by omega) (by omega) (by omega)
  rw [List.drop_zero] at hsub
  have e3 : IntKind.wrap .i64 ((i' : Int) + 1) = ((i' + 1 : Nat) : Int) := by
   have : l ≤ 32 := by omega
   rw [zW (by omega) (by omega)]; omega
  refine zP (σ := Int × Unit) (fun st w' => ∃ j : Nat, st.1 = (j : Int) ∧ j ≤ i' ∧ w' = w3) (fun st _ => (i' - st.1).toNat) ⟨0, rfl, by omega, rfl⟩ ?_
  rintro _ ⟨j, u⟩ w4 ⟨j', hj, hjl, hw⟩
  simp only at hj ⊢
  subst hj
  rw [hw]
  clear hw
  refine zN (fun hc2 => ?_) (fun hc2 => ?_)
  ·have hc2 : j' < i' := by
    have : (j' : Int) < ((i' - 0 : Nat) : Int) := by simpa using hc2
    omega
   obtain ⟨b2, r2, D2, hbk2, hD2, hda2, hdl2⟩ := h3.get (i := j') (by omega)
   refine hsub.ld0 (i := (j' : Int)) (n := 1) (x := b2) (v := .pointer (some ⟨b2, 0, none⟩)) rfl (by omega) (by rw [Int.toNat_natCast, List.getElem?_take, if_pos hc2, List.getElem?_map, hbk2]; rfl) rfl (zO.2 ?_)
   have hne : b2 ≠ b := fun e => by
    have := NU h3.nodb (i := j') (j := i') (x := b) (by rw [List.getElem?_map, hbk2, e]; rfl) (by rw [List.getElem?_map, hbk]; rfl)
    omega
   refine zKg hne hda2.cells hda.cells ?_
   refine (zH (p := _)).2 ?_
   have e4 : IntKind.wrap .i64 ((j' : Int) + 1) = ((j' + 1 : Nat) : Int) := by
    have : l ≤ 32 := by omega
    rw [zW (by omega) (by omega)]; omega
   exact ⟨_, by show ((i' : Int) - IntKind.wrap .i64 ((j' : Int) + 1)).toNat < ((i' : Int) - (j' : Int)).toNat; rw [e4]; omega, ⟨j' + 1, e4, by omega, rfl⟩, rfl⟩
  ·exact ⟨_, by show ((l : Int) - IntKind.wrap .i64 ((i' : Int) + 1)).toNat < ((l : Int) - (i' : Int)).toNat; rw [e3]; omega, ⟨i' + 1, e3, by omega, k3⟩, rfl⟩
 ·exact zF.2 (hK w3 k03)
end calls
structure PutS where
 plc : Plc
 cel : Cel
def zIl (x : PutS) : List Value := plcL x.plc ++ celL x.cel
theorem Q7 (x : PutS) : ∀ v ∈ zIl x, oneV v = true := by
 intro v hv
 rcases List.mem_append.1 hv with h | h
 ·exact O7.one _ v h
 ·exact NT _ v h
def kP (x : PutS) : Array Value := (zIl x).toArray
def jM : Lay PutS := ⟨19, zIl, fun _ => rfl, Q7, by decide⟩
theorem zN1 (x : PutS) : (kP x).extract 2 (2 + 17) = celV x.cel := by
 apply Array.ext'
 unfold kP celV zIl plcL
 simp only [Array.toList_extract, List.extract_eq_take_drop, List.cons_append, List.nil_append, List.drop_succ_cons, List.drop_zero]
 exact List.take_of_length_le (Nat.le_refl 17)
theorem zQ6 (x : PutS) : (kP x)[1]? = some (.int .i64 x.plc.at_) := rfl
def dsk0 : Dsk := ⟨[], 0, false⟩
def put0 : PutS := ⟨⟨0, 0⟩, cel0⟩
theorem zKo : zc Tryz.prog 88 = kP put0 := by kernel_rfl
def xI (s : SS) (x : PutS) (ep : Int) : Int × SS :=
 let r := qG s.pw (s.ds.getD x.plc.dk.toNat dsk0) x.plc.at_ x.cel ep
 (r.1.2, ⟨s.ds.set x.plc.dk.toNat r.2.2, r.2.1⟩)
def qL (ep : Int) : List PutS → SS → Int × SS
 | [], s => (0, s)
 | x :: xs, s => if (xI s x ep).1 ≠ 0 ∧ (xI s x ep).1 ≠ 5 then xI s x ep else qL ep xs (xI s x ep).2
def LV (g : Geo) (x : PutS) : Prop := (0 ≤ x.plc.dk ∧ x.plc.dk < g.d) ∧ (0 ≤ x.plc.at_ ∧ x.plc.at_ < g.c * g.s)
instance (g : Geo) (x : PutS) : Decidable (LV g x) := by unfold LV; infer_instance
def vY (g : Geo) (s : SS) (xs : List PutS) (ep : Int) : Int × SS := if ∀ x ∈ xs, LV g x then qL ep xs s else (2, s)
theorem zCq {pw : Pow} {D : Dsk} {at_ ep : Int} {c : Cel} : (qG pw D at_ c ep).2.2.secs.length = D.secs.length := by
 unfold qG
 split
 ·rfl
 ·split
  ·rfl
  ·split
   ·rfl
   ·split
    ·rfl
    ·simp
theorem zKh {P : Program} {f : FuncId} {args : Array Value} {w : World} {V : Value} {K : Value → Prop} (h : ∀ d, zB P f args (w.dr d) fun v w' => v = V ∧ w' = w.dr d) (hK : K V) : UW P f args (At w) K := by
 refine ⟨V, ?_, hK⟩
 rintro w' ⟨d, rfl⟩
 exact Calls.mono (h d) fun e w' ⟨v, he, hv, hw⟩ => ⟨by rw [he, hv], by rw [hw]; exact ⟨d, rfl⟩⟩
theorem zLf (c : Cel) (w : World) : (Instr.buildSlice 167 1 #[(0, .agg (celV c))]).run Tryz.prog w = .ok (.slice (some ⟨w.heap.size, 0, none⟩) 1 1) (w.alloc (.cells (celV c) 86)) :=
 run_buildSlice w 167 86 1 _ (celV c) ((Tryz.prog.info? 86).get (by kernel_rfl)) (((Tryz.prog.info? 86).get (by kernel_rfl)).zero.get (by kernel_rfl)) (by kernel_rfl) (by kernel_rfl) (by kernel_rfl) (by decide +kernel) (by decide +kernel) (by kernel_rfl)
theorem zOj {w : World} {c : Cel} {b : Nat} (h : Has w b (.cells (celV c) 86 (0, 0))) : SlL cLay w (some ⟨b, 0, none⟩) 1 [c] := by
 have := OwnL.mk (L := cLay) (base := 0) (xs := [c]) (Nat.zero_le _) h (by simp [maxLen]) (by rw [cLay.Q2]; rfl)
 exact this.sl
section calls
variable {w : World} {q : SB} {s : SS} {R : Value → World → Prop}
theorem SetAt.typ (h : SetAt w q s) {k : Nat} {cs : Array Value} {t : TypeId} {f : Nat × Nat} (hk : Has w k (.cells cs t f)) (h1 : t ≠ 209) (h2 : t ≠ 220) (h3 : t ≠ 260) : ¬ vJ q k := by
 have no : ∀ {cs' : Array Value} {t' : TypeId} {f' : Nat × Nat} {b : Nat}, Has w b (.cells cs' t' f') → t ≠ t' → k ≠ b := by
  intro cs' t' f' b hb ht' e
  subst e
  have := hk.inj hb
  simp only [Obj.cells.injEq] at this
  exact ht' this.2.1
 rintro (e | e | e)
 ·exact no (show Has w _ _ from h.main) h1 e
 ·obtain ⟨br, hbr, rfl⟩ := List.mem_map.1 e
  obtain ⟨i, hi⟩ := List.getElem?_of_mem hbr
  have hlt := (List.getElem?_eq_some_iff.1 hi).1
  obtain ⟨b, r, D, hb, hD, hda, _⟩ := h.get (i := i) (by rw [← h.len]; exact hlt)
  rw [hi] at hb
  cases hb
  exact no hda.cells h2 rfl
 ·obtain ⟨br, hbr, rfl⟩ := List.mem_map.1 e
  obtain ⟨i, hi⟩ := List.getElem?_of_mem hbr
  have hlt := (List.getElem?_eq_some_iff.1 hi).1
  obtain ⟨b, r, D, hb, hD, hda, _⟩ := h.get (i := i) (by rw [← h.len]; exact hlt)
  rw [hi] at hb
  cases hb
  obtain ⟨cs', hc⟩ := hda.wI
  exact no hc h3 rfl
theorem zB1 (h : SetAt w q s) {p : Option Addr} {l c : Nat} (hsl : SlL dLay w p l (q.bks.map Prod.fst)) (hlc : l ≤ c) (hpf : ∀ b o, p = some ⟨b, o, none⟩ → ¬ vJ q b) {pp : Option Addr} {pl pc : Nat} {xs : List PutS} {ep : Int} (hps : SlL jM w pp pl xs) (hpl : pl ≤ 1000000) (hppf : ∀ b o, pp = some ⟨b, o, none⟩ → ¬ vJ q b)
  (hK : ∀ w', SetAt w' q (vY q.g s xs ep).2 → Keep (vJ q) w w' → R (.int .i64 (vY q.g s xs ep).1) w') : zB Tryz.prog 38 #[.agg (setV q.g p l c), .slice pp pl pc, .int .u32 ep] w R := by
 apply HS
 unfold YG
 have hll : l = s.ds.length := by have := hsl.1; rw [List.length_map, h.len] at this; exact this
 have hnum := h.num
 have hgd := h.geo.d
 have hplx := hps.1
 have foot0 : ∀ {w' : World}, Keep (fun _ => False) w w' → Keep (vJ q) w w' := fun k => k.mono fun _ h => h.elim
 refine zK fun w1 hb1 k1 z1 => ?_
 refine zQ hb1 rfl ?_
 have h1 := h.zX k1
 refine q8 h1 (hsl.yA k1 (by simp)) hlc fun w2 k2 => ?_
 refine zA.2 ((zH (p := _)).2 ?_)
 have hb2 := k2.has hb1 (by simp)
 have k02 := k1.trans k2
 have ek : ∀ {n : Nat}, n < pl → IntKind.wrap .i64 ((n : Int) + 1) = ((n + 1 : Nat) : Int) := fun h => by rw [zW (by omega) (by omega)]; omega
 refine zP (σ := Int × Unit) (fun st w' => ∃ i : Nat, st.1 = (i : Int) ∧ i ≤ pl ∧ (∀ x ∈ xs.take i, LV q.g x) ∧ Keep (fun _ => False) w w' ∧ Has w' w.heap.size (.cells (setV q.g p l c) 51 (0, 0))) (fun st _ => (pl - st.1).toNat) ⟨0, rfl, by omega, by simp, k02, hb2⟩ ?_
 rintro _ ⟨i, u⟩ w3 ⟨i', hi, hil, hok, k3, hb3⟩
 simp only at hi ⊢
 subst hi
 have h3 := h.zX k3
 have hps3 := hps.yA k3 (by simp)
 refine zN (fun hc => ?_) (fun hc => ?_)
 ·have hc : i' < pl := by
   have : (i' : Int) < (pl : Int) := by simpa using hc
   omega
  obtain ⟨x, hx⟩ : ∃ x, xs[i']? = some x := ⟨_, List.getElem?_eq_getElem (by omega)⟩
  refine hps3.ldA (i := (i' : Int)) (n := 19) (x := x) rfl (by omega) (by simpa using hx) ?_
  refine yN (by rw [zKo]; rfl) rfl (fun v hv => jM.one x v (by simpa using hv)) fun w4 hb4 k4 z4 => ?_
  have hb4 : Has w4 w3.heap.size (.cells (kP x) 88 (0, 0)) := hb4
  have hs4 := k4.has hb3 (by simp)
  have k04 := k3.trans k4
  have h4 := h.zX k04
  have bad : ¬ LV q.g x → ∀ w', Keep (fun _ => False) w w' → Ret [] (R (.int .i64 2) w') := by
   intro hn w' k'
   unfold vY at hK
   rw [if_neg (fun hh => hn (hh x (List.mem_of_getElem? hx)))] at hK
   exact zF.2 (hK w' (h.zX k') (foot0 k'))
  refine zG (v := .int .i64 x.plc.dk) hb4 rfl (zA.2 ?_)
  refine zN (fun h0 => ?_) (fun h0 => ?_)
  ·have h0 : x.plc.dk < 0 := by simpa using h0
   exact fun d => bad (fun hp => by have := hp.1.1; omega) _ (k04.dr d)
  have h0 : ¬ x.plc.dk < 0 := by simpa using h0
  refine zG (v := .int .i64 x.plc.dk) hb4 rfl (zA.2 ?_)
  refine zG (v := .slice p l c) hs4 rfl (zC.2 ?_)
  refine zN (fun h1 => ?_) (fun h1 => ?_)
  ·have h1 : x.plc.dk ≥ (l : Int) := by simpa using h1
   exact fun d => bad (fun hp => by have := hp.1.2; omega) _ (k04.dr d)
  have h1 : ¬ x.plc.dk ≥ (l : Int) := by simpa using h1
  refine zG (v := .int .i64 x.plc.at_) hb4 rfl (zA.2 ?_)
  refine zN (fun h2 => ?_) (fun h2 => ?_)
  ·have h2 : x.plc.at_ < 0 := by simpa using h2
   exact fun d => bad (fun hp => by have := hp.2.1; omega) _ (k04.dr d)
  have h2 : ¬ x.plc.at_ < 0 := by simpa using h2
  refine zG (v := .int .i64 x.plc.at_) hb4 rfl (zA.2 ?_)
  refine zG (v := .slice p l c) hs4 rfl (zC.2 ?_)
  obtain ⟨b, r, D, hbk, hD, hda, hdl⟩ := h4.get (i := 0) (by omega)
  refine (hsl.yA k04 (by simp)).ld0 (i := 0) (n := 1) (x := b) (v := .pointer (some ⟨b, 0, none⟩)) rfl (by omega) (by show (q.bks.map Prod.fst)[0]? = some b; rw [List.getElem?_map, hbk]; rfl) rfl (zO.2 ?_)
  refine zKh (V := .int .i64 (D.secs.length : Int)) (fun d => zL7 (hda.keep (Keep.drew (fun _ => False) w4 d) (by simp) (by simp)) ⟨rfl, rfl⟩) ?_
  refine zA.2 fun d => ?_
  refine zN (fun h5 => ?_) (fun h5 => ?_)
  ·have h5 : x.plc.at_ ≥ (D.secs.length : Int) := by simpa using h5
   exact bad (fun hp => by have := hp.2.2; omega) _ (k04.dr d)
  have h5 : ¬ x.plc.at_ ≥ (D.secs.length : Int) := by simpa using h5
  refine ⟨_, by show ((pl : Int) - IntKind.wrap .i64 ((i' : Int) + 1)).toNat < ((pl : Int) - (i' : Int)).toNat; rw [ek hc]; omega, ⟨i' + 1, ek hc, by omega, fun y hy => ?_, k04.dr d, hs4.dr d⟩, rfl⟩
  rw [List.take_add_one, hx] at hy
  rcases List.mem_append.1 hy with hy | hy
  ·exact hok y hy
  ·have : y = x := by simpa using hy
   rw [this]
   exact ⟨⟨by omega, by omega⟩, ⟨by omega, by omega⟩⟩
 ·have hc : i' = pl := by
   have : ¬ (i' : Int) < (pl : Int) := by simpa using hc
   omega
  rw [List.take_of_length_le (by omega)] at hok
  unfold vY at hK
  rw [if_pos hok] at hK
  refine zP (σ := Int × Unit) (fun st w' => ∃ (i : Nat) (s' : SS), st.1 = (i : Int) ∧ i ≤ pl ∧ SetAt w' q s' ∧ qL ep (xs.drop i) s' = qL ep xs s ∧ Keep (vJ q) w w' ∧ Has w' w.heap.size (.cells (setV q.g p l c) 51 (0, 0))) (fun st _ => (pl - st.1).toNat) ⟨0, s, rfl, by omega, h3, rfl, foot0 k3, hb3⟩ ?_
  rintro _ ⟨i, u⟩ w5 ⟨j, s5, hj, hjl, h5, he5, k5, hb5⟩
  simp only at hj ⊢
  subst hj
  refine zN (fun hc => ?_) (fun hc => ?_)
  ·have hc : j < pl := by
    have : (j : Int) < (pl : Int) := by simpa using hc
    omega
   obtain ⟨x, hx⟩ : ∃ x, xs[j]? = some x := ⟨_, List.getElem?_eq_getElem (by omega)⟩
   have hxok := hok x (List.mem_of_getElem? hx)
   have hps5 : SlL jM w5 pp pl xs := hps.keep k5 hppf
   have hsl5 : SlL dLay w5 p l (q.bks.map Prod.fst) := hsl.keep k5 hpf
   refine hps5.ldA (i := (j : Int)) (n := 19) (x := x) rfl (by omega) (by simpa using hx) ?_
   refine yN (by rw [zKo]; rfl) rfl (fun v hv => jM.one x v (by simpa using hv)) fun w6 hb6 k6 z6 => ?_
   have hb6 : Has w6 w5.heap.size (.cells (kP x) 88 (0, 0)) := hb6
   have hs6 := k6.has hb5 (by simp)
   intro d
   have kd := Keep.drew (fun _ => False) w6 d
   have k66 := k6.trans kd
   have h6 := h5.zX k66
   have hl5 : l = s5.ds.length := by have := h6.num; omega
   refine ⟨fun w' => Has w' w5.heap.size (.cells (kP x) 88 (0, 0)) ∧ Has w' w.heap.size (.cells (setV q.g p l c) 51 (0, 0)) ∧ SlL dLay w' p l (q.bks.map Prod.fst), ⟨hb6.dr d, hs6.dr d, hsl5.yA k66 (by simp)⟩, ?_⟩
   refine yO (v := .slice p l c) (fun w' hw => ⟨_, _, _, hw.2.1, rfl⟩) (zC.2 ?_)
   refine yO (v := .int .i64 x.plc.dk) (fun w' hw => ⟨_, _, _, hw.1, rfl⟩) (zA.2 ?_)
   obtain ⟨b, r, D, hbk, hD, hda, hdl⟩ := h6.get (i := x.plc.dk.toNat) (by have := hxok.1; omega)
   refine SlL.ldSd (S := fun w' => Has w' w5.heap.size (.cells (kP x) 88 (0, 0)) ∧ Has w' w.heap.size (.cells (setV q.g p l c) 51 (0, 0)) ∧ SlL dLay w' p l (q.bks.map Prod.fst)) (w0 := w6.dr d) ⟨hb6.dr d, hs6.dr d, hsl5.yA k66 (by simp)⟩ (fun w' hw => hw.2.2) (i := x.plc.dk) (x := b) (n := 1) (v := .pointer (some ⟨b, 0, none⟩)) rfl hxok.1.1 (by rw [List.getElem?_map, hbk]; rfl) rfl ?_
   refine zO.2 ?_
   refine yO (v := .int .i64 x.plc.at_) (fun w' hw => ⟨_, _, _, hw.1, zQ6 x⟩) (zA.2 ?_)
   refine jR (cs := celV x.cel) rfl (fun w' hw => ⟨_, _, _, hw.1, by show 2 + 17 ≤ 19; decide, zN1 x⟩) ?_
   refine ⟨_, _, zLf x.cel (w6.dr d), zC.2 ?_⟩
   have k7 := Keep.new (fun _ => False) (w6.dr d) (.cells (celV x.cel) 86)
   have h7c := Has.new (w6.dr d) (.cells (celV x.cel) 86)
   generalize hw7 : (w6.dr d).alloc (.cells (celV x.cel) 86) = w7 at *
   have k57 := k66.trans k7
   have h7 := h5.zX k57
   have hb7 := k7.has (hb6.dr d) (by simp)
   have hs7 := k7.has (hs6.dr d) (by simp)
   have hsl7 := hsl5.yA k57 (by simp)
   refine ⟨⟨hb7, hs7, hsl7⟩, ?_⟩
   have hda7 := hda.keep k7 (by simp) (by simp)
   refine zGy hda7 h7.main (zOj h7c) (by rw [hdl]; exact hxok.2) fun w8 hd8 hm8 k8 => ?_
   have hDg : s5.ds.getD x.plc.dk.toNat dsk0 = D := by rw [List.getD_eq_getElem?_getD, hD]; rfl
   have h8 : SetAt w8 q (xI s5 x ep).2 := by
    have := h7.upd hbk (k8.mono fun k hk => by rcases hk with e | e; exact Or.inl e; exact Or.inr (Or.inr e)) hd8 (by rw [zCq]; exact hdl) hm8
    unfold xI
    rw [hDg]
    exact this
   have kf : Keep (vJ q) w7 w8 := k8.mono fun k hk => by
    rcases hk with e | e
    ·exact Or.inl e
    ·exact Or.inr (Or.inr (by rw [e]; exact List.mem_map.2 ⟨(b, r), List.mem_of_getElem? hbk, rfl⟩))
   have kF : Keep (vJ q) w w8 := (k5.trans (k57.mono fun _ h => h.elim)).trans kf
   have hb8 := kf.has hb7 (h7.typ hb7 (by decide) (by decide) (by decide))
   have hs8 := kf.has hs7 (h7.typ hs7 (by decide) (by decide) (by decide))
   have hsl8 : SlL dLay w8 p l (q.bks.map Prod.fst) := hsl.keep kF hpf
   refine yM.2 (zA.2 (zA.2 ⟨⟨hb8, hs8, hsl8⟩, trivial, trivial, ?_⟩))
   have ee : (qG s5.pw D x.plc.at_ x.cel ep).1.2 = (xI s5 x ep).1 := by unfold xI; rw [hDg]
   rw [ee]
   have ed : xs.drop j = x :: xs.drop (j + 1) := by
    rw [List.drop_eq_getElem_cons (by omega)]
    congr 1
    have := List.getElem?_eq_getElem (l := xs) (i := j) (by omega)
    rw [hx] at this
    exact (Option.some.inj this).symm
   rw [ed] at he5
   have hst : qL ep (x :: xs.drop (j + 1)) s5 = if (xI s5 x ep).1 ≠ 0 ∧ (xI s5 x ep).1 ≠ 5 then xI s5 x ep else qL ep (xs.drop (j + 1)) (xI s5 x ep).2 := rfl
   rw [hst] at he5
   refine zN (fun hz => ?_) (fun hz => ?_)
   ·have hz : (xI s5 x ep).1 ≠ 0 ∧ (xI s5 x ep).1 ≠ 5 := by simpa using hz
    rw [if_pos hz] at he5
    rw [← he5] at hK
    exact zF.2 (hK w8 h8 kF)
   ·have hz : ¬ ((xI s5 x ep).1 ≠ 0 ∧ (xI s5 x ep).1 ≠ 5) := by
     intro hh
     have : (cond ((xI s5 x ep).1 != 0) ((xI s5 x ep).1 != 5) false) = true := by simp [hh.1, hh.2]
     rw [this] at hz
     cases hz
    rw [if_neg hz] at he5
    exact ⟨_, by show ((pl : Int) - IntKind.wrap .i64 ((j : Int) + 1)).toNat < ((pl : Int) - (j : Int)).toNat; rw [ek hc]; omega, ⟨j + 1, _, ek hc, by omega, h8, he5, kF, hs8⟩, rfl⟩
  ·have hc : j = pl := by
    have : ¬ (j : Int) < (pl : Int) := by simpa using hc
    omega
   rw [List.drop_of_length_le (by omega)] at he5
   have he5 : (0, s5) = qL ep xs s := he5
   rw [← he5] at hK
   exact zF.2 (hK w5 h5 k5)
end calls
def nul (at_ : Int) : Sct := ⟨⟨sec [], sumS at_ (sec [])⟩, true⟩
def nuls (n : Nat) : List Sct := (List.range n).map fun (k : Nat) => nul (k : Int)
theorem zFi (n : Nat) : nuls (n + 1) = nuls n ++ [nul (n : Int)] := by unfold nuls; rw [List.range_succ, List.map_append]; rfl
theorem X1 (n : Nat) : (nuls n).length = n := by simp [nuls]
def newD (n : Nat) : Dsk := ⟨nuls n, 0, false⟩
def half (t n : Nat) : Dsk := ⟨nuls t ++ List.replicate (n - t) sct0, 0, false⟩
theorem zJd {t n : Nat} (h : t ≤ n) : (half t n).secs.length = n := by
 show (nuls t ++ List.replicate (n - t) sct0).length = n
 rw [List.length_append, X1, List.length_replicate]; omega
theorem zJc {t n : Nat} (h : t < n) : (half t n).secs.set t (nul (t : Int)) = (half (t + 1) n).secs := by
 show (nuls t ++ List.replicate (n - t) sct0).set t (nul (t : Int)) = nuls (t + 1) ++ List.replicate (n - (t + 1)) sct0
 rw [List.set_append_right _ _ (by rw [X1]; omega), X1, Nat.sub_self, show n - t = (n - (t + 1)) + 1 by omega, List.replicate_succ, List.set_cons_zero, zFi, List.append_assoc]
 rfl
theorem zJe (n : Nat) : half n n = newD n := by unfold half newD; rw [Nat.sub_self, List.replicate_zero, List.append_nil]
def Lit0 (pw : Pow) : Prop := pw.on = true ∧ pw.left = 0
theorem vF {p : Pow} (h : Lit0 p) : (yW p).1 = true ∧ Lit0 (yW p).2 := by
 unfold yW
 rw [if_pos h.1, if_pos h.2]
 exact ⟨rfl, h.1, h.2⟩
def zQ8 (b4 : Nat) (n : Int) (w : World) (K : World → Prop) : Prop :=
 yC (σ := Int × Unit) (fun _ s2 w K2 => Cb (decide (s2.1 < n)) (DoQ Tryz.prog (Instr.build 37 #[]) (At w) fun v10 => OpA 16 v10 fun cs5 => zB Tryz.prog 116
 #[.int .i64 s2.1, .agg cs5] w fun v11 w => OpA 17 v11 fun cs6 => DoV Tryz.prog (Instr.buildSlice 167 1 #[(0, .agg cs6)]) w fun v12 w => OpS v12 fun p l c => zB Tryz.prog
 120 #[.pointer (some ⟨b4, 0, none⟩), .int .i64 s2.1, .slice p l c, .int .u32 0] w fun v13 w => T2 v13 fun v14 v15 => OpI .i64 v14 fun n4 => OpI .i64 v15 fun n5 => K2
 (IntKind.wrap .i64 (s2.1 + 1), ()) w) (K w)) (0, ()) w
section calls
variable {w : World} {R : Value → World → Prop}
theorem zQx {o b r n : Nat} {pw : Pow} (hd : DiskAt w o b r (half 0 n)) (hm : MaAt w o pw) (hl : Lit0 pw) (hn : n ≤ 1024) {K : World → Prop} (hK : ∀ w' pw', DiskAt w' o b r (newD n) → MaAt w' o pw' → Lit0 pw' → Keep (fun k => k = o ∨ k = r) w w' → K w') : zQ8 b (n : Int) w K := by
 unfold zQ8
 refine zP (σ := Int × Unit) (fun st w' => ∃ (t : Nat) (p : Pow), st.1 = (t : Int) ∧ t ≤ n ∧ DiskAt w' o b r (half t n) ∧ MaAt w' o p ∧ Lit0 p ∧ Keep (fun k => k = o ∨ k = r) w w') (fun st _ => (n - st.1).toNat) ⟨0, pw, rfl, by omega, hd, hm, hl, Keep.refl _ _⟩ ?_
 rintro _ ⟨t, u⟩ w1 ⟨t', p, ht, htn, hd1, hm1, hl1, k1⟩
 simp only at ht ⊢
 subst ht
 refine zN (fun hc => ?_) (fun hc => ?_)
 ·have hc : t' < n := by
   have : (t' : Int) < (n : Int) := by simpa using hc
   omega
  refine zV (fun d => QJ _) (zJ.2 ⟨rfl, ?_⟩)
  refine zB9 fun w2 k2 => ?_
  refine zJ.2 ⟨rfl, ?_⟩
  refine ⟨_, _, zLf _ w2, zC.2 ?_⟩
  have k3 := Keep.new (fun _ => False) w2 (.cells (celV ⟨sec [], sumS (t' : Int) (sec [])⟩) 86)
  have h3 := Has.new w2 (.cells (celV ⟨sec [], sumS (t' : Int) (sec [])⟩) 86)
  generalize w2.alloc (.cells (celV ⟨sec [], sumS (t' : Int) (sec [])⟩) 86) = w3 at *
  have k13 := k2.trans k3
  have hd3 := hd1.keep k13 (by simp) (by simp)
  have hm3 : MaAt w3 o p := k13.has hm1 (by simp)
  refine zGy hd3 hm3 (zOj h3) (by rw [zJd htn]; omega) fun w4 hd4 hm4 k4 => ?_
  obtain ⟨hs, hl2⟩ := vF hl1
  have e : qG p (half t' n) (t' : Int) ⟨sec [], sumS (t' : Int) (sec [])⟩ 0 = ((1, 0), (yW p).2, half (t' + 1) n) := by
   unfold qG
   rw [if_neg (by simp [hl1.1]), if_neg (by show ¬ false = true; simp), if_neg (by show ¬ (0 : Int) < 0; omega), if_neg (by rw [hs]; simp), Int.toNat_natCast]
   have := zJc hc
   unfold nul at this
   rw [this]
   rfl
  rw [e] at hd4 hm4 ⊢
  refine yM.2 (zA.2 (zA.2 ?_))
  have e3 : IntKind.wrap .i64 ((t' : Int) + 1) = ((t' + 1 : Nat) : Int) := by rw [zW (by omega) (by omega)]; omega
  exact ⟨_, by show ((n : Int) - IntKind.wrap .i64 ((t' : Int) + 1)).toNat < ((n : Int) - (t' : Int)).toNat; rw [e3]; omega, ⟨t' + 1, _, e3, by omega, hd4, hm4, hl2, (k1.trans (k13.mono fun _ h => h.elim)).trans k4⟩, rfl⟩
 ·have hc : t' = n := by
   have : ¬ (t' : Int) < (n : Int) := by simpa using hc
   omega
  subst hc
  rw [zJe] at hd1
  exact hK w1 p hd1 hm1 hl1 k1
theorem zR1 : LayT Tryz.prog dLay 49 111 8 := ⟨by kernel_rfl, ⟨(Tryz.prog.info? 111).get (by kernel_rfl), ((Tryz.prog.info? 111).get (by kernel_rfl)).zero.get (by kernel_rfl), by kernel_rfl, by kernel_rfl, by kernel_rfl, by kernel_rfl, by kernel_rfl⟩⟩
theorem zQ4 (b : Nat) (w : World) : (Instr.buildSlice 49 1 #[(0, .pointer (some ⟨b, 0, none⟩))]).run Tryz.prog w = .ok (.slice (some ⟨w.heap.size, 0, none⟩) 1 1) (w.alloc (.cells #[.pointer (some ⟨b, 0, none⟩)] 111)) :=
 run_buildSlice w 49 111 1 _ #[.pointer (some ⟨b, 0, none⟩)] ((Tryz.prog.info? 111).get (by kernel_rfl)) (((Tryz.prog.info? 111).get (by kernel_rfl)).zero.get (by kernel_rfl)) (by kernel_rfl) (by kernel_rfl) (by kernel_rfl) (by decide +kernel) (by decide +kernel) (by kernel_rfl)
def SB.from_ (q : SB) (n : Nat) : Prop := ∀ br ∈ q.bks, n ≤ br.1 ∧ n ≤ br.2
structure NewI (w w' : World) (m o b b1 b2 n k : Nat) (g : Geo) (p : Option Addr) (c : Nat) (bks : List (Nat × Nat)) (pw : Pow) : Prop where
 len : bks.length = k
 own : MaAt w' o pw
 lit : Lit0 pw
 geo : Has w' b (.cells (geoV g) 24 (0, 0))
 res : ∃ cs, cs.size = 4 ∧ Has w' b1 (.cells cs 51 (0, 0))
 set : Has w' b2 (.cells (setV g p k c) 51 (0, 0))
 row : OwnL dLay w' (w.heap.size) 111 p k c (bks.map Prod.fst)
 dsk : ∀ br ∈ bks, DiskAt w' m br.1 br.2 (newD n)
 low : ∀ br ∈ bks, w.heap.size ≤ br.1 ∧ w.heap.size ≤ br.2
 nodb : (bks.map Prod.fst).Nodup
 nodr : (bks.map Prod.snd).Nodup
 keep : Keep (fun _ => False) w w'
theorem zOh {g : Geo} {m : Nat} {pw : Pow} (hg : GeoOk g) (hm : MaAt w m pw)
  (hK : ∀ p c bks w', SetAt w' ⟨m, g, bks⟩ ⟨List.replicate g.d.toNat (newD (g.c * g.s).toNat), pw⟩ → OwnL dLay w' w.heap.size 111 p g.d.toNat c (bks.map Prod.fst) → (SB.mk m g bks).from_ w.heap.size → Keep (fun _ => False) w w' → R (.tuple #[.agg (setV g p g.d.toNat c), .int .i64 0]) w') :
  zB Tryz.prog 53 #[.agg (geoV g), .pointer (some ⟨m, 0, none⟩)] w R := by
 apply LZ
 unfold UC
 have hsz := hg.size
 have hgd := hg.d
 refine zK fun w1 hb1 k1 z1 => ?_
 refine zK fun w2 hb2 k2 z2 => ?_
 have hz4 : (zc Tryz.prog 51) = setV ⟨0, 0, 0⟩ none 0 0 := by kernel_rfl
 rw [hz4] at hb2
 have hb12 := k2.has hb1 (by simp)
 refine zQ hb12 rfl ?_
 refine zKx hg fun w3 k3 => ?_
 refine yM.2 (zA.2 (zA.2 ((zH (p := _)).2 ?_)))
 have hg3 := k3.has hb12 (by simp)
 have hr3 := k3.has hb2 (by simp)
 refine zQ hg3 rfl ?_
 refine zV (v := .agg (setV g none 0 0)) (fun d => run_build _ _ _ _ (by kernel_rfl)) (zJ.2 ⟨rfl, ?_⟩)
 refine yN (by rw [hz4]; rfl) rfl (NR g none 0 0) fun w4 hb4 k4 z4 => ?_
 refine zFu fun o w5 ho hmo k5 z5 => ?_
 refine zO.2 ?_
 have k04 := ((k1.trans k2).trans k3).trans k4
 have k05 := k04.trans k5
 have hg5 := (k4.trans k5).has hg3 (by simp)
 have hr5 := (k4.trans k5).has hr3 (by simp)
 have hs5 := k5.has hb4 (by simp)
 have hgl := hg3.lt
 have hrl := hr3.lt
 have hwl : w.heap.size ≤ w1.heap.size := by omega
 have hs3 : w1.heap.size ≤ w3.heap.size := (k2.trans k3).size
 generalize hb2e : w3.heap.size = b2 at *
 generalize hb1e : w1.heap.size = b1 at *
 generalize hbe : w.heap.size = b at *
 refine zG (v := .int .i64 g.d) hg5 rfl (zA.2 ?_)
 obtain ⟨n, hn⟩ : ∃ n : Nat, g.c * g.s = (n : Int) := ⟨(g.c * g.s).toNat, by omega⟩
 have hn' : (g.c * g.s).toNat = n := by omega
 rw [hn'] at hK
 rw [hn]
 rw [hn] at hsz
 refine zP (σ := Int × Unit) (fun st w' => ∃ (k : Nat) (p : Option Addr) (c : Nat) (bks : List (Nat × Nat)) (pwo : Pow), st.1 = (k : Int) ∧ (k : Int) ≤ g.d ∧ NewI w w' m o b b1 b2 n k g p c bks pwo) (fun st _ => (g.d - st.1).toNat)
  ⟨0, none, 0, [], _, rfl, by omega, ⟨rfl, hmo, ⟨rfl, rfl⟩, hg5, ⟨_, rfl, hr5⟩, hs5, OwnL.nil, by simp, by simp, by simp, by simp, k05⟩⟩ ?_
 rintro _ ⟨i, u⟩ w6 ⟨k, p, c, bks, pwo, hi, hk, hI⟩
 simp only at hi ⊢
 subst hi
 refine zN (fun hc => ?_) (fun hc => ?_)
 ·have hc : (k : Int) < g.d := by simpa using hc
  refine zQz (n := n) (by omega) (by omega) fun b4 r4 w7 hd7 k7 hb47 hr47 => ?_
  refine yM.2 (zO.2 (zA.2 ?_))
  have hm7 : MaAt w7 o pwo := k7.has hI.own (by simp)
  have hd7 : DiskAt w7 o b4 r4 (half 0 n) := hd7
  have ne_of : ∀ {x y : Nat} {cs cs' : Array Value} {t t' : TypeId} {W : World}, Has W x (.cells cs t (0, 0)) → Has W y (.cells cs' t' (0, 0)) → t ≠ t' → x ≠ y := fun h1 h2 ht => h1.ne h2 (by simp only [ne_eq, Obj.cells.injEq]; intro e; exact ht e.2.1)
  refine zQx hd7 hm7 hI.lit (by omega) fun w8 pw8 hd8 hm8 hl8 k8 => ?_
  have hlt6 : ∀ {x : Nat} {ob : Obj}, Has w6 x ob → x < w6.heap.size := fun h => h.lt
  have st : ∀ {x : Nat} {cs : Array Value} {t : TypeId}, Has w6 x (.cells cs t (0, 0)) → t ≠ 209 → Has w8 x (.cells cs t (0, 0)) := by
   intro x cs t hx ht
   refine k8.has (k7.has hx (by simp)) ?_
   rintro (e | e)
   ·exact ne_of hx (show Has w6 o _ from hI.own) ht e
   ·have := hlt6 hx; omega
  have k68 : Keep (fun k => k = o ∨ k = r4) w6 w8 := (k7.mono fun _ h => h.elim).trans k8
  have hrow8 : OwnL dLay w8 b 111 p k c (bks.map Prod.fst) := by
   have := hI.row
   rw [hbe] at this
   refine this.keep k68 fun x hx => ?_
   rcases Own.cases this with ⟨h0, _⟩ | ⟨b', cur, h0, _, hg', _⟩
   ·rw [h0] at hx; cases hx
   ·rw [h0] at hx; cases hx
    rintro (e | e)
    ·exact ne_of hg' (show Has w6 o _ from hI.own) (by decide) e
    ·have := hlt6 hg'; omega
  have hdsk8 : ∀ br ∈ bks, DiskAt w8 m br.1 br.2 (newD n) := fun br hbr => by
   have h6 := hI.dsk br hbr
   obtain ⟨cs, hcs⟩ := h6.wI
   refine h6.keep k68 ?_ ?_
   ·rintro (e | e)
    ·exact ne_of h6.cells (show Has w6 o _ from hI.own) (by decide) e
    ·have := hlt6 h6.cells; omega
   ·rintro (e | e)
    ·exact ne_of hcs (show Has w6 o _ from hI.own) (by decide) e
    ·have := hlt6 hcs; omega
  have hset8 := st hI.set (by decide)
  have hgeo8 := st hI.geo (by decide)
  obtain ⟨cs1, hcs1, hres⟩ := hI.res
  have hres8 := st hres (by decide)
  have hob : o ≠ b4 := ne_of (show Has w8 o _ from hm8) hd8.cells (by decide)
  have hz6 := k7.size
  intro dd
  refine ⟨fun w' => Has w' b2 (.cells (setV g p k c) 51 (0, 0)), hset8.dr dd, ?_⟩
  refine yO (v := .slice p k c) (fun w' hw => ⟨_, _, _, hw, rfl⟩) (zC.2 ?_)
  have kd := Keep.drew (fun _ => False) w8 dd
  refine d_On (hd8.keep kd (by simp) (by simp)) (m2 := m) fun w9 hd9 k9 => ?_
  have hx9 : ∀ {x : Nat} {cs : Array Value} {t : TypeId}, Has w8 x (.cells cs t (0, 0)) → t ≠ 220 → Has w9 x (.cells cs t (0, 0)) := fun hx ht => k9.has (hx.dr dd) (ne_of hx hd8.cells ht)
  have hset9 := hx9 hset8 (by decide)
  refine zO.2 ⟨hset9, ?_⟩
  refine ⟨_, _, zQ4 b4 w9, zC.2 ?_⟩
  have k10 := Keep.new (fun _ => False) w9 (.cells #[.pointer (some ⟨b4, 0, none⟩)] 111)
  have h10 := Has.new w9 (.cells #[.pointer (some ⟨b4, 0, none⟩)] 111)
  generalize w9.alloc (.cells #[.pointer (some ⟨b4, 0, none⟩)] 111) = w10 at *
  have hset10 := k10.has hset9 (by simp)
  refine ⟨hset10, ?_⟩
  have hrow9 : OwnL dLay w9 b 111 p k c (bks.map Prod.fst) := by
   refine (hrow8.keep kd (by simp)).keep k9 fun x hx => ?_
   rcases Own.cases hrow8 with ⟨h0, _⟩ | ⟨b', cur, h0, _, hg', _⟩
   ·rw [h0] at hx; cases hx
   ·rw [h0] at hx; cases hx
    exact ne_of hg' hd8.cells (by decide)
  have hw10 : b ≤ w10.heap.size := by
   have h1 := hI.keep.size
   have h2 := k68.size
   have h3 := k9.size
   have h4 := k10.size
   have h3' : w8.heap.size ≤ w9.heap.size := h3
   omega
  obtain ⟨p11, c11, w11, hr11, o11, k11, hp11⟩ := yK zR1 (hrow9.keep k10 (by simp)) (y := b4) h10 rfl (ty := 49) (by omega) (by simp only [maxLen]; omega) hw10 (c2 := 1)
  have hx11 : ∀ {x : Nat} {cs : Array Value} {t : TypeId}, Has w8 x (.cells cs t (0, 0)) → t ≠ 220 → t ≠ 111 → Has w11 x (.cells cs t (0, 0)) := fun {x cs t} hx h1 h2 => by
   have h10 := k10.has (hx9 hx h1) (by simp)
   refine k11.has h10 fun e => ?_
   rcases Own.cases (hrow9.keep k10 (by simp)) with ⟨h0, _⟩ | ⟨b', cur, h0, _, hg', _⟩
   ·rw [h0] at e; cases e
   ·rw [h0] at e; cases e
    exact ne_of h10 hg' h2 rfl
  have hset11 := hx11 hset8 (by decide) (by decide)
  refine ⟨_, _, hr11, zC.2 ⟨hset11, ?_⟩⟩
  refine xZ hset11 (by show 3 < 4; decide) rfl ?_
  have hset12 := hset11.zL (.cells (setV g p11 (k + 1) c11) 51 (0, 0))
  have ek : IntKind.wrap .i64 ((k : Int) + 1) = ((k + 1 : Nat) : Int) := by rw [zW (by omega) (by omega)]; omega
  refine ⟨_, by show (g.d - IntKind.wrap .i64 ((k : Int) + 1)).toNat < (g.d - (k : Int)).toNat; rw [ek]; omega, ⟨k + 1, p11, c11, bks ++ [(b4, r4)], pw8, ek, by omega, ?_⟩, rfl⟩
  have kset : ∀ {x : Nat} {cs : Array Value} {t : TypeId}, Has w11 x (.cells cs t (0, 0)) → x ≠ b2 → Has (w11.upd b2 (.cells (setV g p11 (k + 1) c11) 51 (0, 0))) x (.cells cs t (0, 0)) := fun hx hn => hx.upd hn
  have k12 := Keep.one w11 b2 (.cells (setV g p11 (k + 1) c11) 51 (0, 0))
  have rowk : ∀ {x : Nat} {cs : Array Value}, Has w11 x (.cells cs 111 (0, 0)) → x ≠ b2 := fun hx => ne_of hx hset11 (by decide)
  have dk11 : ∀ {x y : Nat} {D : Dsk} {mm : Nat}, DiskAt w9 mm x y D → DiskAt (w11.upd b2 (.cells (setV g p11 (k + 1) c11) 51 (0, 0))) mm x y D := fun {x y D mm} hD => by
   have h10 := hD.keep k10 (by simp) (by simp)
   have h11 : DiskAt w11 mm x y D := by
    obtain ⟨cs, hcs⟩ := h10.wI
    refine h10.keep k11 (fun e => ?_) (fun e => ?_)
    ·rcases Own.cases (hrow9.keep k10 (by simp)) with ⟨h0, _⟩ | ⟨b', cur, h0, _, hg', _⟩
     ·rw [h0] at e; cases e
     ·rw [h0] at e; cases e
      exact ne_of h10.cells hg' (by decide) rfl
    ·rcases Own.cases (hrow9.keep k10 (by simp)) with ⟨h0, _⟩ | ⟨b', cur, h0, _, hg', _⟩
     ·rw [h0] at e; cases e
     ·rw [h0] at e; cases e
      exact ne_of hcs hg' (by decide) rfl
   obtain ⟨cs, hcs⟩ := h11.wI
   exact h11.keep k12 (ne_of h11.cells hset11 (by decide)) (ne_of hcs hset11 (by decide))
  have nb : ∀ br ∈ bks, br.1 ≠ b4 ∧ br.2 ≠ r4 := fun br hbr => by
   have h6 := hI.dsk br hbr
   obtain ⟨cs, hcs⟩ := h6.wI
   have := hlt6 h6.cells
   have := hlt6 hcs
   omega
  have hw6 : w.heap.size ≤ w6.heap.size := hI.keep.size
  refine ⟨by simp [hI.len], ?_, hl8, ?_, ⟨cs1, hcs1, ?_⟩, hset12, ?_, ?_, ?_, ?_, ?_, ?_⟩
  ·exact (hx11 (show Has w8 o _ from hm8) (by decide) (by decide)).upd (ne_of (hx11 (show Has w8 o _ from hm8) (by decide) (by decide)) hset11 (by decide))
  ·exact (hx11 hgeo8 (by decide) (by decide)).upd (ne_of (hx11 hgeo8 (by decide) (by decide)) hset11 (by decide))
  ·refine (hx11 hres8 (by decide) (by decide)).upd ?_
   omega
  ·have e : (bks ++ [(b4, r4)]).map Prod.fst = bks.map Prod.fst ++ [b4] := by simp
   rw [e, hbe]
   refine o11.keep k12 fun x hx => ?_
   rcases Own.cases o11 with ⟨h0, _⟩ | ⟨b', cur, h0, _, hg', _⟩
   ·rw [h0] at hx; cases hx
   ·rw [h0] at hx; cases hx
    exact rowk hg'
  ·intro br hbr
   rcases List.mem_append.1 hbr with hbr | hbr
   ·have h8 := hdsk8 br hbr
    obtain ⟨cs, hcs⟩ := h8.wI
    exact dk11 ((h8.keep kd (by simp) (by simp)).keep k9 (nb br hbr).1 (ne_of hcs hd8.cells (by decide)))
   ·rw [List.mem_singleton.1 hbr]
    exact dk11 hd9
  ·intro br hbr
   rcases List.mem_append.1 hbr with hbr | hbr
   ·exact hI.low br hbr
   ·rw [List.mem_singleton.1 hbr]
    exact ⟨Nat.le_trans hw6 hb47, Nat.le_trans hw6 hr47⟩
  ·have e : (bks ++ [(b4, r4)]).map Prod.fst = bks.map Prod.fst ++ [b4] := by simp
   rw [e, List.nodup_append]
   refine ⟨hI.nodb, by simp, fun x hx y hy => ?_⟩
   obtain ⟨br, hbr, rfl⟩ := List.mem_map.1 hx
   rw [List.mem_singleton.1 hy]
   exact (nb br hbr).1
  ·have e : (bks ++ [(b4, r4)]).map Prod.snd = bks.map Prod.snd ++ [r4] := by simp
   rw [e, List.nodup_append]
   refine ⟨hI.nodr, by simp, fun x hx y hy => ?_⟩
   obtain ⟨br, hbr, rfl⟩ := List.mem_map.1 hx
   rw [List.mem_singleton.1 hy]
   exact (nb br hbr).2
  ·have a1 : Keep (fun _ => False) w w8 := hI.keep.trans' k68 fun x hx hh => by
    rcases hh with e | e
    ·rw [e, ho] at hx
     have := k04.size
     omega
    ·omega
   have a2 : Keep (fun _ => False) w w9 := (a1.dr dd).trans' k9 fun x hx e => by omega
   have a3 : Keep (fun _ => False) w w11 := (a2.trans k10).trans' k11 fun x hx e => by
    have := (hrow9.lt e).1
    rw [hbe] at hx
    omega
   exact a3.upd (by rw [hbe]; omega) _
 ·have hc : (k : Int) = g.d := by
   have : ¬ (k : Int) < g.d := by simpa using hc
   omega
  have ek : g.d.toNat = k := by omega
  rw [ek] at hK
  obtain ⟨cs1, hcs1, hres⟩ := hI.res
  refine zQ hI.set rfl ?_
  refine yB hres rfl hcs1 (NR g p k c) ?_
  refine zQ (hres.zL _) rfl ?_
  have kf := Keep.one w6 b1 (.cells (setV g p k c) 51 (0, 0))
  have ne_of : ∀ {x y : Nat} {cs cs' : Array Value} {t t' : TypeId} {W : World}, Has W x (.cells cs t (0, 0)) → Has W y (.cells cs' t' (0, 0)) → t ≠ t' → x ≠ y := fun h1 h2 ht => h1.ne h2 (by simp only [ne_eq, Obj.cells.injEq]; intro e; exact ht e.2.1)
  have hm6 : MaAt w6 m pw := hI.keep.has hm (by simp)
  refine zF.2 (hK p c bks _ ⟨?_, hg, ?_, ?_, ?_, hI.nodb, hI.nodr⟩ ?_ ?_ ?_)
  ·exact kf.has (show Has w6 m _ from hm6) (ne_of (show Has w6 m _ from hm6) hres (by decide))
  ·show bks.length = (List.replicate k (newD n)).length
   rw [hI.len, List.length_replicate]
  ·show ((List.replicate k (newD n)).length : Int) = g.d
   rw [List.length_replicate, hc]
  ·intro i br D hb' hD
   have hb' : bks[i]? = some br := hb'
   have hD : (List.replicate k (newD n))[i]? = some D := hD
   have hDe : D = newD n := by
    rw [List.getElem?_replicate] at hD
    split at hD
    ·exact (Option.some.inj hD).symm
    ·cases hD
   subst hDe
   have h6 := hI.dsk br (List.mem_of_getElem? hb')
   obtain ⟨cs, hcs⟩ := h6.wI
   refine ⟨h6.keep kf (ne_of h6.cells hres (by decide)) (ne_of hcs hres (by decide)), ?_⟩
   show ((nuls n).length : Int) = g.c * g.s
   rw [X1, hn]
  ·have := hI.row
   rw [hbe] at this
   refine this.keep kf fun x hx => ?_
   rcases Own.cases this with ⟨h0, _⟩ | ⟨b', cur, h0, _, hg', _⟩
   ·rw [h0] at hx; cases hx
   ·rw [h0] at hx; cases hx
    exact ne_of hg' hres (by decide)
  ·intro br hbr
   have := hI.low br hbr
   rw [hbe] at this
   exact this
  ·exact hI.keep.upd (by rw [hbe]; omega) _
end calls
def OK (c : Cel) : Prop := yD c.data ∧ 0 ≤ c.sum ∧ c.sum ≤ 4294967295
theorem zJv {a b : Cel} (h : celV a = celV b) : a = b := by
 have h : celL a = celL b := by simpa [celV] using h
 have h1 := List.append_inj h rfl
 have h2 := NO (Array.ext' h1.1)
 have h3 : a.sum = b.sum := by simpa using h1.2
 cases a; cases b; simp_all
theorem Fits.app : ∀ {ks ls : List CK} {vs us : List Value}, Fits ks vs → Fits ls us → Fits (ks ++ ls) (vs ++ us)
 | [], _, [], _, _, h => h
 | _ :: _, _, _ :: _, _, h1, h2 => ⟨h1.1, Fits.app h1.2 h2⟩
 | [], _, _ :: _, _, h1, _ => h1.elim
 | _ :: _, _, [], _, h1, _ => h1.elim
theorem KU {c : Cel} (h : OK c) : Fits (List.replicate 16 (.int .u8) ++ [.int .u32]) (celV c).toList := by
 have : (celV c).toList = (secV c.data).toList ++ [.int .u32 c.sum] := by simp [celV, celL]
 rw [this]
 exact Fits.app (gO h.1) ⟨⟨_, rfl, h.2.1, h.2.2⟩, trivial⟩
theorem zO3 {x y : Operand} {a b : Cel} {C : World → Prop} {K : Bool → Prop} (ha : OK a) (hb : OK b) (hK : ∀ r : Bool, (r = true ↔ a = b) → K r) :
  EqB Tryz.prog .eql 86 x y (.agg (celV a)) (.agg (celV b)) C K :=
 zCo (ks := List.replicate 16 (.int .u8) ++ [.int .u32]) (by kernel_rfl) (by kernel_rfl) (by kernel_rfl) (by kernel_rfl) (by kernel_rfl) (KU ha) (KU hb)
  fun r hr => hK r (hr.trans ⟨zJv, fun e => by rw [e]⟩)
theorem zNd (l : List Int) : 0 ≤ crcS l ∧ crcS l ≤ 4294967295 := by
 unfold crcS
 generalize zGh (xL .xor .u32 allS 0) l = x
 generalize allS = y
 have h := (BitVec.ofInt 32 y ^^^ BitVec.ofInt 32 x).isLt
 have e : xL .xor .u32 y x = ((BitVec.ofInt 32 y ^^^ BitVec.ofInt 32 x).toNat : Int) := by
  show IntKind.wrap .u32 ((BitVec.ofInt 32 y ^^^ BitVec.ofInt 32 x).toNat : Int) = _
  exact TE (by omega) (by omega)
 rw [e]
 omega
theorem QW (at_ : Int) (d : Sec) : 0 ≤ sumS at_ d ∧ sumS at_ d ≤ 4294967295 := zNd _
theorem zGn (c : Cel) : (celV c).extract 0 (0 + 16) = secV c.data := by
 apply Array.ext'
 unfold celV celL
 simp only [Array.toList_extract, List.extract_eq_take_drop, List.drop_zero]
 exact List.take_left' rfl
theorem zJq (c : Cel) : (celV c).extract 0 17 = celV c := by
 apply Array.ext'
 unfold celV celL
 simp only [Array.toList_extract, List.extract_eq_take_drop, List.drop_zero]
 exact List.take_of_length_le (Nat.le_refl 17)
theorem zEr (k : IntKind) (a b : Int) (t : TypeId) (ts : Array TypeId) (w : World) : (Builtin.max_ ts t #[.int k a, .int k b]).run Tryz.prog w = .ok (.int k (max a b)) w := by
 simp only [Builtin.max_, List.foldlM, Builtin.max2, Sem.run_bind, Sem.run_pure, if_true]
 by_cases h : a < b
 ·simp [h, Sem.run_pure, Int.max_eq_right (Int.le_of_lt h)]
 ·simp [h, Sem.run_pure, Int.max_eq_left (Int.not_lt.1 h)]
section good
variable {w : World} {R : Value → World → Prop}
theorem zOq {at_ : Int} {c : Cel} (hc : OK c) (hK : ∀ w', Keep (fun _ => False) w w' → R (.bool (decide (c.sum = sumS at_ c.data))) w') : zB Tryz.prog 176 #[.int .i64 at_, .agg (celV c)] w R := by
 apply zDy
 unfold NB
 refine zK fun w1 hb k1 z1 => ?_
 intro d
 refine ⟨fun w' => Has w' w.heap.size (.cells (celV c) 86 (0, 0)), hb.dr d, ?_⟩
 refine xO (cs := secV c.data) (hb.dr d) (by show 0 + 16 ≤ 17; decide) (zGn c) ?_
 refine jR (cs := celV c) rfl (fun w' hw => ⟨_, _, _, hw, by show 0 + 17 ≤ 17; decide, zJq c⟩) ?_
 refine zB9 fun w2 k2 => zJ.2 ⟨rfl, ?_⟩
 refine ⟨k2.has (hb.dr d) (by simp), ?_⟩
 refine zO3 ⟨hc.1, QW _ _⟩ hc fun r hr => zF.2 ?_
 have e : r = decide (c.sum = sumS at_ c.data) := by
  have : (Cel.mk c.data (sumS at_ c.data) = c) ↔ (c.sum = sumS at_ c.data) := by
   cases c
   simp [eq_comm]
  rw [this] at hr
  cases r with
  | true => rw [decide_eq_true (hr.1 rfl)]
  | false => rw [decide_eq_false (fun h => by have := hr.2 h; cases this)]
 rw [e]
 exact hK w2 ((k1.dr d).trans k2)
end good
section disk
variable {w : World} {m b r : Nat} {D : Dsk} {R : Value → World → Prop}
theorem zR0 (h : DiskAt w m b r D) (hK : R (.int .u32 D.key) w) : zB Tryz.prog 125 #[.pointer (some ⟨b, 0, none⟩)] w R := by
 apply HE
 unfold gY
 exact zG (v := .int .u32 D.key) h.cells rfl (zA.2 (zF.2 hK))
theorem GS (h : DiskAt w m b r D) (hK : R (.bool (!D.dead)) w) : zB Tryz.prog 87 #[.pointer (some ⟨b, 0, none⟩)] w R := by
 apply VX
 unfold qU
 exact zG (v := .bool D.dead) h.cells rfl (zM.2 (zF.2 hK))
theorem DiskAt.cel (h : DiskAt w m b r D) {D' : Dsk} (hs : D'.secs = D.secs) : DiskAt (w.upd b (.cells (zA6 m r D') 220 (0, 0))) m b r D' := by
 refine ⟨h.cells.zL _, ?_⟩
 rw [hs]
 exact h.row.keep (Keep.one w b _) fun k hk e => by
  subst e
  injection hk with hk
  injection hk with hk
  exact h.ne hk.symm
theorem zPv (h : DiskAt w m b r D) (hK : ∀ w', DiskAt w' m b r { D with dead := true } → Keep (fun k => k = b) w w' → R (.tuple #[]) w') : zB Tryz.prog 58 #[.pointer (some ⟨b, 0, none⟩)] w R := by
 apply U7
 unfold wU
 refine xZ h.cells (by show 3 < 4; decide) rfl ?_
 exact zF.2 (hK _ (h.cel (D' := { D with dead := true }) rfl) (Keep.one _ _ _))
def xE (pw : Pow) (D : Dsk) (ep : Int) : Int × Dsk :=
 if pw.on = false then (4, D) else if D.dead = true then (5, D) else (0, { D with key := max D.key ep })
theorem zNc {pw : Pow} (h : DiskAt w m b r D) (hm : MaAt w m pw) {ep : Int} (hk : 0 ≤ D.key ∧ D.key ≤ 4294967295) (hep : 0 ≤ ep ∧ ep ≤ 4294967295) (hK : ∀ w', DiskAt w' m b r (xE pw D ep).2 → Keep (fun k => k = b) w w' → R (.int .i64 (xE pw D ep).1) w') :
  zB Tryz.prog 123 #[.pointer (some ⟨b, 0, none⟩), .int .u32 ep] w R := by
 apply VW
 unfold qT
 unfold xE at hK
 refine zG (v := .pointer (some ⟨m, 0, none⟩)) h.cells rfl (zO.2 ?_)
 refine GB hm (zM.2 ?_)
 refine zN (fun hc => ?_) (fun hc => ?_)
 ·have hc : pw.on = false := by simpa using hc
  rw [if_pos hc] at hK
  exact zF.2 (hK w h (Keep.refl _ _))
 have hon : pw.on = true := by simpa using hc
 rw [if_neg (by simp [hon])] at hK
 refine zG (v := .bool D.dead) h.cells rfl (zM.2 ?_)
 refine zN (fun hd => ?_) (fun hd => ?_)
 ·rw [if_pos hd] at hK
  exact zF.2 (hK w h (Keep.refl _ _))
 have hd : D.dead = false := hd
 rw [if_neg (by simp [hd])] at hK
 refine zG (v := .int .u32 D.key) h.cells rfl (zA.2 ?_)
 refine zV (v := .int .u32 (max D.key ep)) (fun d => ?_) (zA.2 ?_)
 ·exact zEr _ _ _ _ _ _
 refine xZ h.cells (by show 2 < 4; decide) rfl ?_
 exact zF.2 (hK _ (h.cel (D' := { D with key := max D.key ep }) rfl) (Keep.one _ _ _))
end disk
def wF (D : Dsk) (at_ : Int) : Option Sec :=
 if D.dead = true then none else if (D.secs.getD at_.toNat sct0).good = false then none
 else if (D.secs.getD at_.toNat sct0).cel.sum = sumS at_ (D.secs.getD at_.toNat sct0).cel.data then some (D.secs.getD at_.toNat sct0).cel.data else none
def zH3 (pw : Pow) (C : Option Sec) : Value :=
 if pw.on = false then .tuple #[.agg (secV (sec [])), .bool false, .int .i64 4]
 else .tuple #[.agg (secV (C.getD (sec []))), .bool C.isSome, .int .i64 0]
def CelT (b1 b2 b5 : Nat) (n2 : Int) (w : World) (R : Value → World → Prop) : Prop :=
 Cb (n2 == 4) (DoQ Tryz.prog (Instr.build 37 #[]) (At w) fun v7 => OpA 16 v7 fun cs1 => StA 16 b2 0 cs1 w fun w => LdA 16 b2 0 (At w) fun cs2 => Ret [] (R (.tuple #[.agg cs2, .bool false, .int .i64 n2]) w))
 (Cb (n2 != 0) (DoQ Tryz.prog (Instr.build 37 #[]) (At w) fun v8 => OpA 16 v8 fun cs3 => StA 16 b2 0 cs3 w fun w => LdA 16 b2 0 (At w) fun cs4 => Ret [] (R (.tuple #[.agg cs4, .bool false, .int .i64 0]) w))
 (LdV b1 1 (At w) fun v9 => OpI .i64 v9 fun n3 => LdA 17 b5 0 (At w) fun cs5 => zB Tryz.prog 176 #[.int .i64 n3, .agg cs5] w fun v10 w => OpB v10 fun g => Cb (!g) (DoQ Tryz.prog (Instr.build 37 #[]) (At w) fun v11 => OpA 16 v11 fun cs6 => StA 16 b2 0 cs6 w fun w => LdA 16 b2 0 (At w) fun cs7 => Ret [] (R (.tuple #[.agg cs7, .bool false, .int .i64 0]) w))
 (LdA 16 b5 0 (At w) fun cs8 => StA 16 b2 0 cs8 w fun w => LdA 16 b2 0 (At w) fun cs9 => Ret [] (R (.tuple #[.agg cs9, .bool true, .int .i64 0]) w))))
theorem celT {w : World} {b1 b2 b5 : Nat} {x : Plc} {c : Cel} {n : Int} {R : Value → World → Prop} {S : Nat → Prop} {w0 : World} (k0 : Keep S w0 w) (hS : S b2) (h1 : Has w b1 (.cells (plcV x) 84 (0, 0))) (h2 : Has w b2 (.cells (secV (sec [])) 37 (0, 0))) (h5 : Has w b5 (.cells (celV c) 86 (0, 0))) (hc : OK c)
  (hK : ∀ w', Keep S w0 w' → R (if n = 4 then .tuple #[.agg (secV (sec [])), .bool false, .int .i64 4] else if n ≠ 0 then .tuple #[.agg (secV (sec [])), .bool false, .int .i64 0] else if c.sum = sumS x.at_ c.data then .tuple #[.agg (secV c.data), .bool true, .int .i64 0] else .tuple #[.agg (secV (sec [])), .bool false, .int .i64 0]) w') : CelT b1 b2 b5 n w R := by
 unfold CelT
 have fin : ∀ (f : Sec) (g : Bool) (e : Int) (w1 : World), Has w1 b2 (.cells (secV (sec [])) 37 (0, 0)) → Keep S w0 w1 → (∀ w', Keep S w0 w' → R (.tuple #[.agg (secV f), .bool g, .int .i64 e]) w') → StA 16 b2 0 (secV f) w1 fun w => LdA 16 b2 0 (At w) fun cs2 => Ret [] (R (.tuple #[.agg cs2, .bool g, .int .i64 e]) w) := by
  intro f g e w1 hb k hr
  refine yB hb rfl rfl (yS f) ?_
  refine zQ (hb.zL _) rfl ?_
  exact zF.2 (hr _ (k.upd (fun _ => hS) _))
 have bad : ∀ (e : Int) (w1 : World), Has w1 b2 (.cells (secV (sec [])) 37 (0, 0)) → Keep S w0 w1 → (∀ w', Keep S w0 w' → R (.tuple #[.agg (secV (sec [])), .bool false, .int .i64 e]) w') → DoQ Tryz.prog (Instr.build 37 #[]) (At w1) fun v7 => OpA 16 v7 fun cs1 => StA 16 b2 0 cs1 w1 fun w => LdA 16 b2 0 (At w) fun cs2 => Ret [] (R (.tuple #[.agg cs2, .bool false, .int .i64 e]) w) := by
  intro e w1 hb k hr
  exact zV (fun d => QJ _) (zJ.2 ⟨rfl, fin _ _ _ _ hb k hr⟩)
 refine zN (fun h => ?_) (fun h => ?_)
 ·have h : n = 4 := by simpa using h
  rw [h]
  exact bad 4 w h2 k0 fun w' k => by have := hK w' k; rwa [if_pos h] at this
 have h4 : n ≠ 4 := by simpa using h
 refine zN (fun h => ?_) (fun h => ?_)
 ·have h : n ≠ 0 := by simpa using h
  exact bad 0 w h2 k0 fun w' k => by have := hK w' k; rwa [if_neg h4, if_pos h] at this
 have h0 : n = 0 := by simpa using h
 refine zG (v := .int .i64 x.at_) h1 rfl (zA.2 ?_)
 refine zQ h5 rfl ?_
 refine zOq hc fun w1 k1 => zM.2 ?_
 have k01 := k0.trans (k1.mono fun _ h => h.elim)
 have h21 := k1.has h2 (by simp)
 refine zN (fun h => ?_) (fun h => ?_)
 ·have h : ¬ c.sum = sumS x.at_ c.data := by simpa using h
  exact bad 0 w1 h21 k01 fun w' k => by have := hK w' k; rwa [if_neg h4, if_neg (by simp [h0]), if_neg h] at this
 ·have h : c.sum = sumS x.at_ c.data := by simpa using h
  refine xO (cs := secV c.data) (k1.has h5 (by simp)) (by show 0 + 16 ≤ 17; decide) (zGn c) ?_
  exact fin _ _ _ w1 h21 k01 fun w' k => by have := hK w' k; rwa [if_neg h4, if_neg (by simp [h0]), if_pos h] at this
theorem zIc : yD (sec []) := H6 (by simp)
def jN (D : Dsk) : Prop := (∀ x ∈ D.secs, OK x.cel) ∧ 0 ≤ D.key ∧ D.key ≤ 4294967295
theorem Q0 : OK sct0.cel := ⟨zIc, by decide, by decide⟩
theorem jN.get {D : Dsk} (h : jN D) (i : Nat) : OK (D.secs.getD i sct0).cel := by
 rw [List.getD_eq_getElem?_getD]
 cases hx : D.secs[i]? with
 | none => exact Q0
 | some x => exact h.1 x (List.mem_of_getElem? hx)
theorem zCz {pw : Pow} {D : Dsk} {at_ : Int} (hin : 0 ≤ at_ ∧ at_ < (D.secs.length : Int)) : (if (uC pw D at_).2 = 4 then Value.tuple #[.agg (secV (sec [])), .bool false, .int .i64 4] else if (uC pw D at_).2 ≠ 0 then .tuple #[.agg (secV (sec [])), .bool false, .int .i64 0] else if (uC pw D at_).1.sum = sumS at_ (uC pw D at_).1.data then .tuple #[.agg (secV (uC pw D at_).1.data), .bool true, .int .i64 0] else .tuple #[.agg (secV (sec [])), .bool false, .int .i64 0]) = zH3 pw (wF D at_) := by
 have hn : ¬ ¬ (0 ≤ at_ ∧ at_ < (D.secs.length : Int)) := by simpa using hin
 unfold zH3 wF
 by_cases hp : pw.on = false
 ·have hr : uC pw D at_ = (cel0, 4) := by unfold uC; rw [if_neg hn, if_pos hp]
  rw [hr, if_pos hp, if_pos rfl]
 ·rw [if_neg hp]
  by_cases hd : D.dead = true
  ·have hr : uC pw D at_ = (cel0, 5) := by unfold uC; rw [if_neg hn, if_neg hp, if_pos hd]
   rw [hr, if_pos hd, if_neg (by decide), if_pos (by decide)]
   rfl
  ·rw [if_neg hd]
   by_cases hg : (D.secs.getD at_.toNat sct0).good = false
   ·have hr : uC pw D at_ = (cel0, 7) := by unfold uC; rw [if_neg hn, if_neg hp, if_neg hd, if_pos hg]
    rw [hr, if_pos hg, if_neg (by decide), if_pos (by decide)]
    rfl
   ·have hr : uC pw D at_ = ((D.secs.getD at_.toNat sct0).cel, 0) := by unfold uC; rw [if_neg hn, if_neg hp, if_neg hd, if_neg hg]
    rw [hr, if_neg hg, if_neg (show ¬ (0 : Int) = 4 by decide), if_neg (show ¬ (0 : Int) ≠ 0 by decide)]
    by_cases hs : (D.secs.getD at_.toNat sct0).cel.sum = sumS at_ (D.secs.getD at_.toNat sct0).cel.data
    ·rw [if_pos hs, if_pos hs]; rfl
    ·rw [if_neg hs, if_neg hs]; rfl
theorem zIi {pw : Pow} {D : Dsk} {at_ : Int} (h : jN D) : OK (uC pw D at_).1 := by
 unfold uC
 split
 ·exact Q0
 ·split
  ·exact Q0
  ·split
   ·exact Q0
   ·split
    ·exact Q0
    ·exact h.get _
section calls
variable {w : World} {q : SB} {s : SS} {R : Value → World → Prop}
theorem zEf (h : SetAt w q s) {p : Option Addr} {l c : Nat} (hsl : SlL dLay w p l (q.bks.map Prod.fst)) {x : Plc} (hxd : 0 ≤ x.dk ∧ x.dk < q.g.d) (hxa : 0 ≤ x.at_ ∧ x.at_ < q.g.c * q.g.s) (hok : ∀ D ∈ s.ds, jN D)
  (hK : ∀ w', Keep (fun _ => False) w w' → R (zH3 s.pw (wF (s.ds.getD x.dk.toNat dsk0) x.at_)) w') : zB Tryz.prog 106 #[.agg (setV q.g p l c), .agg (plcV x)] w R := by
 apply OL
 unfold WK
 refine zK fun w1 hb1 k1 z1 => ?_
 refine zK fun w2 hb2 k2 z2 => ?_
 refine zK fun w3 hb3 k3 z3 => ?_
 rw [vQ] at hb3
 have hs3 := (k2.trans k3).has hb1 (by simp)
 have hp3 := k3.has hb2 (by simp)
 have k03 := (k1.trans k2).trans k3
 have hz : w.heap.size ≤ w2.heap.size := by omega
 have hz1 : w.heap.size < w2.heap.size := by omega
 have hz2 : w1.heap.size < w2.heap.size := by omega
 generalize hB2 : w2.heap.size = b2 at *
 generalize w1.heap.size = b1 at *
 generalize hB : w.heap.size = b at *
 intro d
 have kd := Keep.drew (fun _ => False) w3 d
 have h4 := h.zX (k03.trans kd)
 have hsl4 := hsl.yA (k03.trans kd) (by simp)
 have hs4 := hs3.dr d
 have hp4 := hp3.dr d
 have hc4 := hb3.dr d
 have k04 := k03.trans kd
 generalize w3.dr d = w4 at *
 obtain ⟨S, hS⟩ : ∃ S : World → Prop, S = fun w' => Has w' b (.cells (setV q.g p l c) 51 (0, 0)) ∧ Has w' b1 (.cells (plcV x) 84 (0, 0)) ∧ SlL dLay w' p l (q.bks.map Prod.fst) := ⟨_, rfl⟩
 have hSw : ∀ w', Keep (fun k => k = b2) w4 w' → S w' := fun w' k => by
  rw [hS]
  exact ⟨k.has hs4 (by omega), k.has hp4 (by omega), hsl.yA ((k04.mono fun _ h => h.elim).trans k) fun i hi e => by rw [hB] at hi; omega⟩
 have hS1 : ∀ w', S w' → Has w' b (.cells (setV q.g p l c) 51 (0, 0)) := fun w' hw => by rw [hS] at hw; exact hw.1
 have hS2 : ∀ w', S w' → Has w' b1 (.cells (plcV x) 84 (0, 0)) := fun w' hw => by rw [hS] at hw; exact hw.2.1
 have hS3 : ∀ w', S w' → SlL dLay w' p l (q.bks.map Prod.fst) := fun w' hw => by rw [hS] at hw; exact hw.2.2
 have hS0 : S w4 := hSw w4 (Keep.refl _ _)
 refine ⟨S, hS0, ?_⟩
 refine yO (v := .slice p l c) (fun w' hw => ⟨_, _, _, hS1 w' hw, rfl⟩) (zC.2 ?_)
 refine yO (v := .int .i64 x.dk) (fun w' hw => ⟨_, _, _, hS2 w' hw, rfl⟩) (zA.2 ?_)
 obtain ⟨bd, r, D, hbk, hD, hda, hdl⟩ := h4.get (i := x.dk.toNat) (by have := h4.num; omega)
 have hDg : s.ds.getD x.dk.toNat dsk0 = D := by rw [List.getD_eq_getElem?_getD, hD]; rfl
 have hDok : jN D := hok D (List.mem_of_getElem? hD)
 rw [hDg] at hK
 refine SlL.ldSd (S := S) (w0 := w4) hS0 hS3 (i := x.dk) (x := bd) (n := 1) (v := .pointer (some ⟨bd, 0, none⟩)) rfl hxd.1 (by rw [List.getElem?_map, hbk]; rfl) rfl ?_
 refine zO.2 ?_
 refine yO (v := .int .i64 x.at_) (fun w' hw => ⟨_, _, _, hS2 w' hw, rfl⟩) (zA.2 ?_)
 have hxl : 0 ≤ x.at_ ∧ x.at_ < (D.secs.length : Int) := by rw [hdl]; exact hxa
 have hrc := zCz (pw := s.pw) (D := D) (at_ := x.at_) hxl
 have hro := zIi (pw := s.pw) (D := D) (at_ := x.at_) hDok
 have hz4 : b2 < w4.heap.size := hc4.lt
 have hfin : ∀ w', Keep (fun k => k = b2) w4 w' → Keep (fun _ => False) w w' := fun w' k => k04.trans' k fun i hi e => by rw [hB] at hi; omega
 have tail : ∀ (w5 : World) (b5 : Nat), Keep (fun _ => False) w4 w5 → b5 ≠ b2 → b5 ≠ b → b5 ≠ b1 → w4.heap.size ≤ b5 → Has w5 b5 (.cells (celV (uC s.pw D x.at_).1) 86 (0, 0)) → CelT b1 b2 b5 (uC s.pw D x.at_).2 w5 R := by
  intro w5 b5 k5 _ _ _ _ hc5
  refine celT (S := fun k => k = b2) (w0 := w4) (k5.mono fun _ h => h.elim) rfl (k5.has hp4 (by simp)) (k5.has hc4 (by simp)) hc5 hro fun w' k' => ?_
  rw [hrc]
  exact hK w' (hfin w' k')
 have keepF : ∀ {w5 : World}, Keep (fun _ => False) w4 w5 → S w5 := fun k => hSw _ (k.mono fun _ h => h.elim)
 refine ⟨?_, ?_⟩
 ·refine zL8 hda h4.main fun w5 k5 => ?_
  refine yM.2 (zJ.2 ⟨rfl, zA.2 ⟨keepF k5, ?_⟩⟩)
  refine zK fun w6 hb6 k6 z6 => ?_
  refine ⟨keepF (k5.trans k6), ?_⟩
  rw [zAv] at hb6
  have hz5 := k5.size
  have hz6 : w4.heap.size ≤ w5.heap.size := hz5
  refine yB hb6 rfl rfl (ZJ _) ?_
  have k47 : Keep (fun _ => False) w4 (w6.upd w5.heap.size (.cells (celV (uC s.pw D x.at_).1) 86 (0, 0))) := (Keep.refl (fun _ => False) w4).trans' (((k5.trans k6).mono fun _ h => h.elim).upd (S := fun k => k = w5.heap.size) (fun _ => rfl) _) fun i hi e => by omega
  refine ⟨keepF k47, ?_⟩
  exact tail _ w5.heap.size k47 (by omega) (by have := hs4.lt; omega) (by have := hp4.lt; omega) hz6 (hb6.zL _)
 ·refine zK fun w6 hb6 k6 z6 => ?_
  refine ⟨keepF k6, ?_⟩
  rw [zAv] at hb6
  refine zL8 (hda.keep k6 (by simp) (by simp)) (h4.zX k6).main fun w5 k5 => ?_
  have hb5 := k5.has hb6 (by simp)
  refine yM.2 (zJ.2 ⟨rfl, zA.2 ⟨keepF (k6.trans k5), ?_⟩⟩)
  refine yB hb5 rfl rfl (ZJ _) ?_
  have k47 : Keep (fun _ => False) w4 (w5.upd w4.heap.size (.cells (celV (uC s.pw D x.at_).1) 86 (0, 0))) := (Keep.refl (fun _ => False) w4).trans' (((k6.trans k5).mono fun _ h => h.elim).upd (S := fun k => k = w4.heap.size) (fun _ => rfl) _) fun i hi e => by omega
  refine ⟨keepF k47, ?_⟩
  exact tail _ w4.heap.size k47 (by omega) (by have := hs4.lt; omega) (by have := hp4.lt; omega) (Nat.le_refl _) (hb5.zL _)
end calls
def hLay : Lay (Option Addr × Nat × Nat) := ⟨1, fun h => [.slice h.1 h.2.1 h.2.2], fun _ => rfl, fun y v hv => by rw [List.mem_singleton.1 hv]; rfl, by decide⟩
theorem zJf : LayT Tryz.prog hLay 187 22 24 := ⟨by kernel_rfl, ⟨(Tryz.prog.info? 22).get (by kernel_rfl), ((Tryz.prog.info? 22).get (by kernel_rfl)).zero.get (by kernel_rfl), by kernel_rfl, by kernel_rfl, by kernel_rfl, by kernel_rfl, by kernel_rfl⟩⟩
theorem zLe (p : Option Addr) (l c : Nat) (w : World) : (Instr.buildSlice 187 1 #[(0, .slice p l c)]).run Tryz.prog w = .ok (.slice (some ⟨w.heap.size, 0, none⟩) 1 1) (w.alloc (.cells #[.slice p l c] 22)) :=
 run_buildSlice w 187 22 1 _ #[.slice p l c] ((Tryz.prog.info? 22).get (by kernel_rfl)) (((Tryz.prog.info? 22).get (by kernel_rfl)).zero.get (by kernel_rfl)) (by kernel_rfl) (by kernel_rfl) (by kernel_rfl) (by decide +kernel) (by decide +kernel) (by kernel_rfl)
theorem zLd (p1 p2 : Option Addr) (l1 c1 l2 c2 : Nat) (w : World) : (Instr.buildSlice 187 2 #[(0, .slice p1 l1 c1), (1, .slice p2 l2 c2)]).run Tryz.prog w = .ok (.slice (some ⟨w.heap.size, 0, none⟩) 2 2) (w.alloc (.cells #[.slice p1 l1 c1, .slice p2 l2 c2] 22)) :=
 run_buildSlice w 187 22 2 _ #[.slice p1 l1 c1, .slice p2 l2 c2] ((Tryz.prog.info? 22).get (by kernel_rfl)) (((Tryz.prog.info? 22).get (by kernel_rfl)).zero.get (by kernel_rfl)) (by kernel_rfl) (by kernel_rfl) (by kernel_rfl) (by decide +kernel) (by decide +kernel) (by kernel_rfl)
theorem zNj (p1 p2 : Option Addr) (l1 c1 l2 c2 : Nat) (w : World) : (Instr.buildSlice 361 2 #[(0, .slice p1 l1 c1), (1, .slice p2 l2 c2)]).run Tryz.prog w = .ok (.slice (some ⟨w.heap.size, 0, none⟩) 2 2) (w.alloc (.cells #[.slice p1 l1 c1, .slice p2 l2 c2] 187)) :=
 run_buildSlice w 361 187 2 _ #[.slice p1 l1 c1, .slice p2 l2 c2] ((Tryz.prog.info? 187).get (by kernel_rfl)) (((Tryz.prog.info? 187).get (by kernel_rfl)).zero.get (by kernel_rfl)) (by kernel_rfl) (by kernel_rfl) (by kernel_rfl) (by decide +kernel) (by decide +kernel) (by kernel_rfl)
section calls
variable {w : World} {R : Value → World → Prop}
theorem zQw {n : Int} (h0 : 0 ≤ n) (h1 : n ≤ 1000000) (hK : ∀ p c w', OwnL hLay w' w.heap.size 22 p 0 c [] → Keep (fun _ => False) w w' → R (.slice p 0 c) w') :
  zB Tryz.prog 268 #[.slice none 0 0, .int .i64 n] w R := by
 apply WZ
 unfold jS
 rw [show decide (n < 0) = false by simp; omega, zH]
 have ew : IntKind.wrap .i64 (n - IntKind.wrap .i64 (((0 : Nat) : Int) - ((0 : Nat) : Int))) = n := by
  rw [show IntKind.wrap .i64 (((0 : Nat) : Int) - ((0 : Nat) : Int)) = 0 from rfl, Int.sub_zero]
  exact zW (by omega) (by omega)
 rw [ew]
 refine zN (fun hn => ?_) (fun hn => ?_)
 ·have hn' : 0 < n := by simpa using hn
  refine ⟨by decide, by decide, by decide, by decide, ?_⟩
  have hnn : n = ((n.toNat : Nat) : Int) := by omega
  have hr := Lib.run_append_nil_zeros (P := Tryz.prog) w 187 3 187 22 ((Tryz.prog.info? 22).get (by kernel_rfl)) ((((Tryz.prog.info? 22).get (by kernel_rfl)).zero).get (by kernel_rfl)) .i64 .i64 (by kernel_rfl) (by kernel_rfl) (by kernel_rfl) (by kernel_rfl)
   n.toNat (by omega) (by decide +kernel) (by omega) (by rw [show ((Tryz.prog.info? 22).get (by kernel_rfl)).bytes = 24 by kernel_rfl]; omega)
  rw [← hnn] at hr
  refine ⟨_, _, hr, zC.2 ?_⟩
  have hge := grownCap_ge w n.toNat 0 22
  have hcm : grownCap w n.toNat 0 22 ≤ maxLen := grownCap_le_maxLen w n.toNat 0 22 (by simp [maxLen]; omega)
  generalize grownCap w n.toNat 0 22 = cp at *
  refine ⟨by simp, by simp, by simp, by simp, ?_⟩
  simp only [zF, Option.getD_none, Option.getD_some, Int.toNat_zero, Int.toNat_natCast, Nat.sub_zero]
  have hs : slcP 1 0 cp (some ⟨w.heap.size, 0, none⟩) = some ⟨w.heap.size, 0, none⟩ := by
   unfold slcP
   split
   ·rfl
   ·simp [Addr.add]
  refine (congrArg (fun q => R (Value.slice q 0 cp) _) hs).mpr ?_
  refine hK _ _ _ (Own.mk (Nat.le_refl _) (Has.new _ _) (by omega) hcm ?_ (by simp [Lay.rows])) ?_
  ·rw [Array.size_append, size_zeroCells, size_zeroCells, show ((((Tryz.prog.info? 22).get (by kernel_rfl)).zero).get (by kernel_rfl)).cells.size = 1 by kernel_rfl, ← Nat.add_mul]
   show _ = cp * 1
   congr 1; omega
  ·exact (Keep.refl (fun _ => False) w).trans ⟨rfl, rfl, rfl, by simp, fun k hk _ => by show (w.heap.push _)[k]? = _; rw [Array.getElem?_push, if_neg (by omega)]⟩
 ·simp only [zF]
  exact hK none 0 w OwnL.nil (Keep.refl _ _)
theorem zNf {b : Nat} {p1 p2 : Option Addr} {l1 c1 l2 c2 : Nat} {hs1 hs2 : List (Option Addr × Nat × Nat)} (hb : Has w b (.cells #[.slice p1 l1 c1, .slice p2 l2 c2] 187 (0, 0))) (h1 : SlL hLay w p1 l1 hs1) (h2 : SlL hLay w p2 l2 hs2) (hl1 : l1 ≤ 1000) (hl2 : l2 ≤ 1000)
  (hK : ∀ p c w', OwnL hLay w' w.heap.size 22 p (hs1 ++ hs2).length c (hs1 ++ hs2) → Keep (fun _ => False) w w' → R (.slice p (hs1 ++ hs2).length c) w') :
  zB Tryz.prog 237 #[.slice (some ⟨b, 0, none⟩) 2 2] w R := by
 apply Z1
 unfold kG
 have e1 := h1.1
 have e2 := h2.1
 have ob : OwnL hLay w 0 187 (some ⟨b, 0, none⟩) 2 2 [(p1, l1, c1), (p2, l2, c2)] := OwnL.mk (xs := [(p1, l1, c1), (p2, l2, c2)]) (Nat.zero_le _) hb (by simp [maxLen]) rfl
 obtain ⟨qs, hqs⟩ : ∃ qs : List ((Option Addr × Nat × Nat) × List (Option Addr × Nat × Nat)), qs = [((p1, l1, c1), hs1), ((p2, l2, c2), hs2)] := ⟨_, rfl⟩
 have hq : ∀ (i : Nat) (x : (Option Addr × Nat × Nat) × List (Option Addr × Nat × Nat)), qs[i]? = some x → SlL hLay w x.1.1 x.1.2.1 x.2 ∧ [(p1, l1, c1), (p2, l2, c2)][i]? = some x.1 ∧ x.1.2.1 ≤ 1000 := by
  intro i x hx
  rw [hqs] at hx
  match i, hx with
  | 0, hx => cases hx; exact ⟨h1, rfl, hl1⟩
  | 1, hx => cases hx; exact ⟨h2, rfl, hl2⟩
  | i + 2, hx => simp at hx
 have hql : qs.length = 2 := by rw [hqs]; rfl
 have hall : (qs.map (·.2)).flatten = hs1 ++ hs2 := by rw [hqs]; simp
 have hsum : ∀ k, k ≤ 2 → ((qs.take k).map (·.2)).flatten.length ≤ 2000 := by
  intro k hk
  rw [hqs]
  match k, hk with
  | 0, _ => simp
  | 1, _ => simp; omega
  | 2, _ => simp; omega
 clear hqs
 refine zP (σ := Int × Int × Unit) (fun s w' => w' = w ∧ ∃ j : Nat, s.2.1 = j ∧ j ≤ 2 ∧ s.1 = (((qs.take j).map (·.2)).flatten.length : Int)) (fun s _ => (2 - s.2.1).toNat) ⟨rfl, 0, rfl, by omega, by simp⟩ ?_
 rintro _ ⟨sz, i, u⟩ w1 ⟨hw, j, hij, hjn, hsz⟩
 simp only at hij hsz ⊢
 subst hij hsz
 rw [hw]
 clear hw
 have tk : ∀ {k : Nat} {x : (Option Addr × Nat × Nat) × List (Option Addr × Nat × Nat)}, qs[k]? = some x → ((qs.take (k + 1)).map (·.2)).flatten = ((qs.take k).map (·.2)).flatten ++ x.2 := by
  intro k x hx
  rw [List.take_add_one, hx]
  simp
 refine zN (fun hc => ?_) (fun hc => ?_)
 ·have hj : j < 2 := by simp only [decide_eq_true_eq] at hc; omega
  obtain ⟨x, hx⟩ : ∃ x, qs[j]? = some x := ⟨_, List.getElem?_eq_getElem (by omega)⟩
  obtain ⟨g1, g2, g3⟩ := hq j x hx
  refine ob.ld0 (i := (j : Int)) (n := 1) (x := x.1) (v := .slice x.1.1 x.1.2.1 x.1.2.2) rfl (by omega) (by simpa using g2) rfl (zC.2 ?_)
  have hlen := hsum (j + 1) (by omega)
  rw [tk hx, List.length_append] at hlen
  have g4 := g1.1
  have ew : IntKind.wrap .i64 ((((qs.take j).map (·.2)).flatten.length : Int) + (x.1.2.1 : Int)) = (((qs.take (j + 1)).map (·.2)).flatten.length : Int) := by
   rw [zW (by omega) (by omega), tk hx, List.length_append, g4]; omega
  rw [ew, decide_eq_false (by omega)]
  refine (zH (p := _)).2 ?_
  have ew2 : IntKind.wrap .i64 ((j : Int) + 1) = ((j + 1 : Nat) : Int) := by rw [zW (by omega) (by omega)]; omega
  rw [ew2]
  exact ⟨_, by show (2 - ((j + 1 : Nat) : Int)).toNat < (2 - (j : Int)).toNat; omega, ⟨by trivial, j + 1, rfl, by omega, rfl⟩, rfl⟩
 ·have hj : j = 2 := by simp only [decide_eq_false_iff_not] at hc; omega
  subst hj
  have hlen := hsum 2 (by omega)
  refine zQw (by omega) (by omega) fun p c' w2 ho k2 => ?_
  refine zC.2 ?_
  refine zP (σ := (Option Addr × Nat × Nat) × Int × Unit) (fun s w' => ∃ i : Nat, s.2.1 = i ∧ i ≤ 2 ∧ Keep (fun _ => False) w w' ∧ OwnL hLay w' w.heap.size 22 s.1.1 s.1.2.1 s.1.2.2 (((qs.take i).map (·.2)).flatten)) (fun s _ => (2 - s.2.1).toNat)
   ⟨0, rfl, by omega, k2, by simpa using ho⟩ ?_
  rintro _ ⟨⟨q, l, cq⟩, i, u⟩ w3 ⟨i', hij, hin, k3, ho3⟩
  simp only at hij ho3 ⊢
  subst hij
  refine zN (fun hc => ?_) (fun hc => ?_)
  ·have hi : i' < 2 := by simp only [decide_eq_true_eq] at hc; omega
   obtain ⟨x, hx⟩ : ∃ x, qs[i']? = some x := ⟨_, List.getElem?_eq_getElem (by omega)⟩
   obtain ⟨g1, g2, g3⟩ := hq i' x hx
   refine (ob.keep k3 (by simp)).ld0 (i := (i' : Int)) (n := 1) (x := x.1) (v := .slice x.1.1 x.1.2.1 x.1.2.2) rfl (by omega) (by simpa using g2) rfl (zC.2 ?_)
   have hlen2 := hsum (i' + 1) (by omega)
   rw [tk hx, List.length_append] at hlen2
   have g4 := g1.1
   have hlq := ho3.length
   obtain ⟨p', c2, w4, hr4, ho4, k4⟩ := YS zJf ho3 (g1.yA k3 (by simp)) (ty := 187) (c2 := x.1.2.2) (by omega) (by simp only [maxLen]; omega) k3.size
   refine ⟨_, _, hr4, zC.2 ?_⟩
   have ew2 : IntKind.wrap .i64 ((i' : Int) + 1) = ((i' + 1 : Nat) : Int) := by rw [zW (by omega) (by omega)]; omega
   rw [ew2]
   refine ⟨_, by show (2 - ((i' + 1 : Nat) : Int)).toNat < (2 - (i' : Int)).toNat; omega, ⟨i' + 1, rfl, by omega, k3.trans' k4 (fun k hk hp => by have := (ho3.lt hp).1; omega), by rw [tk hx]; exact ho4⟩, rfl⟩
  ·have hi : i' = 2 := by simp only [decide_eq_false_iff_not] at hc; omega
   subst hi
   have hfin : ((qs.take 2).map (·.2)).flatten = hs1 ++ hs2 := by
    rw [List.take_of_length_le (by omega)]; exact hall
   rw [hfin] at ho3
   have hll := ho3.length
   subst hll
   exact zF.2 (hK q cq w3 ho3 k3)
theorem zM4 (w : World) : (Instr.buildSlice 22 0 #[]).run Tryz.prog w = .ok (.slice (some ⟨w.heap.size, 0, none⟩) 0 0) (w.alloc (.cells #[] 5)) := by kernel_rfl
def uN (w : World) (h : Option Addr × Nat × Nat) : Option Sec → Prop
 | none => h = (none, 0, 0)
 | some f => (∃ b o, h.1 = some ⟨b, o, none⟩) ∧ h.2.1 = 16 ∧ 16 ≤ h.2.2 ∧ SlL zU w h.1 16 (secB f)
theorem uN.keep {w' : World} {h : Option Addr × Nat × Nat} : ∀ {C : Option Sec}, uN w h C → Keep (fun _ => False) w w' → uN w' h C
 | none, hc, _ => hc
 | some f, ⟨h1, h2, h3, h4⟩, k => ⟨h1, h2, h3, h4.yA k (by simp)⟩
theorem TV {h : Option Addr × Nat × Nat} {C : Option Sec} (hc : uN w h C) (hK : ∀ h' w', uN w' h' C → (∀ f, C = some f → OwnL zU w' w.heap.size 5 h'.1 16 h'.2.2 (secB f)) → Keep (fun _ => False) w w' → R (.slice h'.1 h'.2.1 h'.2.2) w') :
  zB Tryz.prog 181 #[.slice h.1 h.2.1 h.2.2] w R := by
 apply Y4
 unfold kU
 cases C with
 | none =>
  have hc : h = (none, 0, 0) := hc
  subst hc
  exact (zT (q := _)).2 (zF.2 (hK (none, 0, 0) w rfl (fun f hf => by cases hf) (Keep.refl _ _)))
 | some f =>
  obtain ⟨⟨b, o, hp⟩, hl, hcap, hs⟩ := hc
  obtain ⟨hp0, hl0, hc0⟩ := h
  simp only at hp hl hcap hs
  subst hp hl
  refine (zH (p := _)).2 ?_
  refine ⟨_, _, zM4 w, zC.2 ?_⟩
  have k1 := Keep.new (fun _ => False) w (.cells #[] 5)
  have h1 := Has.new w (.cells #[] 5)
  generalize hw1 : w.alloc (.cells #[] 5) = w1 at *
  have o1 : OwnL zU w1 w.heap.size 5 (some ⟨w.heap.size, 0, none⟩) 0 0 [] := OwnL.mk (xs := []) (Nat.le_refl _) h1 (by simp [maxLen]) rfl
  obtain ⟨p', c2, w2, hr, o2, k2⟩ := YS LF o1 (hs.yA k1 (by simp)) (ty := 22) (c2 := hc0) (by omega) (by simp only [maxLen]; omega) k1.size
  refine ⟨_, _, hr, zC.2 (zF.2 ?_)⟩
  have o2 : OwnL zU w2 w.heap.size 5 p' 16 c2 (secB f) := o2
  have hsome : ∃ b o, p' = some ⟨b, o, none⟩ := by
   obtain ⟨b, cur, e, _⟩ := o2.cells (by omega)
   exact ⟨b, 0, e⟩
  refine hK (p', 16, c2) w2 ⟨hsome, rfl, o2.cap.1, o2.sl⟩ (fun f' hf => by cases hf; exact o2) (k1.trans' k2 fun i hi e => ?_)
  cases e
  omega
end calls
def xt (x : Nat) : Nat := if 255 < 2 * x then (2 * x) ^^^ 285 else 2 * x
def gmL : Nat → Nat → Nat → Nat → Nat
 | 0, _, p, _ => p
 | k + 1, b, p, x => if b = 0 then p else gmL k (b / 2) (if b % 2 = 1 then p ^^^ x else p) (xt x)
def gmN (a b : Nat) : Nat := gmL 8 b 0 a
def powL : Nat → Nat → Nat → Nat → Nat
 | 0, _, _, p => p
 | k + 1, n, a, p => if n = 0 then p else powL k (n / 2) (gmN a a) (if n % 2 = 1 then gmN p a else p)
def powN (a n : Nat) : Nat := powL 8 n a 1
def expN (i : Nat) : Nat := powN 2 i
theorem zHu {x : Nat} (h : x < 256) : xt x < 256 := by
 have : ∀ x : Fin 256, xt x.val < 256 := by decide +kernel
 exact this ⟨x, h⟩
theorem xQ {a b : Nat} (ha : a < 256) (hb : b < 256) : a ^^^ b < 256 := Nat.xor_lt_two_pow (n := 8) ha hb
theorem zL0 : ∀ (k b p x : Nat), p < 256 → x < 256 → gmL k b p x < 256
 | 0, _, _, _, hp, _ => hp
 | k + 1, b, p, x, hp, hx => by
  unfold gmL
  split
  ·exact hp
  ·refine zL0 k _ _ _ ?_ (zHu hx)
   split
   ·exact xQ hp hx
   ·exact hp
theorem xK {a b : Nat} (ha : a < 256) : gmN a b < 256 := zL0 8 b 0 a (by omega) ha
theorem zF9 : ∀ (k n a p : Nat), a < 256 → p < 256 → powL k n a p < 256
 | 0, _, _, _, _, hp => hp
 | k + 1, n, a, p, ha, hp => by
  unfold powL
  split
  ·exact hp
  ·refine zF9 k _ _ _ (xK ha) ?_
   split
   ·exact xK hp
   ·exact hp
theorem gE {a n : Nat} (ha : a < 256) : powN a n < 256 := zF9 8 n a 1 ha (by omega)
theorem ofInt64 (n : Nat) : BitVec.ofInt 64 (n : Int) = BitVec.ofNat 64 n := by simp
theorem ofInt8 (n : Nat) : BitVec.ofInt 8 (n : Int) = BitVec.ofNat 8 n := by simp
theorem zE9 {a b : Nat} (ha : a < 2 ^ 62) (hb : b < 2 ^ 62) : xL .xor .i64 (a : Int) (b : Int) = ((a ^^^ b : Nat) : Int) := by
 show IntKind.wrap .i64 ((BitVec.ofInt 64 _ ^^^ BitVec.ofInt 64 _).toNat : Int) = _
 rw [ofInt64, ofInt64, BitVec.toNat_xor, BitVec.toNat_ofNat, BitVec.toNat_ofNat, Nat.mod_eq_of_lt (by omega), Nat.mod_eq_of_lt (by omega)]
 have : a ^^^ b < 2 ^ 62 := Nat.xor_lt_two_pow ha hb
 exact zW (by omega) (by omega)
theorem zAw {a b : Nat} (ha : a < 256) (hb : b < 256) : xL .xor .u8 (a : Int) (b : Int) = ((a ^^^ b : Nat) : Int) := by
 show IntKind.wrap .u8 ((BitVec.ofInt 8 _ ^^^ BitVec.ofInt 8 _).toNat : Int) = _
 rw [ofInt8, ofInt8, BitVec.toNat_xor, BitVec.toNat_ofNat, BitVec.toNat_ofNat, Nat.mod_eq_of_lt (by omega), Nat.mod_eq_of_lt (by omega)]
 have : a ^^^ b < 256 := xQ ha hb
 exact zAy (by omega) (by omega)
theorem zNv {b : Nat} (hb : b < 256) : xL .and .u8 (b : Int) 1 = ((b % 2 : Nat) : Int) := by
 have e : ((1 : Int)) = ((1 : Nat) : Int) := rfl
 rw [e]
 show IntKind.wrap .u8 ((BitVec.ofInt 8 _ &&& BitVec.ofInt 8 _).toNat : Int) = _
 rw [ofInt8, ofInt8, BitVec.toNat_and, BitVec.toNat_ofNat, BitVec.toNat_ofNat, Nat.mod_eq_of_lt (by omega), Nat.mod_eq_of_lt (by omega), Nat.and_one_is_mod]
 exact zAy (by omega) (by omega)
theorem zKb {b : Nat} (hb : b < 2 ^ 62) : xL .and .i64 (b : Int) 1 = ((b % 2 : Nat) : Int) := by
 have e : ((1 : Int)) = ((1 : Nat) : Int) := rfl
 rw [e]
 show IntKind.wrap .i64 ((BitVec.ofInt 64 _ &&& BitVec.ofInt 64 _).toNat : Int) = _
 rw [ofInt64, ofInt64, BitVec.toNat_and, BitVec.toNat_ofNat, BitVec.toNat_ofNat, Nat.mod_eq_of_lt (by omega), Nat.mod_eq_of_lt (by omega), Nat.and_one_is_mod]
 exact zW (by omega) (by omega)
theorem zIa {x : Nat} (hx : x < 2 ^ 61) : ishl .i64 (x : Int) 1 = ((2 * x : Nat) : Int) := by
 unfold ishl
 show IntKind.wrap .i64 ((x : Int) * 2 ^ (min 1 64)) = _
 have : ((x : Int) * 2 ^ (min 1 64)) = ((2 * x : Nat) : Int) := by simp; omega
 rw [this]
 exact zW (by omega) (by omega)
theorem shr1 {k : IntKind} {x : Nat} : ishr k (x : Int) 1 = ((x / 2 : Nat) : Int) := by
 unfold ishr
 have : ∀ b : Nat, 1 ≤ b → Int.fdiv (x : Int) (2 ^ (min (1 : Int).toNat b)) = ((x / 2 : Nat) : Int) := by
  intro b hb
  rw [show (1 : Int).toNat = 1 from rfl, Nat.min_eq_left hb]
  simp only [Int.pow_one]
  rw [Int.fdiv_eq_ediv_of_nonneg _ (by omega)]
  rfl
 cases k <;> exact this _ (by decide)
section calls
variable {w : World} {R : Value → World → Prop}
theorem US {a b : Nat} (ha : a < 256) (hb : b < 256) (hK : R (.int .u8 ((gmN a b : Nat) : Int)) w) : zB Tryz.prog 238 #[.int .u8 (a : Int), .int .u8 (b : Int)] w R := by
 apply zKi
 unfold zCi
 have e0 : IntKind.wrap .i64 (a : Int) = (a : Int) := zW (by omega) (by omega)
 rw [e0]
 refine zP (σ := Int × Int × Int × Unit) (fun st w' => w' = w ∧ ∃ k bn pn xn : Nat, st.1 = (bn : Int) ∧ st.2.1 = (pn : Int) ∧ st.2.2.1 = (xn : Int) ∧ bn < 2 ^ k ∧ k ≤ 8 ∧ pn < 256 ∧ xn < 256 ∧ gmL k bn pn xn = gmN a b) (fun st _ => st.1.toNat)
  ⟨rfl, 8, b, 0, a, rfl, rfl, rfl, hb, Nat.le_refl _, by omega, ha, rfl⟩ ?_
 rintro _ ⟨b1, p1, x1, u⟩ w1 ⟨hw, k, bn, pn, xn, h1, h2, h3, hk, hk8, hp, hx, hg⟩
 simp only at h1 h2 h3 ⊢
 subst h1 h2 h3
 rw [hw]
 clear hw
 have hbn : bn < 256 := Nat.lt_of_lt_of_le hk (by have := Nat.pow_le_pow_right (n := 2) (by omega) hk8; simpa using this)
 refine zN (fun hc => ?_) (fun hc => ?_)
 ·have hc : 0 < bn := by
   have : (bn : Int) > 0 := by simpa using hc
   omega
  obtain ⟨k', rfl⟩ : ∃ k', k = k' + 1 := by
   cases k with
   | zero => simp at hk; omega
   | succ k => exact ⟨k, rfl⟩
  have hst : gmL (k' + 1) bn pn xn = gmL k' (bn / 2) (if bn % 2 = 1 then pn ^^^ xn else pn) (xt xn) := by
   show (if bn = 0 then pn else _) = _
   rw [if_neg (by omega)]
  rw [hst] at hg
  rw [zNv hbn, zIa (by omega), shr1]
  have hlt : bn / 2 < 2 ^ k' := by rw [Nat.pow_succ] at hk; omega
  have hm : (((bn / 2 : Nat) : Int)).toNat < ((bn : Int)).toNat := by omega
  have hx285 : 255 < 2 * xn → xL .xor .i64 (((2 * xn : Nat) : Int)) 285 = ((xt xn : Nat) : Int) := by
   intro h
   have := zE9 (a := 2 * xn) (b := 285) (by omega) (by omega)
   unfold xt
   rw [if_pos h]
   exact this
  have hx0 : ¬ 255 < 2 * xn → ((2 * xn : Nat) : Int) = ((xt xn : Nat) : Int) := by
   intro h
   unfold xt
   rw [if_neg h]
  have fin : ∀ P1 : Nat, P1 = (if bn % 2 = 1 then pn ^^^ xn else pn) → ∃ m', m' < ((bn : Int)).toNat ∧ ((w = w) ∧ ∃ k bn' pn' xn' : Nat, ((bn / 2 : Nat) : Int) = (bn' : Int) ∧ (P1 : Int) = (pn' : Int) ∧ ((xt xn : Nat) : Int) = (xn' : Int) ∧ bn' < 2 ^ k ∧ k ≤ 8 ∧ pn' < 256 ∧ xn' < 256 ∧ gmL k bn' pn' xn' = gmN a b) ∧ (((bn / 2 : Nat) : Int)).toNat = m' := by
   intro P1 hP
   refine ⟨_, hm, ⟨rfl, k', bn / 2, P1, xt xn, rfl, rfl, rfl, hlt, by omega, ?_, zHu hx, by rw [hP]; exact hg⟩, rfl⟩
   rw [hP]
   split
   ·exact xQ hp hx
   ·exact hp
  refine zN (fun hb1 => ?_) (fun hb1 => ?_)
  ·have hb1 : bn % 2 = 1 := by
    have : ((bn % 2 : Nat) : Int) = 1 := by simpa using hb1
    omega
   rw [zE9 (by omega) (by omega)]
   refine ⟨by decide, ?_⟩
   refine zN (fun h => ?_) (fun h => ?_)
   ·have h : 255 < 2 * xn := by simp only [decide_eq_true_eq] at h; omega
    rw [hx285 h]
    have := fin (pn ^^^ xn) (by rw [if_pos hb1])
    simp only [true_and] at this ⊢
    exact ⟨by decide, this⟩
   ·have h : ¬ 255 < 2 * xn := by simp only [decide_eq_false_iff_not] at h; omega
    rw [hx0 h]
    have := fin (pn ^^^ xn) (by rw [if_pos hb1])
    simp only [true_and] at this ⊢
    exact ⟨by decide, this⟩
  ·have hb1 : ¬ bn % 2 = 1 := by
    have : ¬ ((bn % 2 : Nat) : Int) = 1 := by simpa using hb1
    omega
   refine ⟨by decide, ?_⟩
   refine zN (fun h => ?_) (fun h => ?_)
   ·have h : 255 < 2 * xn := by simp only [decide_eq_true_eq] at h; omega
    rw [hx285 h]
    have := fin pn (by rw [if_neg hb1])
    simp only [true_and] at this ⊢
    exact ⟨by decide, this⟩
   ·have h : ¬ 255 < 2 * xn := by simp only [decide_eq_false_iff_not] at h; omega
    rw [hx0 h]
    have := fin pn (by rw [if_neg hb1])
    simp only [true_and] at this ⊢
    exact ⟨by decide, this⟩
 ·have hc : bn = 0 := by
   have : ¬ (bn : Int) > 0 := by simpa using hc
   omega
  subst hc
  have : gmL k 0 pn xn = pn := by
   cases k with
   | zero => rfl
   | succ k => show (if (0 : Nat) = 0 then pn else _) = pn; rw [if_pos rfl]
  rw [this] at hg
  subst hg
  rw [zAy (by omega) (by omega)]
  exact zF.2 hK
theorem zGf {a n : Nat} (ha : a < 256) (hn : n < 256) (hK : R (.int .u8 ((powN a n : Nat) : Int)) w) : zB Tryz.prog 239 #[.int .u8 (a : Int), .int .i64 (n : Int)] w R := by
 apply zDz
 unfold NC
 refine zP (σ := Int × Int × Int × Unit) (fun st w' => w' = w ∧ ∃ k an nn pn : Nat, st.1 = (an : Int) ∧ st.2.1 = (nn : Int) ∧ st.2.2.1 = (pn : Int) ∧ nn < 2 ^ k ∧ k ≤ 8 ∧ an < 256 ∧ pn < 256 ∧ powL k nn an pn = powN a n) (fun st _ => st.2.1.toNat)
  ⟨rfl, 8, a, n, 1, rfl, rfl, rfl, hn, Nat.le_refl _, ha, by omega, rfl⟩ ?_
 rintro _ ⟨a1, n1, p1, u⟩ w1 ⟨hw, k, an, nn, pn, h1, h2, h3, hk, hk8, ha2, hp, hg⟩
 simp only at h1 h2 h3 ⊢
 subst h1 h2 h3
 rw [hw]
 clear hw
 have hnn : nn < 256 := Nat.lt_of_lt_of_le hk (by have := Nat.pow_le_pow_right (n := 2) (by omega) hk8; simpa using this)
 refine zN (fun hc => ?_) (fun hc => ?_)
 ·have hc : 0 < nn := by
   have : (nn : Int) > 0 := by simpa using hc
   omega
  obtain ⟨k', rfl⟩ : ∃ k', k = k' + 1 := by
   cases k with
   | zero => simp at hk; omega
   | succ k => exact ⟨k, rfl⟩
  have hst : powL (k' + 1) nn an pn = powL k' (nn / 2) (gmN an an) (if nn % 2 = 1 then gmN pn an else pn) := by
   show (if nn = 0 then pn else _) = _
   rw [if_neg (by omega)]
  rw [hst] at hg
  have hlt : nn / 2 < 2 ^ k' := by rw [Nat.pow_succ] at hk; omega
  rw [zKb (by omega), shr1]
  refine zN (fun hb1 => ?_) (fun hb1 => ?_)
  ·have hb1 : nn % 2 = 1 := by
    have : ((nn % 2 : Nat) : Int) = 1 := by simpa using hb1
    omega
   rw [if_pos hb1] at hg
   refine US hp ha2 (zA.2 ?_)
   refine US ha2 ha2 (zA.2 ⟨by decide, ?_⟩)
   exact ⟨_, by show (((nn / 2 : Nat) : Int)).toNat < ((nn : Int)).toNat; omega, ⟨by trivial, k', gmN an an, nn / 2, gmN pn an, rfl, rfl, rfl, hlt, by omega, xK ha2, xK hp, hg⟩, rfl⟩
  ·have hb1 : ¬ nn % 2 = 1 := by
    have : ¬ ((nn % 2 : Nat) : Int) = 1 := by simpa using hb1
    omega
   rw [if_neg hb1] at hg
   refine US ha2 ha2 (zA.2 ⟨by decide, ?_⟩)
   exact ⟨_, by show (((nn / 2 : Nat) : Int)).toNat < ((nn : Int)).toNat; omega, ⟨by trivial, k', gmN an an, nn / 2, pn, rfl, rfl, rfl, hlt, by omega, xK ha2, hp, hg⟩, rfl⟩
 ·have hc : nn = 0 := by
   have : ¬ (nn : Int) > 0 := by simpa using hc
   omega
  subst hc
  have : powL k 0 an pn = pn := by
   cases k with
   | zero => rfl
   | succ k => show (if (0 : Nat) = 0 then pn else _) = pn; rw [if_pos rfl]
  rw [this] at hg
  subst hg
  exact zF.2 hK
theorem zJi {i : Nat} (hi : i < 255) (hK : R (.int .u8 ((expN i : Nat) : Int)) w) : zB Tryz.prog 185 #[.int .i64 (i : Int)] w R := by
 apply zKk
 unfold zCk
 apply zAp
 unfold G6
 refine ⟨by decide, by decide, zF.2 (zA.2 ?_)⟩
 have e : Int.tmod (IntKind.wrap .i64 (Int.tmod (i : Int) 255 + 255)) 255 = (i : Int) := by
  have h1 : Int.tmod (i : Int) 255 = (i : Int) := by rw [Int.tmod_eq_emod_of_nonneg (by omega)]; omega
  rw [h1, zW (by omega) (by omega), Int.tmod_eq_emod_of_nonneg (by omega)]
  omega
 rw [e]
 exact zGf (a := 2) (by omega) (by omega) (zA.2 (zF.2 hK))
theorem zPq {a : Nat} (h0 : a ≠ 0) (ha : a < 256) (hK : R (.tuple #[.int .u8 ((powN a 254 : Nat) : Int), .int .i64 0]) w) : zB Tryz.prog 184 #[.int .u8 (a : Int)] w R := by
 apply zKj
 unfold zCj
 have e : ((a : Int) == 0) = false := by simp; omega
 rw [e]
 refine (zH (p := _)).2 ?_
 exact zGf (n := 254) ha (by omega) (zA.2 (zF.2 hK))
theorem zN0 {c d e f : Nat} (hc : c < 256) (hd : d < 256) (he : e < 256) (hf : f < 256) (hne : gmN 1 d ^^^ gmN 1 c ≠ 0)
  (hK : R (.tuple #[.int .u8 ((gmN (powN (gmN 1 d ^^^ gmN 1 c) 254) (gmN d e ^^^ gmN 1 f) : Nat) : Int), .int .u8 ((gmN (powN (gmN 1 d ^^^ gmN 1 c) 254) (gmN 1 f ^^^ gmN c e) : Nat) : Int), .int .i64 0]) w) :
  zB Tryz.prog 186 #[.int .u8 1, .int .u8 1, .int .u8 (c : Int), .int .u8 (d : Int), .int .u8 (e : Int), .int .u8 (f : Int)] w R := by
 apply zE0
 unfold ND
 have l1 : gmN 1 d < 256 := xK (by omega)
 have l2 : gmN 1 c < 256 := xK (by omega)
 have ldet : powN (gmN 1 d ^^^ gmN 1 c) 254 < 256 := gE (xQ l1 l2)
 refine US (a := 1) (by omega) hd (zA.2 ?_)
 refine US (a := 1) (by omega) hc (zA.2 ?_)
 rw [zAw l1 l2]
 refine zPq hne (xQ l1 l2) ?_
 refine yM.2 (zA.2 (zA.2 ((zH (p := _)).2 ?_)))
 refine US hd he (zA.2 ?_)
 refine US (a := 1) (by omega) hf (zA.2 ?_)
 rw [zAw (xK hd) (xK (by omega))]
 refine US ldet (xQ (xK hd) (xK (by omega))) (zA.2 ?_)
 refine US (a := 1) (by omega) hf (zA.2 ?_)
 refine US hc he (zA.2 ?_)
 rw [zAw (xK (by omega)) (xK hc)]
 refine US ldet (xQ (xK (by omega)) (xK hc)) (zA.2 (zF.2 hK))
end calls
end Go.Proofs
namespace Go.Proofs
set_option maxRecDepth 100000
def gmF : Nat → Nat → Nat → Nat
 | 0, _, _ => 0
 | k + 1, b, x => (if b % 2 = 1 then x else 0) ^^^ gmF k (b / 2) (xt x)
theorem zBu : ∀ k x, gmF k 0 x = 0
 | 0, _ => rfl
 | k + 1, x => by
  show (if 0 % 2 = 1 then x else 0) ^^^ gmF k (0 / 2) (xt x) = 0
  rw [if_neg (by omega), Nat.zero_div, zBu k]; rfl
theorem zPp : ∀ k b p x, gmL k b p x = p ^^^ gmF k b x
 | 0, _, p, _ => by show p = p ^^^ 0; rw [Nat.xor_zero]
 | k + 1, b, p, x => by
  unfold gmL
  by_cases hb : b = 0
  ·rw [if_pos hb, hb, zBu, Nat.xor_zero]
  ·rw [if_neg hb, zPp k]
   show _ = p ^^^ ((if b % 2 = 1 then x else 0) ^^^ gmF k (b / 2) (xt x))
   split
   ·rw [Nat.xor_assoc]
   ·rw [Nat.zero_xor]
theorem zDg (a b : Nat) : gmN a b = gmF 8 b a := by unfold gmN; rw [zPp, Nat.zero_xor]
theorem XJ (a b c d : Nat) : (a ^^^ b) ^^^ (c ^^^ d) = (a ^^^ c) ^^^ (b ^^^ d) := by
 rw [Nat.xor_assoc, Nat.xor_assoc, ← Nat.xor_assoc b, ← Nat.xor_assoc c, Nat.xor_comm b c]
theorem U9 (b c : Nat) : (b ^^^ c) % 2 = 1 ↔ (b % 2 = 1 ∧ ¬ c % 2 = 1) ∨ (¬ b % 2 = 1 ∧ c % 2 = 1) := by
 have h := Nat.testBit_xor b c 0
 simp only [Nat.testBit_zero] at h
 by_cases h1 : b % 2 = 1 <;> by_cases h2 : c % 2 = 1 <;> by_cases h3 : (b ^^^ c) % 2 = 1 <;> simp_all
theorem zHv (b c : Nat) : (b ^^^ c) / 2 = (b / 2) ^^^ (c / 2) := by
 apply Nat.eq_of_testBit_eq
 intro i
 rw [Nat.testBit_xor, Nat.testBit_div_two, Nat.testBit_div_two, Nat.testBit_div_two, Nat.testBit_xor]
theorem zGc : ∀ k b c x, gmF k (b ^^^ c) x = gmF k b x ^^^ gmF k c x
 | 0, _, _, _ => by show 0 = 0 ^^^ 0; rfl
 | k + 1, b, c, x => by
  show (if (b ^^^ c) % 2 = 1 then x else 0) ^^^ gmF k ((b ^^^ c) / 2) (xt x) = ((if b % 2 = 1 then x else 0) ^^^ gmF k (b / 2) (xt x)) ^^^ ((if c % 2 = 1 then x else 0) ^^^ gmF k (c / 2) (xt x))
  rw [zHv, zGc k, XJ]
  congr 1
  by_cases h1 : b % 2 = 1
  ·by_cases h2 : c % 2 = 1
   ·rw [if_pos h1, if_pos h2, if_neg (by rw [U9]; simp [h1, h2]), Nat.xor_self]
   ·rw [if_pos h1, if_neg h2, if_pos (by rw [U9]; simp [h1, h2]), Nat.xor_zero]
  ·by_cases h2 : c % 2 = 1
   ·rw [if_neg h1, if_pos h2, if_pos (by rw [U9]; simp [h1, h2]), Nat.zero_xor]
   ·rw [if_neg h1, if_neg h2, if_neg (by rw [U9]; simp [h1, h2]), Nat.xor_self]
theorem zBt (a b c : Nat) : gmN a (b ^^^ c) = gmN a b ^^^ gmN a c := by rw [zDg, zDg, zDg, zGc]
theorem zMy (a : Nat) : gmN a 0 = 0 := rfl
theorem top_bit {x : Nat} (h : x < 256) : (255 < 2 * x) ↔ x.testBit 7 = true := by
 have : ∀ x : Fin 256, decide (255 < 2 * x.val) = x.val.testBit 7 := by decide +kernel
 rw [← this ⟨x, h⟩]; simp
theorem zLt (x y : Nat) : 2 * (x ^^^ y) = 2 * x ^^^ 2 * y := by
 have e : ∀ z : Nat, 2 * z = z <<< 1 := fun z => by rw [Nat.shiftLeft_eq]; omega
 rw [e, e, e, Nat.shiftLeft_xor_distrib]
theorem zE8 {x : Nat} (h : x < 256) : xt x = 2 * x ^^^ (if x.testBit 7 = true then 285 else 0) := by
 unfold xt
 by_cases h1 : 255 < 2 * x
 ·rw [if_pos h1, if_pos ((top_bit h).1 h1)]
 ·rw [if_neg h1, if_neg (fun h2 => h1 ((top_bit h).2 h2)), Nat.xor_zero]
theorem zOa {x y : Nat} (hx : x < 256) (hy : y < 256) : xt (x ^^^ y) = xt x ^^^ xt y := by
 rw [zE8 (xQ hx hy), zE8 hx, zE8 hy, zLt, XJ, Nat.testBit_xor]
 congr 1
 cases x.testBit 7 <;> cases y.testBit 7 <;> simp
theorem zBv : ∀ k b x y, x < 256 → y < 256 → gmF k b (x ^^^ y) = gmF k b x ^^^ gmF k b y
 | 0, _, _, _, _, _ => by show 0 = 0 ^^^ 0; rfl
 | k + 1, b, x, y, hx, hy => by
  show (if b % 2 = 1 then x ^^^ y else 0) ^^^ gmF k (b / 2) (xt (x ^^^ y)) = ((if b % 2 = 1 then x else 0) ^^^ gmF k (b / 2) (xt x)) ^^^ ((if b % 2 = 1 then y else 0) ^^^ gmF k (b / 2) (xt y))
  rw [zOa hx hy, zBv k _ _ _ (zHu hx) (zHu hy), XJ]
  congr 1
  split <;> simp
theorem zGb {a b c : Nat} (ha : a < 256) (hb : b < 256) : gmN (a ^^^ b) c = gmN a c ^^^ gmN b c := by rw [zDg, zDg, zDg, zBv _ _ _ _ ha hb]
theorem gM {x : Nat} (h : x < 256) : gmN 1 x = x := by
 have : ∀ x : Fin 256, gmN 1 x.val = x.val := by decide +kernel
 exact this ⟨x, h⟩
def bitN (x i : Nat) : Nat := if x.testBit i = true then 2 ^ i else 0
theorem zNo {x : Nat} (h : x < 256) : x = bitN x 0 ^^^ (bitN x 1 ^^^ (bitN x 2 ^^^ (bitN x 3 ^^^ (bitN x 4 ^^^ (bitN x 5 ^^^ (bitN x 6 ^^^ bitN x 7)))))) := by
 have : ∀ x : Fin 256, x.val = bitN x.val 0 ^^^ (bitN x.val 1 ^^^ (bitN x.val 2 ^^^ (bitN x.val 3 ^^^ (bitN x.val 4 ^^^ (bitN x.val 5 ^^^ (bitN x.val 6 ^^^ bitN x.val 7)))))) := by decide +kernel
 exact this ⟨x, h⟩
theorem zPf {f : Nat → Nat} (h0 : f 0 = 0) (ha : ∀ x y, f (x ^^^ y) = f x ^^^ f y) (hb : ∀ i, i < 8 → f (2 ^ i) = 2 ^ i) {x : Nat} (h : x < 256) : f x = x := by
 have e : ∀ i, i < 8 → f (bitN x i) = bitN x i := by
  intro i hi
  unfold bitN
  split
  ·exact hb i hi
  ·exact h0
 have hx := zNo h
 have h1 : f (bitN x 0 ^^^ (bitN x 1 ^^^ (bitN x 2 ^^^ (bitN x 3 ^^^ (bitN x 4 ^^^ (bitN x 5 ^^^ (bitN x 6 ^^^ bitN x 7))))))) = bitN x 0 ^^^ (bitN x 1 ^^^ (bitN x 2 ^^^ (bitN x 3 ^^^ (bitN x 4 ^^^ (bitN x 5 ^^^ (bitN x 6 ^^^ bitN x 7)))))) := by
  rw [ha, ha, ha, ha, ha, ha, ha, e 0 (by omega), e 1 (by omega), e 2 (by omega), e 3 (by omega), e 4 (by omega), e 5 (by omega), e 6 (by omega), e 7 (by omega)]
 rw [← hx] at h1
 exact h1
theorem zGa {a x : Nat} (h0 : a ≠ 0) (ha : a < 256) (hx : x < 256) : gmN (powN a 254) (gmN a x) = x := by
 have key : ∀ a : Fin 256, a.val ≠ 0 → ∀ i : Fin 8, gmN (powN a.val 254) (gmN a.val (2 ^ i.val)) = 2 ^ i.val := by decide +kernel
 refine zPf (f := fun x => gmN (powN a 254) (gmN a x)) rfl (fun x y => ?_) (fun i hi => key ⟨a, ha⟩ h0 ⟨i, hi⟩) hx
 show gmN _ (gmN a (x ^^^ y)) = _
 rw [zBt, zBt]
theorem uE {i : Nat} : expN i < 256 := gE (by omega)
theorem zGo {i : Nat} (h : i < 30) : expN i ≠ 0 := by
 have : ∀ i : Fin 30, expN i.val ≠ 0 := by decide +kernel
 exact this ⟨i, h⟩
theorem zL1 {i j : Nat} (hi : i < 30) (hj : j < 30) (h : i ≠ j) : expN j ^^^ expN i ≠ 0 := by
 have : ∀ i j : Fin 30, i.val ≠ j.val → expN j.val ^^^ expN i.val ≠ 0 := by decide +kernel
 exact this ⟨i, hi⟩ ⟨j, hj⟩ h
theorem zKz {i j x y : Nat} (hi : i < 30) (hj : j < 30) (h : i ≠ j) (hx : x < 256) (hy : y < 256) :
  gmN (powN (gmN 1 (expN j) ^^^ gmN 1 (expN i)) 254) (gmN (expN j) (x ^^^ y) ^^^ gmN 1 (gmN (expN i) x ^^^ gmN (expN j) y)) = x ∧
  gmN (powN (gmN 1 (expN j) ^^^ gmN 1 (expN i)) 254) (gmN 1 (gmN (expN i) x ^^^ gmN (expN j) y) ^^^ gmN (expN i) (x ^^^ y)) = y := by
 have l1 : gmN (expN i) x ^^^ gmN (expN j) y < 256 := xQ (xK uE) (xK uE)
 rw [gM uE, gM uE, gM l1, zBt (expN j) x y, zBt (expN i) x y]
 have e1 : (gmN (expN j) x ^^^ gmN (expN j) y) ^^^ (gmN (expN i) x ^^^ gmN (expN j) y) = gmN (expN j ^^^ expN i) x := by
  rw [zGb uE uE, XJ, Nat.xor_self, Nat.xor_zero]
 have e2 : (gmN (expN i) x ^^^ gmN (expN j) y) ^^^ (gmN (expN i) x ^^^ gmN (expN i) y) = gmN (expN j ^^^ expN i) y := by
  rw [zGb uE uE, XJ, Nat.xor_self, Nat.zero_xor]
 rw [e1, e2]
 have hne := zL1 hi hj h
 exact ⟨zGa hne (xQ uE uE) hx, zGa hne (xQ uE uE) hy⟩
end Go.Proofs
namespace Go.Proofs
open Go Go.Ev
set_option maxRecDepth 100000
theorem uR (F : Sec) : ∀ {i : Nat} (h : i < 16), (secB F)[i]? = some (F ⟨i, h⟩)
 | 0, _ => rfl | 1, _ => rfl | 2, _ => rfl | 3, _ => rfl | 4, _ => rfl | 5, _ => rfl | 6, _ => rfl | 7, _ => rfl
 | 8, _ => rfl | 9, _ => rfl | 10, _ => rfl | 11, _ => rfl | 12, _ => rfl | 13, _ => rfl | 14, _ => rfl | 15, _ => rfl
 | n + 16, h => absurd h (by omega)
theorem NZ (F : Sec) : (secB F).length = 16 := rfl
theorem zIb {xs : List Int} {F : Sec} (hl : xs.length = 16) (h : ∀ i (hi : i < 16), xs[i]? = some (F ⟨i, hi⟩)) : xs = secB F := by
 apply List.ext_getElem?
 intro i
 by_cases hi : i < 16
 ·rw [h i hi, uR F hi]
 ·rw [List.getElem?_eq_none (by omega), List.getElem?_eq_none (by rw [NZ]; omega)]
theorem zB5 (F : Sec) (i : Nat) (v : Int) : (secB F).set i v = secB fun k => if k.val = i then v else F k := by
 refine zIb (by simp [NZ]) fun j hj => ?_
 rw [List.getElem?_set]
 by_cases h : i = j
 ·subst h
  rw [if_pos rfl, if_pos (by rw [NZ]; exact hj)]
  simp
 ·rw [if_neg h, uR F hj]
  simp only
  rw [if_neg (fun e => h e.symm)]
def xadd (g : Nat) (f y : Sec) : Sec := fun k => (((f k).toNat ^^^ gmN g (y k).toNat : Nat) : Int)
def NK (g : Nat) (f : Sec) : Option Sec → Sec
 | none => f
 | some y => xadd g f y
theorem vN {x : Int} (h : 0 ≤ x ∧ x ≤ 255) : x = ((x.toNat : Nat) : Int) ∧ x.toNat < 256 := by omega
theorem QP {g : Nat} {f y : Sec} (hg : g < 256) (hf : yD f) (hy : yD y) : yD (xadd g f y) := fun k => by
 have h1 := vN (hf k)
 have := xQ h1.2 (xK (b := (y k).toNat) hg)
 unfold xadd
 omega
def u5 : Option Sec → Prop
 | none => True
 | some y => yD y
theorem NJ {g : Nat} {f : Sec} {C : Option Sec} (hg : g < 256) (hf : yD f) (hc : u5 C) : yD (NK g f C) := by
 cases C with
 | none => exact hf
 | some y => exact QP hg hf hc
def sumI (co : Nat → Nat) (Cs : List (Option Sec)) : Nat → Sec
 | 0 => sec []
 | k + 1 => NK (co k) (sumI co Cs k) (Cs.getD k none)
def sumP (Cs : List (Option Sec)) : Sec := sumI (fun _ => 1) Cs Cs.length
def sumQ (Cs : List (Option Sec)) : Sec := sumI expN Cs Cs.length
theorem kO : yD (sec []) := H6 (by simp)
theorem vH {co : Nat → Nat} {Cs : List (Option Sec)} (hco : ∀ i, co i < 256) (hc : ∀ C ∈ Cs, u5 C) : ∀ k, yD (sumI co Cs k)
 | 0 => kO
 | k + 1 => NJ (hco k) (vH hco hc k) (by
   by_cases h : k < Cs.length
   ·rw [List.getD_eq_getElem?_getD, List.getElem?_eq_getElem h]; exact hc _ (List.getElem_mem _)
   ·rw [List.getD_eq_getElem?_getD, List.getElem?_eq_none (by omega)]; exact True.intro)
theorem vU (i : Nat) : expN i < 256 := gE (by omega)
def xA (Cs : List (Option Sec)) : Nat := (Cs.filter Option.isNone).length
theorem vO (a b : List (Option Sec)) : xA (a ++ b) = xA a + xA b := by unfold xA; rw [List.filter_append, List.length_append]
theorem NX (Cs : List (Option Sec)) : xA Cs ≤ Cs.length := List.length_filter_le _ _
theorem uN.yA {w w' : World} {S : Nat → Prop} {h : Option Addr × Nat × Nat} : ∀ {C : Option Sec}, uN w h C → Keep S w w' → (∀ k, k < w.heap.size → ¬ S k) → uN w' h C
 | none, hc, _, _ => hc
 | some f, ⟨h1, h2, h3, h4⟩, k, hS => ⟨h1, h2, h3, h4.yA k hS⟩
theorem SlL.zLg {α : Type} {L : Lay α} {w : World} {b o l : Nat} {xs : List α} (h : SlL L w (some ⟨b, o, none⟩) l xs) (h0 : 0 < l) : b < w.heap.size := by
 obtain ⟨b', o', hp, hc⟩ := h.2 0 (xs[0]'(by have := h.1; omega)) (List.getElem?_eq_getElem _)
 cases hp
 have := hc 0 L.pos
 refine Classical.byContradiction fun hn => ?_
 have hnone : w.heap[b]? = none := Array.getElem?_eq_none (by omega)
 unfold World.cell? at this
 have hs : ∃ v, (L.row (xs[0]'(by have := h.1; omega)))[0]? = some v := ⟨_, List.getElem?_eq_getElem (by rw [L.len]; exact L.pos)⟩
 obtain ⟨v, hv⟩ := hs
 simp_all
structure Cols (w : World) (p : Option Addr) (l : Nat) (hs : List (Option Addr × Nat × Nat)) (Cs : List (Option Sec)) : Prop where
 sl : SlL hLay w p l hs
 len : hs.length = Cs.length
 at_ : ∀ (i : Nat) h C, hs[i]? = some h → Cs[i]? = some C → uN w h C
 ok : ∀ C ∈ Cs, u5 C
theorem Cols.yA {w w' : World} {S : Nat → Prop} {p : Option Addr} {l : Nat} {hs : List (Option Addr × Nat × Nat)} {Cs : List (Option Sec)} (h : Cols w p l hs Cs) (k : Keep S w w') (hS : ∀ k, k < w.heap.size → ¬ S k) : Cols w' p l hs Cs :=
 ⟨h.sl.yA k hS, h.len, fun i hh C h1 h2 => (h.at_ i hh C h1 h2).yA k hS, h.ok⟩
section calls
variable {w : World} {R : Value → World → Prop}
theorem zFe {base b c : Nat} {e : TypeId} {f : Sec} {g : Nat} {h : Option Addr × Nat × Nat} {C : Option Sec} (ho : OwnL zU w base e (some ⟨b, 0, none⟩) 16 c (secB f)) (hf : yD f) (hc : uN w h C) (hok : u5 C) (hg : g < 256) (hne : ∀ b' o, h.1 = some ⟨b', o, none⟩ → b' ≠ b)
  (hK : ∀ w', OwnL zU w' base e (some ⟨b, 0, none⟩) 16 c (secB (NK g f C)) → Keep (fun k => k = b) w w' → R (.tuple #[]) w') :
  zB Tryz.prog 183 #[.slice (some ⟨b, 0, none⟩) 16 c, .slice h.1 h.2.1 h.2.2, .int .u8 (g : Int)] w R := by
 apply L1
 unfold UE
 cases C with
 | none =>
  have hc : h = (none, 0, 0) := hc
  subst hc
  refine zP (σ := Int × Unit) (fun st w' => st.1 = 0 ∧ w' = w) (fun _ _ => 0) ⟨rfl, rfl⟩ ?_
  rintro _ ⟨i, u⟩ w1 ⟨hi, hw⟩
  simp only at hi ⊢
  subst hi
  rw [hw]
  exact (zH (p := _)).2 (zF.2 (hK w ho (Keep.refl _ _)))
 | some y =>
  obtain ⟨⟨cb, co, hp⟩, hl, hcap, hs⟩ := hc
  obtain ⟨hp0, hl0, hc0⟩ := h
  simp only at hp hl hcap hs hne
  subst hp hl
  have hcb := hne cb co rfl
  have hy : yD y := hok
  refine zP (σ := Int × Unit) (fun st w' => ∃ i : Nat, st.1 = (i : Int) ∧ i ≤ 16 ∧ OwnL zU w' base e (some ⟨b, 0, none⟩) 16 c (secB fun k => if k.val < i then xadd g f y k else f k) ∧ Keep (fun k => k = b) w w') (fun st _ => (16 - st.1).toNat)
   ⟨0, rfl, by omega, by simpa using ho, Keep.refl _ _⟩ ?_
  rintro _ ⟨i, u⟩ w1 ⟨i', hi, hil, o1, k1⟩
  simp only at hi ⊢
  subst hi
  refine zN (fun hc => ?_) (fun hc => ?_)
  ·have hc : i' < 16 := by
    have : (i' : Int) < ((16 : Nat) : Int) := by simpa using hc
    omega
   have s1 : SlL zU w1 (some ⟨cb, co, none⟩) 16 (secB y) := hs.keep k1 fun b' o' hp => by cases hp; exact hcb
   refine s1.ld0 (i := (i' : Int)) (n := 1) (x := y ⟨i', hc⟩) (v := .int .u8 (y ⟨i', hc⟩)) rfl (by omega) (by rw [Int.toNat_natCast]; exact uR y hc) rfl (zA.2 ?_)
   intro d _
   have kd := Keep.drew (fun _ => False) w1 d
   have o1d := o1.keep kd (by simp)
   have hget := uR (fun k => if k.val < i' then xadd g f y k else f k) hc
   simp only [Nat.lt_irrefl, if_false] at hget
   refine o1d.ld0 (i := (i' : Int)) (n := 1) (x := f ⟨i', hc⟩) (v := .int .u8 (f ⟨i', hc⟩)) rfl (by omega) (by rw [Int.toNat_natCast]; exact hget) rfl (zA.2 ?_)
   have ny := vN (hy ⟨i', hc⟩)
   have nf := vN (hf ⟨i', hc⟩)
   have eM : HP Tryz.prog 238 #[.int .u8 (g : Int), .int .u8 (y ⟨i', hc⟩)] (w1.dr d) = HP Tryz.prog 238 #[.int .u8 (g : Int), .int .u8 (((y ⟨i', hc⟩).toNat : Nat) : Int)] (w1.dr d) := by rw [← ny.1]
   rw [eM]
   refine zCp (V := .int .u8 ((gmN g (y ⟨i', hc⟩).toNat : Nat) : Int)) (US hg ny.2 ⟨rfl, rfl⟩) ?_
   refine zA.2 ?_
   have ex : xL .xor .u8 (f ⟨i', hc⟩) ((gmN g (y ⟨i', hc⟩).toNat : Nat) : Int) = xadd g f y ⟨i', hc⟩ := by
    have := zAw nf.2 (xK (b := (y ⟨i', hc⟩).toNat) hg)
    rw [← nf.1] at this
    exact this
   rw [ex]
   refine o1d.stF (i := (i' : Int)) (n := 1) (t := 0) (x := f ⟨i', hc⟩) (y := xadd g f y ⟨i', hc⟩) rfl (by omega) (by rw [Int.toNat_natCast]; exact hget) (by omega) rfl rfl fun w2 o2 k2 z2 => ?_
   rw [Int.toNat_natCast, zB5] at o2
   have e5 : (fun k : Fin 16 => if k.val = i' then xadd g f y ⟨i', hc⟩ else if k.val < i' then xadd g f y k else f k) = fun k => if k.val < i' + 1 then xadd g f y k else f k := by
    funext k
    by_cases h1 : k.val = i'
    ·rw [if_pos h1, if_pos (by omega)]
     have : k = ⟨i', hc⟩ := Fin.ext h1
     rw [this]
    ·rw [if_neg h1]
     by_cases h2 : k.val < i'
     ·rw [if_pos h2, if_pos (by omega)]
     ·rw [if_neg h2, if_neg (by omega)]
   rw [e5] at o2
   have e3 : IntKind.wrap .i64 ((i' : Int) + 1) = ((i' + 1 : Nat) : Int) := by rw [zW (by omega) (by omega)]; omega
   refine ⟨_, by show (16 - IntKind.wrap .i64 ((i' : Int) + 1)).toNat < (16 - (i' : Int)).toNat; rw [e3]; omega, ⟨i' + 1, e3, by omega, o2, (k1.dr d).trans (k2.mono fun k hk => ?_)⟩, rfl⟩
   injection hk with hk
   injection hk with hk
   exact hk.symm
  ·have hc : i' = 16 := by
    have : ¬ (i' : Int) < ((16 : Nat) : Int) := by simpa using hc
    omega
   subst hc
   have e : (fun k : Fin 16 => if k.val < 16 then xadd g f y k else f k) = xadd g f y := by
    funext k
    rw [if_pos k.isLt]
   rw [e] at o1
   exact zF.2 (hK w1 o1 k1)
theorem kK (w : World) : ∃ w', (Instr.makeSlice 22 (.int .i64 16) (.int .i64 16)).run Tryz.prog w = .ok (.slice (some ⟨w.heap.size, 0, none⟩) 16 16) w' ∧ OwnL zU w' w.heap.size 5 (some ⟨w.heap.size, 0, none⟩) 16 16 (secB (sec [])) ∧ Keep (fun _ => False) w w' ∧ w'.heap.size = w.heap.size + 1 :=
 gC (P := Tryz.prog) (L := zU) (x0 := 0) (t := 22) (e := 5) (i := (Tryz.prog.info? 5).get (by kernel_rfl)) (z := ((Tryz.prog.info? 5).get (by kernel_rfl)).zero.get (by kernel_rfl)) w (by kernel_rfl) (by kernel_rfl) (by kernel_rfl) (by kernel_rfl) (by kernel_rfl) 16 (by decide) (by rw [show ((Tryz.prog.info? 5).get (by kernel_rfl)).bytes = 1 by kernel_rfl]; decide) (by decide)
def SumT (colsp : Option Addr) (colsl : Nat) (p : Option Addr) (l c : Nat) (p1 : Option Addr) (l1 c1 : Nat) (w : World) (R : Value → World → Prop) : Prop :=
 yC (σ := Int × Unit) (fun _ s1 w K1 => Cb (decide (s1.1 < ((colsl : Nat) : Int))) (IdxS colsp colsl s1.1
 1 fun b o => LdV b o (At w) fun v2 => OpS v2 fun p2 l2 c2 => zB Tryz.prog 183 #[.slice p l c, .slice p2 l2 c2, .int .u8 1] w fun v3 w => zB Tryz.prog 185 #[.int .i64
 s1.1] w fun v4 w => OpI .u8 v4 fun n1 => zB Tryz.prog 183 #[.slice p1 l1 c1, .slice p2 l2 c2, .int .u8 n1] w fun v5 w => K1 (IntKind.wrap .i64 (s1.1 + 1), ()) w) (Ret []
 (R (.tuple #[.slice p l c, .slice p1 l1 c1]) w))) (0, ()) w
theorem sumT {w0 : World} {colsp : Option Addr} {colsl bp bq : Nat} {hs : List (Option Addr × Nat × Nat)} {Cs : List (Option Sec)} (hc : Cols w0 colsp colsl hs Cs) (hl : colsl ≤ 200) (k0 : Keep (fun _ => False) w0 w) (hbp : w0.heap.size ≤ bp) (hbq : w0.heap.size ≤ bq) (hne : bp ≠ bq)
  (hp : OwnL zU w w0.heap.size 5 (some ⟨bp, 0, none⟩) 16 16 (secB (sec []))) (hq : OwnL zU w w0.heap.size 5 (some ⟨bq, 0, none⟩) 16 16 (secB (sec [])))
  (hK : ∀ w', OwnL zU w' w0.heap.size 5 (some ⟨bp, 0, none⟩) 16 16 (secB (sumP Cs)) → OwnL zU w' w0.heap.size 5 (some ⟨bq, 0, none⟩) 16 16 (secB (sumQ Cs)) → Keep (fun _ => False) w0 w' → R (.tuple #[.slice (some ⟨bp, 0, none⟩) 16 16, .slice (some ⟨bq, 0, none⟩) 16 16]) w') :
  SumT colsp colsl (some ⟨bp, 0, none⟩) 16 16 (some ⟨bq, 0, none⟩) 16 16 w R := by
 unfold SumT
 have hlen := hc.sl.1
 have hlc := hc.len
 refine zP (σ := Int × Unit) (fun st w' => ∃ i : Nat, st.1 = (i : Int) ∧ i ≤ colsl ∧ OwnL zU w' w0.heap.size 5 (some ⟨bp, 0, none⟩) 16 16 (secB (sumI (fun _ => 1) Cs i)) ∧ OwnL zU w' w0.heap.size 5 (some ⟨bq, 0, none⟩) 16 16 (secB (sumI expN Cs i)) ∧ Keep (fun _ => False) w0 w') (fun st _ => (colsl - st.1).toNat)
  ⟨0, rfl, by omega, hp, hq, k0⟩ ?_
 rintro _ ⟨i, u⟩ w1 ⟨i', hi, hil, o1, o2, k1⟩
 simp only at hi ⊢
 subst hi
 refine zN (fun hcc => ?_) (fun hcc => ?_)
 ·have hcc : i' < colsl := by
   have : (i' : Int) < (colsl : Int) := by simpa using hcc
   omega
  obtain ⟨h, hh⟩ : ∃ h, hs[i']? = some h := ⟨_, List.getElem?_eq_getElem (by omega)⟩
  obtain ⟨C, hC⟩ : ∃ C, Cs[i']? = some C := ⟨_, List.getElem?_eq_getElem (by omega)⟩
  have hcat := hc.at_ i' h C hh hC
  have hcok := hc.ok C (List.mem_of_getElem? hC)
  have hblk : ∀ b' o, h.1 = some ⟨b', o, none⟩ → b' < w0.heap.size := by
   intro b' o hp
   cases C with
   | none =>
    have : h = (none, 0, 0) := hcat
    rw [this] at hp
    cases hp
   | some f =>
    obtain ⟨_, _, _, hs4⟩ := hcat
    rw [hp] at hs4
    exact SlL.zLg hs4 (by omega)
  have hg : Cs.getD i' none = C := by rw [List.getD_eq_getElem?_getD, hC]; rfl
  refine (hc.sl.yA k1 (by simp)).ld0 (i := (i' : Int)) (n := 1) (x := h) (v := .slice h.1 h.2.1 h.2.2) rfl (by omega) (by simpa using hh) rfl (zC.2 ?_)
  refine zFe (g := 1) o1 (vH (fun _ => by omega) hc.ok i') (hcat.yA k1 (by simp)) hcok (by omega) (fun b' o hp => by have := hblk b' o hp; omega) fun w2 o3 k2 => ?_
  refine zJi (by omega) (zA.2 ?_)
  have k02 : Keep (fun _ => False) w0 w2 := k1.trans' k2 fun k hk e => by omega
  have o2' : OwnL zU w2 w0.heap.size 5 (some ⟨bq, 0, none⟩) 16 16 (secB (sumI expN Cs i')) := o2.keep k2 fun k hk e => by
   injection hk with hk
   injection hk with hk
   omega
  refine zFe (g := expN i') o2' (vH vU hc.ok i') (hcat.yA k02 (by simp)) hcok (vU i') (fun b' o hp => by have := hblk b' o hp; omega) fun w3 o4 k3 => ?_
  have o3' : OwnL zU w3 w0.heap.size 5 (some ⟨bp, 0, none⟩) 16 16 (secB (NK 1 (sumI (fun _ => 1) Cs i') C)) := o3.keep k3 fun k hk e => by
   injection hk with hk
   injection hk with hk
   omega
  have e3 : IntKind.wrap .i64 ((i' : Int) + 1) = ((i' + 1 : Nat) : Int) := by rw [zW (by omega) (by omega)]; omega
  refine ⟨_, by show ((colsl : Int) - IntKind.wrap .i64 ((i' : Int) + 1)).toNat < ((colsl : Int) - (i' : Int)).toNat; rw [e3]; omega, ⟨i' + 1, e3, by omega, ?_, ?_, k02.trans' k3 fun k hk e => by omega⟩, rfl⟩
  ·show OwnL zU w3 _ _ _ 16 16 (secB (NK 1 (sumI (fun _ => 1) Cs i') (Cs.getD i' none)))
   rw [hg]; exact o3'
  ·show OwnL zU w3 _ _ _ 16 16 (secB (NK (expN i') (sumI expN Cs i') (Cs.getD i' none)))
   rw [hg]; exact o4
 ·have hcc : i' = colsl := by
   have : ¬ (i' : Int) < (colsl : Int) := by simpa using hcc
   omega
  have e : i' = Cs.length := by omega
  rw [e] at o1 o2
  exact zF.2 (hK w1 o1 o2 k1)
theorem zFd {colsp : Option Addr} {colsl colsc : Nat} {hs : List (Option Addr × Nat × Nat)} {Cs : List (Option Sec)} (hc : Cols w colsp colsl hs Cs) (hl : colsl ≤ 200)
  (hK : ∀ bp bq w', bp ≠ bq → w.heap.size ≤ bp → w.heap.size ≤ bq → OwnL zU w' w.heap.size 5 (some ⟨bp, 0, none⟩) 16 16 (secB (sumP Cs)) → OwnL zU w' w.heap.size 5 (some ⟨bq, 0, none⟩) 16 16 (secB (sumQ Cs)) → Keep (fun _ => False) w w' → R (.tuple #[.slice (some ⟨bp, 0, none⟩) 16 16, .slice (some ⟨bq, 0, none⟩) 16 16]) w') :
  zB Tryz.prog 182 #[.slice colsp colsl colsc, .int .i64 16] w R := by
 apply OP
 unfold WO
 intro d
 have kd := Keep.drew (fun _ => False) w d
 refine ⟨fun _ => True, trivial, ?_, ?_⟩
 ·obtain ⟨w1, hr1, o1, k1, z1⟩ := kK (w.dr d)
  refine ⟨_, _, hr1, zC.2 ⟨trivial, ?_⟩⟩
  obtain ⟨w2, hr2, o2, k2, z2⟩ := kK w1
  refine ⟨_, _, hr2, zC.2 ⟨trivial, ?_⟩⟩
  have z1 : w1.heap.size = w.heap.size + 1 := z1
  have e0 : (w.dr d).heap.size = w.heap.size := rfl
  rw [e0] at o1
  exact sumT hc hl ((kd.trans k1).trans k2) (by rw [e0]; omega) (by omega) (by rw [e0]; omega) (o1.keep k2 (by simp)) (o2.y5 (by omega)) fun w3 o3 o4 k3 => hK _ _ w3 (by rw [e0]; omega) (by rw [e0]; omega) (by omega) o3 o4 k3
 ·obtain ⟨w1, hr1, o1, k1, z1⟩ := kK (w.dr d)
  refine ⟨_, _, hr1, zC.2 ⟨trivial, ?_⟩⟩
  obtain ⟨w2, hr2, o2, k2, z2⟩ := kK w1
  refine ⟨_, _, hr2, zC.2 ⟨trivial, ?_⟩⟩
  have z1 : w1.heap.size = w.heap.size + 1 := z1
  have e0 : (w.dr d).heap.size = w.heap.size := rfl
  rw [e0] at o1
  exact sumT hc hl ((kd.trans k1).trans k2) (by omega) (by rw [e0]; omega) (by rw [e0]; omega) (o2.y5 (by omega)) (o1.keep k2 (by simp)) fun w3 o3 o4 k3 => hK _ _ w3 (by rw [e0]; omega) (by omega) (by rw [e0]; omega) o3 o4 k3
theorem zFc {colsp mp : Option Addr} {colsl colsc ml mc : Nat} {hs hs2 : List (Option Addr × Nat × Nat)} {Cs Ms : List (Option Sec)} (hc : Cols w colsp colsl hs Cs) (hm : Cols w mp ml hs2 Ms) (h1 : 1 ≤ colsl) (h2 : colsl ≤ 30) (hml : ml ≤ 10) (hsome : ∃ f, some f ∈ Cs ++ Ms)
  (hK : ∀ w', Keep (fun _ => False) w w' → R (.tuple #[.int .i64 16, .int .i64 ((xA (Cs ++ Ms) : Nat) : Int)]) w') :
  zB Tryz.prog 180 #[.slice colsp colsl colsc, .slice mp ml mc] w R := by
 apply HT
 unfold YH
 rw [decide_eq_false (show ¬ ((colsl : Nat) : Int) < 1 by omega)]
 refine (zH (p := _)).2 ?_
 rw [decide_eq_false (show ¬ ((colsl : Nat) : Int) > 30 by omega)]
 refine (zH (p := _)).2 ?_
 refine ⟨_, _, zNj _ _ _ _ _ _ w, zC.2 ?_⟩
 have k1 := Keep.new (fun _ => False) w (.cells #[.slice colsp colsl colsc, .slice mp ml mc] 187)
 have hb1 := Has.new w (.cells #[.slice colsp colsl colsc, .slice mp ml mc] 187)
 generalize w.alloc (.cells #[.slice colsp colsl colsc, .slice mp ml mc] 187) = w1 at *
 have hc1 := hc.yA k1 (by simp)
 have hm1 := hm.yA k1 (by simp)
 refine zNf hb1 hc1.sl hm1.sl (by omega) (by omega) fun p c w2 o2 k2 => ?_
 refine zC.2 ?_
 have k02 := k1.trans k2
 have e1 := hc.sl.1
 have e2 := hm.sl.1
 have e3 := hc.len
 have e4 := hm.len
 have hat : ∀ (i : Nat) h C, (hs ++ hs2)[i]? = some h → (Cs ++ Ms)[i]? = some C → uN w2 h C := by
  intro i h C hh hC
  by_cases hi : i < hs.length
  ·rw [List.getElem?_append_left hi] at hh
   rw [List.getElem?_append_left (by omega)] at hC
   exact (hc.at_ i h C hh hC).keep k02
  ·rw [List.getElem?_append_right (by omega)] at hh
   rw [List.getElem?_append_right (by omega), ← e3] at hC
   exact (hm.at_ _ h C hh hC).keep k02
 have hll : (hs ++ hs2).length = (Cs ++ Ms).length := by simp [e3, e4]
 have hl200 : (hs ++ hs2).length ≤ 200 := by rw [List.length_append]; omega
 generalize hs ++ hs2 = H at *
 generalize Cs ++ Ms = Z at *
 have tk : ∀ {k : Nat} {C : Option Sec}, Z[k]? = some C → Z.take (k + 1) = Z.take k ++ [C] := fun h => by rw [List.take_add_one, h]; rfl
 refine zP (σ := Int × Int × Int × Unit) (fun st w' => w' = w2 ∧ ∃ i : Nat, st.2.2.1 = (i : Int) ∧ i ≤ H.length ∧ st.2.1 = ((xA (Z.take i) : Nat) : Int) ∧ ((st.1 = 16 ∧ ∃ f, some f ∈ Z.take i) ∨ (st.1 = 0 ∧ ∀ f, some f ∉ Z.take i))) (fun st _ => (H.length - st.2.2.1).toNat)
  ⟨rfl, 0, rfl, by omega, rfl, Or.inr ⟨rfl, by simp⟩⟩ ?_
 rintro _ ⟨n, lo, i, u⟩ w3 ⟨hw, i', hi, hil, hlo, hn⟩
 simp only at hi hlo hn ⊢
 subst hi hlo
 rw [hw]
 clear hw
 refine zN (fun hcc => ?_) (fun hcc => ?_)
 ·have hcc : i' < H.length := by
   have : (i' : Int) < (H.length : Int) := by simpa using hcc
   omega
  obtain ⟨h, hh⟩ : ∃ h, H[i']? = some h := ⟨_, List.getElem?_eq_getElem hcc⟩
  obtain ⟨C, hC⟩ : ∃ C, Z[i']? = some C := ⟨_, List.getElem?_eq_getElem (by omega)⟩
  have hcat := hat i' h C hh hC
  have hlt := NX (Z.take i')
  rw [List.length_take] at hlt
  have e5 : IntKind.wrap .i64 ((i' : Int) + 1) = ((i' + 1 : Nat) : Int) := by rw [zW (by omega) (by omega)]; omega
  have hmu : ((H.length : Int) - IntKind.wrap .i64 ((i' : Int) + 1)).toNat < ((H.length : Int) - (i' : Int)).toNat := by rw [e5]; omega
  refine o2.ld0 (i := (i' : Int)) (n := 1) (x := h) (v := .slice h.1 h.2.1 h.2.2) rfl (by omega) (by simpa using hh) rfl (zC.2 ?_)
  have htk := tk hC
  cases C with
  | none =>
   have hcat : h = (none, 0, 0) := hcat
   subst hcat
   refine (zT (q := _)).2 ?_
   have e6 : IntKind.wrap .i64 (((xA (Z.take i') : Nat) : Int) + 1) = ((xA (Z.take (i' + 1)) : Nat) : Int) := by
    rw [zW (by omega) (by omega), htk, vO]
    show _ = ((xA (Z.take i') + 1 : Nat) : Int)
    omega
   refine ⟨_, hmu, ⟨by trivial, i' + 1, e5, by omega, e6, ?_⟩, rfl⟩
   rcases hn with ⟨h1, f, h2⟩ | ⟨h1, h2⟩
   ·exact Or.inl ⟨h1, f, by rw [htk]; simp [h2]⟩
   ·exact Or.inr ⟨h1, fun f hf => by rw [htk] at hf; simp at hf; exact h2 f hf⟩
  | some f =>
   obtain ⟨_, hl16, _, _⟩ := hcat
   rw [hl16]
   refine (zH (p := _)).2 ?_
   have e6 : ((xA (Z.take i') : Nat) : Int) = ((xA (Z.take (i' + 1)) : Nat) : Int) := by
    rw [htk, vO]
    show _ = ((xA (Z.take i') + 0 : Nat) : Int)
    rfl
   rcases hn with ⟨h1, f', h2⟩ | ⟨h1, h2⟩
   ·subst h1
    refine (zH (p := _)).2 ((zH (p := _)).2 ?_)
    exact ⟨_, hmu, ⟨by trivial, i' + 1, e5, by omega, e6, Or.inl ⟨rfl, f, by rw [htk]; simp⟩⟩, rfl⟩
   ·subst h1
    refine (zT (q := _)).2 ?_
    exact ⟨_, hmu, ⟨by trivial, i' + 1, e5, by omega, e6, Or.inl ⟨rfl, f, by rw [htk]; simp⟩⟩, rfl⟩
 ·have hcc : i' = H.length := by
   have : ¬ (i' : Int) < (H.length : Int) := by simpa using hcc
   omega
  subst hcc
  have e7 : Z.take H.length = Z := List.take_of_length_le (by omega)
  rw [e7] at hn ⊢
  rcases hn with ⟨h1, _⟩ | ⟨_, h2⟩
  ·subst h1
   exact (zH (p := _)).2 (zF.2 (hK w2 k02))
  ·obtain ⟨f, hf⟩ := hsome
   exact absurd hf (h2 f)
theorem zIq {colsp : Option Addr} {colsl colsc : Nat} {hs : List (Option Addr × Nat × Nat)} {Cs : List (Option Sec)} (hc : Cols w colsp colsl hs Cs) (h1 : 1 ≤ colsl) (h2 : colsl ≤ 30) (hall : xA Cs = 0)
  (hK : ∀ bp bq w', bp ≠ bq → w.heap.size ≤ bp → w.heap.size ≤ bq → OwnL zU w' w.heap.size 5 (some ⟨bp, 0, none⟩) 16 16 (secB (sumP Cs)) → OwnL zU w' w.heap.size 5 (some ⟨bq, 0, none⟩) 16 16 (secB (sumQ Cs)) → Keep (fun _ => False) w w' → R (.tuple #[.slice (some ⟨bp, 0, none⟩) 16 16, .slice (some ⟨bq, 0, none⟩) 16 16, .int .i64 0]) w') :
  zB Tryz.prog 115 #[.slice colsp colsl colsc] w R := by
 apply HA
 unfold gU
 have hll := hc.sl.1
 have hlc := hc.len
 have hsome : ∃ f, some f ∈ Cs ++ [] := by
  have h0 : 0 < Cs.length := by omega
  rw [List.append_nil]
  cases hC : Cs[0] with
  | some f => exact ⟨f, by rw [← hC]; exact List.getElem_mem _⟩
  | none =>
   have : none ∈ Cs.filter Option.isNone := List.mem_filter.2 ⟨by rw [← hC]; exact List.getElem_mem _, rfl⟩
   have h3 : 0 < (Cs.filter Option.isNone).length := List.length_pos_of_mem this
   unfold xA at hall
   omega
 refine zFc (mp := none) (ml := 0) (mc := 0) (hs2 := []) (Ms := []) hc ⟨SlL.nil, rfl, by simp, by simp⟩ h1 h2 (by omega) hsome fun w1 k1 => ?_
 rw [List.append_nil, hall]
 refine yM.2 (zA.2 (zA.2 ⟨rfl, rfl, (zH (p := _)).2 ?_⟩))
 refine zFd (hc.yA k1 (by simp)) (by omega) fun bp bq w2 hne hbp hbq o1 o2 k2 => ?_
 refine yM.2 (zC.2 (zC.2 (zF.2 ?_)))
 have := k1.size
 exact hK bp bq w2 hne (by omega) (by omega) (o1.y5 this) (o2.y5 this) (k1.trans k2)
end calls
def wJ : Option (Option Sec) → Bool
 | some none => true
 | _ => false
theorem MK {C : Option (Option Sec)} : wJ C = true ↔ C = some none := by
 cases C with
 | none => simp [wJ]
 | some x => cases x <;> simp [wJ]
def kB (Cs : List (Option Sec)) : Nat → List Int
 | 0 => []
 | k + 1 => kB Cs k ++ (if wJ Cs[k]? = true then [(k : Int)] else [])
def xY (Cs : List (Option Sec)) : List Int := kB Cs Cs.length
theorem wD (Cs : List (Option Sec)) : ∀ k, ∀ x ∈ kB Cs k, ∃ n : Nat, x = (n : Int) ∧ n < k ∧ Cs[n]? = some none
 | 0, x, h => by simp [kB] at h
 | k + 1, x, h => by
  unfold kB at h
  rcases List.mem_append.1 h with h | h
  ·obtain ⟨n, h1, h2, h3⟩ := wD Cs k x h
   exact ⟨n, h1, by omega, h3⟩
  ·split at h
   ·rename_i hn
    rw [List.mem_singleton.1 h]
    exact ⟨k, rfl, by omega, MK.1 hn⟩
   ·simp at h
theorem X4 (Cs : List (Option Sec)) : ∀ k, k ≤ Cs.length → (kB Cs k).length = xA (Cs.take k)
 | 0, _ => by simp [kB, xA]
 | k + 1, h => by
  have ih := X4 Cs k (by omega)
  obtain ⟨C, hC⟩ : ∃ C, Cs[k]? = some C := ⟨_, List.getElem?_eq_getElem (by omega)⟩
  unfold kB
  rw [List.length_append, ih, List.take_add_one, hC, vO]
  cases C with
  | none => rw [if_pos (show wJ (some none) = true from rfl)]; rfl
  | some f => rw [if_neg (by simp [wJ])]; rfl
theorem gL (Cs : List (Option Sec)) : (xY Cs).length = xA Cs := by
 unfold xY
 rw [X4 Cs _ (Nat.le_refl _), List.take_of_length_le (Nat.le_refl _)]
theorem jP (Cs : List (Option Sec)) : ∀ k, (kB Cs k).Pairwise (· < ·)
 | 0 => by simp [kB]
 | k + 1 => by
  unfold kB
  rw [List.pairwise_append]
  refine ⟨jP Cs k, by split <;> simp, fun x hx y hy => ?_⟩
  obtain ⟨n, h1, h2, _⟩ := wD Cs k x hx
  split at hy
  ·rw [List.mem_singleton.1 hy]; omega
  ·simp at hy
def YV (Cs : List (Option Sec)) (Pc : Option Sec) : Sec := NK 1 (sumP Cs) Pc
def ZT (Cs : List (Option Sec)) (Qc : Option Sec) : Sec := NK 1 (sumQ Cs) Qc
def solX (i j s t : Nat) : Nat := gmN (powN (gmN 1 (expN j) ^^^ gmN 1 (expN i)) 254) (gmN (expN j) s ^^^ gmN 1 t)
def solY (i j s t : Nat) : Nat := gmN (powN (gmN 1 (expN j) ^^^ gmN 1 (expN i)) 254) (gmN 1 t ^^^ gmN (expN i) s)
def secX (i j : Nat) (S T : Sec) : Sec := fun k => ((solX i j (S k).toNat (T k).toNat : Nat) : Int)
def secY (i j : Nat) (S T : Sec) : Sec := fun k => ((solY i j (S k).toNat (T k).toNat : Nat) : Int)
def fixC (Cs : List (Option Sec)) (Pc Qc : Option Sec) : List (Option Sec) :=
 match xY Cs with
 | [i] => if Pc.isSome = true then Cs.set i.toNat (some (YV Cs Pc)) else Cs.set i.toNat (some (xadd (powN (expN i.toNat) 254) (sec []) (ZT Cs Qc)))
 | [i, j] => (Cs.set i.toNat (some (secX i.toNat j.toNat (YV Cs Pc) (ZT Cs Qc)))).set j.toNat (some (secY i.toNat j.toNat (YV Cs Pc) (ZT Cs Qc)))
 | _ => Cs
theorem ZL (Cs : List (Option Sec)) (Pc Qc : Option Sec) : (fixC Cs Pc Qc).length = Cs.length := by
 unfold fixC
 split
 ·split <;> simp
 ·simp
 ·rfl
theorem NV {Cs : List (Option Sec)} {Pc : Option Sec} (h : ∀ C ∈ Cs, u5 C) (hp : u5 Pc) : yD (YV Cs Pc) ∧ yD (ZT Cs Pc) :=
 ⟨NJ (by omega) (vH (fun _ => by omega) h _) hp, NJ (by omega) (vH vU h _) hp⟩
theorem zLz {i j s t : Nat} : solX i j s t < 256 := xK (gE (xQ (xK (by omega)) (xK (by omega))))
theorem zLy {i j s t : Nat} : solY i j s t < 256 := xK (gE (xQ (xK (by omega)) (xK (by omega))))
theorem zEm (i j : Nat) (S T : Sec) : yD (secX i j S T) := fun k => by
 have : solX i j (S k).toNat (T k).toNat < 256 := zLz
 unfold secX; omega
theorem zEl (i j : Nat) (S T : Sec) : yD (secY i j S T) := fun k => by
 have : solY i j (S k).toNat (T k).toNat < 256 := zLy
 unfold secY; omega
theorem mem_set {α : Type} {l : List α} {i : Nat} {a x : α} (h : x ∈ l.set i a) : x = a ∨ x ∈ l := by
 rcases List.mem_or_eq_of_mem_set h with h | h
 ·exact Or.inr h
 ·exact Or.inl h
theorem zA0 {Cs : List (Option Sec)} {Pc Qc : Option Sec} (h : ∀ C ∈ Cs, u5 C) (hp : u5 Pc) (hq : u5 Qc) : ∀ C ∈ fixC Cs Pc Qc, u5 C := by
 intro C hC
 unfold fixC at hC
 split at hC
 ·split at hC
  ·rcases mem_set hC with rfl | hC
   ·exact (NV h hp).1
   ·exact h C hC
  ·rcases mem_set hC with rfl | hC
   ·exact QP (gE (vU _)) kO (NV h hq).2
   ·exact h C hC
 ·rcases mem_set hC with rfl | hC
  ·exact zEl _ _ _ _
  ·rcases mem_set hC with rfl | hC
   ·exact zEm _ _ _ _
   ·exact h C hC
 ·exact h C hC
def nLay : Lay Int := ⟨1, fun y => [.int .i64 y], fun _ => rfl, fun y v hv => by rw [List.mem_singleton.1 hv]; rfl, by decide⟩
theorem zPd : LayT Tryz.prog nLay 69 3 8 := ⟨by kernel_rfl, ⟨(Tryz.prog.info? 3).get (by kernel_rfl), ((Tryz.prog.info? 3).get (by kernel_rfl)).zero.get (by kernel_rfl), by kernel_rfl, by kernel_rfl, by kernel_rfl, by kernel_rfl, by kernel_rfl⟩⟩
theorem zLc (x : Int) (w : World) : (Instr.buildSlice 69 1 #[(0, .int .i64 x)]).run Tryz.prog w = .ok (.slice (some ⟨w.heap.size, 0, none⟩) 1 1) (w.alloc (.cells #[.int .i64 x] 3)) :=
 run_buildSlice w 69 3 1 _ #[.int .i64 x] ((Tryz.prog.info? 3).get (by kernel_rfl)) (((Tryz.prog.info? 3).get (by kernel_rfl)).zero.get (by kernel_rfl)) (by kernel_rfl) (by kernel_rfl) (by kernel_rfl) (by decide +kernel) (by decide +kernel) (by kernel_rfl)
theorem OwnL.ne {α β : Type} {L : Lay α} {M : Lay β} {w : World} {b1 b2 : Nat} {e1 e2 : TypeId} {p q : Option Addr} {l c m d : Nat} {xs : List α} {ys : List β} (h1 : OwnL L w b1 e1 p l c xs) (h2 : OwnL M w b2 e2 q m d ys) (hne : e1 ≠ e2) {k : Nat} (hp : p = some ⟨k, 0, none⟩) : ¬ q = some ⟨k, 0, none⟩ := by
 intro hq
 rcases Own.cases h1 with ⟨h0, _⟩ | ⟨b', cur, h0, _, hg, _⟩
 ·rw [h0] at hp; cases hp
 ·rcases Own.cases h2 with ⟨g0, _⟩ | ⟨b2', cur2, g0, _, hg2, _⟩
  ·rw [g0] at hq; cases hq
  ·rw [h0] at hp; cases hp
   rw [g0] at hq; cases hq
   have := Has.inj hg hg2
   simp only [Obj.cells.injEq] at this
   exact hne this.2.1
def TwoT (pg : Option Addr) (lg : Nat) (ps : Option Addr) (ls : Nat) (pt : Option Addr) (lt : Nat) (px : Option Addr) (lx cx : Nat) (py : Option Addr) (ly cy : Nat) (pa : Option Addr) (la : Nat) (w : World) (J : Unit → World → Prop) : Prop :=
 yC (σ := Int × Unit) (fun _ s4 w K4 => Cb (decide (s4.1 < 16)) (yJ w fun S w => IdxS pg lg 0 1 fun b6 o6 => LdV b6 o6 S fun v26 => OpI .i64 v26 fun n8 => IdxS pg lg 1 1 fun b7 o7 => LdV b7 o7 S fun v27 => OpI .i64 v27 fun n9 => IdxS ps ls s4.1 1 fun b8 o8 => LdV
 b8 o8 S fun v28 => OpI .u8 v28 fun n10 => IdxS pt lt s4.1 1 fun b9 o9 => LdV b9 o9 S fun v29 => OpI .u8 v29 fun n11 => zB Tryz.prog 185 #[.int .i64 n8] w fun v30 w => OpI
 .u8 v30 fun n12 => Hld (S w) (zB Tryz.prog 185 #[.int .i64 n9] w fun v31 w => OpI .u8 v31 fun n13 => Hld (S w) (zB Tryz.prog 186 #[.int .u8 1, .int .u8 1, .int .u8 n12,
 .int .u8 n13, .int .u8 n10, .int .u8 n11] w fun v32 w => T3 v32 fun v33 v34 v35 => OpI .u8 v33 fun n14 => OpI .u8 v34 fun n15 => OpI .i64 v35 fun n16 => Hld (S w) (IdxS
 px lx s4.1 1 fun b10 o10 => StV b10 o10 (.int .u8 n14) w fun w => Hld (S w) (IdxS py ly s4.1 1 fun b11 o11 => StV b11 o11 (.int .u8 n15) w fun w => Hld (S w) (K4
 (IntKind.wrap .i64 (s4.1 + 1), ()) w)))))) (yJ w fun S w => IdxS pg lg 0 1 fun b12 o12 => LdV b12 o12 (At w) fun v36 => OpI .i64 v36 fun n17 => IdxS
 pg lg 1 1 fun b13 o13 => LdV b13 o13 (At w) fun v37 => OpI .i64 v37 fun n18 => IdxS pa la n17 1 fun b14 o14 => StV b14 o14 (.slice px lx cx) w
 fun w => Hld (S w) (IdxS pa la n18 1 fun b15 o15 => StV b15 o15 (.slice py ly cy) w fun w => Hld (S w) (J () w)))) (0, ()) w
section calls
variable {w : World}
theorem twoT {base : Nat} {pg pa : Option Addr} {cg la ca bs bt bx by_ i j : Nat} {Hs : List (Option Addr × Nat × Nat)} {S T : Sec} {J : Unit → World → Prop} (hS : yD S) (hT : yD T) (hi : i < 30) (hj : j < 30) (hij : i ≠ j) (hia : i < la) (hja : j < la)
  (og : OwnL nLay w base 3 pg 2 cg [(i : Int), (j : Int)]) (os : OwnL zU w base 5 (some ⟨bs, 0, none⟩) 16 16 (secB S)) (ot : OwnL zU w base 5 (some ⟨bt, 0, none⟩) 16 16 (secB T))
  (ox : OwnL zU w base 5 (some ⟨bx, 0, none⟩) 16 16 (secB (sec []))) (oy : OwnL zU w base 5 (some ⟨by_, 0, none⟩) 16 16 (secB (sec []))) (oa : OwnL hLay w base 22 pa la ca Hs)
  (nxy : bx ≠ by_) (nxs : bx ≠ bs) (nxt : bx ≠ bt) (nys : by_ ≠ bs) (nyt : by_ ≠ bt)
  (hK : ∀ w', OwnL hLay w' base 22 pa la ca ((Hs.set i (some ⟨bx, 0, none⟩, 16, 16)).set j (some ⟨by_, 0, none⟩, 16, 16)) → OwnL zU w' base 5 (some ⟨bx, 0, none⟩) 16 16 (secB (secX i j S T)) → OwnL zU w' base 5 (some ⟨by_, 0, none⟩) 16 16 (secB (secY i j S T)) → Keep (fun k => k = bx ∨ k = by_ ∨ pa = some ⟨k, 0, none⟩) w w' → J () w') :
  TwoT pg 2 (some ⟨bs, 0, none⟩) 16 (some ⟨bt, 0, none⟩) 16 (some ⟨bx, 0, none⟩) 16 16 (some ⟨by_, 0, none⟩) 16 16 pa la w J := by
 unfold TwoT
 have gx : ¬ pg = some ⟨bx, 0, none⟩ := OwnL.ne ox og (by decide) rfl
 have gy : ¬ pg = some ⟨by_, 0, none⟩ := OwnL.ne oy og (by decide) rfl
 refine zP (σ := Int × Unit) (fun st w' => ∃ k : Nat, st.1 = (k : Int) ∧ k ≤ 16 ∧ OwnL zU w' base 5 (some ⟨bx, 0, none⟩) 16 16 (secB fun a => if a.val < k then secX i j S T a else sec [] a) ∧ OwnL zU w' base 5 (some ⟨by_, 0, none⟩) 16 16 (secB fun a => if a.val < k then secY i j S T a else sec [] a) ∧ Keep (fun k => k = bx ∨ k = by_) w w') (fun st _ => (16 - st.1).toNat)
  ⟨0, rfl, by omega, by simpa using ox, by simpa using oy, Keep.refl _ _⟩ ?_
 rintro _ ⟨k, u⟩ w1 ⟨k', hk, hkl, x1, y1, k1⟩
 simp only at hk ⊢
 subst hk
 have og1 := og.keep k1 fun a ha hb => by
  rcases hb with e | e
  ·exact gx (e ▸ ha)
  ·exact gy (e ▸ ha)
 have os1 := os.keep k1 fun a ha hb => by
  injection ha with ha
  injection ha with ha
  omega
 have ot1 := ot.keep k1 fun a ha hb => by
  injection ha with ha
  injection ha with ha
  omega
 refine zN (fun hc => ?_) (fun hc => ?_)
 ·have hc : k' < 16 := by
   have : (k' : Int) < 16 := by simpa using hc
   omega
  intro d
  have kd := Keep.drew (fun _ => False) w1 d
  have C0 : OwnL nLay (w1.dr d) base 3 pg 2 cg [(i : Int), (j : Int)] ∧ OwnL zU (w1.dr d) base 5 (some ⟨bs, 0, none⟩) 16 16 (secB S) ∧ OwnL zU (w1.dr d) base 5 (some ⟨bt, 0, none⟩) 16 16 (secB T) := ⟨og1.keep kd (by simp), os1.keep kd (by simp), ot1.keep kd (by simp)⟩
  refine ⟨fun w' => OwnL nLay w' base 3 pg 2 cg [(i : Int), (j : Int)] ∧ OwnL zU w' base 5 (some ⟨bs, 0, none⟩) 16 16 (secB S) ∧ OwnL zU w' base 5 (some ⟨bt, 0, none⟩) 16 16 (secB T), C0, ?_⟩
  have hgs := uR S hc
  have hgt := uR T hc
  refine SlL.ldSd C0 (fun w' hw => hw.1.sl) (i := 0) (x := (i : Int)) (n := 1) (v := .int .i64 (i : Int)) rfl (by omega) rfl rfl (zA.2 ?_)
  refine SlL.ldSd C0 (fun w' hw => hw.1.sl) (i := 1) (x := (j : Int)) (n := 1) (v := .int .i64 (j : Int)) rfl (by omega) rfl rfl (zA.2 ?_)
  refine SlL.ldSd C0 (fun w' hw => hw.2.1.sl) (i := (k' : Int)) (x := S ⟨k', hc⟩) (n := 1) (v := .int .u8 (S ⟨k', hc⟩)) rfl (by omega) (by rw [Int.toNat_natCast]; exact hgs) rfl (zA.2 ?_)
  refine SlL.ldSd C0 (fun w' hw => hw.2.2.sl) (i := (k' : Int)) (x := T ⟨k', hc⟩) (n := 1) (v := .int .u8 (T ⟨k', hc⟩)) rfl (by omega) (by rw [Int.toNat_natCast]; exact hgt) rfl (zA.2 ?_)
  refine zJi (by omega) (zA.2 ⟨C0, ?_⟩)
  refine zJi (by omega) (zA.2 ⟨C0, ?_⟩)
  have nS := vN (hS ⟨k', hc⟩)
  have nT := vN (hT ⟨k', hc⟩)
  have hdet : gmN 1 (expN j) ^^^ gmN 1 (expN i) ≠ 0 := by rw [gM uE, gM uE]; exact zL1 hi hj hij
  have eM : ∀ K, zB Tryz.prog 186 #[.int .u8 1, .int .u8 1, .int .u8 ((expN i : Nat) : Int), .int .u8 ((expN j : Nat) : Int), .int .u8 (((S ⟨k', hc⟩).toNat : Nat) : Int), .int .u8 (((T ⟨k', hc⟩).toNat : Nat) : Int)] (w1.dr d) K → zB Tryz.prog 186 #[.int .u8 1, .int .u8 1, .int .u8 ((expN i : Nat) : Int), .int .u8 ((expN j : Nat) : Int), .int .u8 (S ⟨k', hc⟩), .int .u8 (T ⟨k', hc⟩)] (w1.dr d) K := by
   intro K h
   rw [← nS.1, ← nT.1] at h
   exact h
  refine eM _ ?_
  refine zN0 uE uE nS.2 nT.2 hdet ?_
  refine LS.2 (zA.2 (zA.2 (zA.2 ⟨C0, ?_⟩)))
  have hgx := uR (fun a => if a.val < k' then secX i j S T a else sec [] a) hc
  have hgy := uR (fun a => if a.val < k' then secY i j S T a else sec [] a) hc
  refine (x1.keep kd (by simp)).stF (i := (k' : Int)) (n := 1) (t := 0) (y := secX i j S T ⟨k', hc⟩) rfl (by omega) (by rw [Int.toNat_natCast]; exact hgx) (by omega) rfl rfl fun w2 x2 k2 z2 => ?_
  have k2' : Keep (fun a => a = bx) (w1.dr d) w2 := k2.mono fun a ha => by
   injection ha with ha
   injection ha with ha
   exact ha.symm
  have C2 : OwnL nLay w2 base 3 pg 2 cg [(i : Int), (j : Int)] ∧ OwnL zU w2 base 5 (some ⟨bs, 0, none⟩) 16 16 (secB S) ∧ OwnL zU w2 base 5 (some ⟨bt, 0, none⟩) 16 16 (secB T) :=
   ⟨C0.1.keep k2' (fun a ha e => gx (e ▸ ha)), C0.2.1.keep k2' (fun a ha e => by injection ha with ha; injection ha with ha; omega), C0.2.2.keep k2' (fun a ha e => by injection ha with ha; injection ha with ha; omega)⟩
  refine ⟨C2, ?_⟩
  have y2 := (y1.keep kd (by simp)).keep k2' (fun a ha e => by injection ha with ha; injection ha with ha; omega)
  refine y2.stF (i := (k' : Int)) (n := 1) (t := 0) (y := secY i j S T ⟨k', hc⟩) rfl (by omega) (by rw [Int.toNat_natCast]; exact hgy) (by omega) rfl rfl fun w3 y3 k3 z3 => ?_
  have k3' : Keep (fun a => a = by_) w2 w3 := k3.mono fun a ha => by
   injection ha with ha
   injection ha with ha
   exact ha.symm
  have C3 : OwnL nLay w3 base 3 pg 2 cg [(i : Int), (j : Int)] ∧ OwnL zU w3 base 5 (some ⟨bs, 0, none⟩) 16 16 (secB S) ∧ OwnL zU w3 base 5 (some ⟨bt, 0, none⟩) 16 16 (secB T) :=
   ⟨C2.1.keep k3' (fun a ha e => gy (e ▸ ha)), C2.2.1.keep k3' (fun a ha e => by injection ha with ha; injection ha with ha; omega), C2.2.2.keep k3' (fun a ha e => by injection ha with ha; injection ha with ha; omega)⟩
  refine ⟨C3, ?_⟩
  have x3 := x2.keep k3' (fun a ha e => by injection ha with ha; injection ha with ha; omega)
  rw [Int.toNat_natCast, zB5] at x3 y3
  have st : ∀ F : Sec, (fun a : Fin 16 => if a.val = k' then F ⟨k', hc⟩ else if a.val < k' then F a else sec [] a) = fun a => if a.val < k' + 1 then F a else sec [] a := by
   intro F
   funext a
   by_cases h1 : a.val = k'
   ·rw [if_pos h1, if_pos (by omega)]
    have : a = ⟨k', hc⟩ := Fin.ext h1
    rw [this]
   ·rw [if_neg h1]
    by_cases h2 : a.val < k'
    ·rw [if_pos h2, if_pos (by omega)]
    ·rw [if_neg h2, if_neg (by omega)]
  rw [st] at x3 y3
  have e3 : IntKind.wrap .i64 ((k' : Int) + 1) = ((k' + 1 : Nat) : Int) := by rw [zW (by omega) (by omega)]; omega
  exact ⟨_, by show (16 - IntKind.wrap .i64 ((k' : Int) + 1)).toNat < (16 - (k' : Int)).toNat; rw [e3]; omega, ⟨k' + 1, e3, by omega, x3, y3, ((k1.dr d).trans (k2'.mono fun a h => Or.inl h)).trans (k3'.mono fun a h => Or.inr h)⟩, rfl⟩
 ·have hc : k' = 16 := by
   have : ¬ (k' : Int) < 16 := by simpa using hc
   omega
  subst hc
  have ex : ∀ F : Sec, (fun a : Fin 16 => if a.val < 16 then F a else sec [] a) = F := fun F => by funext a; rw [if_pos a.isLt]
  rw [ex] at x1 y1
  intro d
  have kd := Keep.drew (fun _ => False) w1 d
  refine ⟨fun _ => True, trivial, ?_⟩
  refine (og1.keep kd (by simp)).ld0 (i := 0) (n := 1) (x := (i : Int)) (v := .int .i64 (i : Int)) rfl (by omega) rfl rfl (zA.2 ?_)
  refine (og1.keep kd (by simp)).ld0 (i := 1) (n := 1) (x := (j : Int)) (v := .int .i64 (j : Int)) rfl (by omega) rfl rfl (zA.2 ?_)
  have ax : ¬ pa = some ⟨bx, 0, none⟩ := OwnL.ne ox oa (by decide) rfl
  have ay : ¬ pa = some ⟨by_, 0, none⟩ := OwnL.ne oy oa (by decide) rfl
  have oa1 := (oa.keep k1 fun a ha hb => by
   rcases hb with e | e
   ·exact ax (e ▸ ha)
   ·exact ay (e ▸ ha)).keep kd (by simp)
  have hla := oa.length
  obtain ⟨h0, hh0⟩ : ∃ h0, Hs[i]? = some h0 := ⟨_, List.getElem?_eq_getElem (by omega)⟩
  refine oa1.stF (i := (i : Int)) (n := 1) (t := 0) (x := h0) (y := (some ⟨bx, 0, none⟩, 16, 16)) rfl (by omega) (by rw [Int.toNat_natCast]; exact hh0) (by omega) rfl rfl fun w2 a2 k2 z2 => ?_
  rw [Int.toNat_natCast] at a2
  refine ⟨trivial, ?_⟩
  obtain ⟨h1, hh1⟩ : ∃ h1, (Hs.set i (some ⟨bx, 0, none⟩, 16, 16))[j]? = some h1 := ⟨_, List.getElem?_eq_getElem (by rw [List.length_set]; omega)⟩
  refine a2.stF (i := (j : Int)) (n := 1) (t := 0) (x := h1) (y := (some ⟨by_, 0, none⟩, 16, 16)) rfl (by omega) (by rw [Int.toNat_natCast]; exact hh1) (by omega) rfl rfl fun w3 a3 k3 z3 => ?_
  rw [Int.toNat_natCast] at a3
  refine ⟨trivial, ?_⟩
  have k13 := (kd.mono (S' := fun k => pa = some ⟨k, 0, none⟩) fun _ h => h.elim).trans (k2.trans k3)
  refine hK w3 a3 (x1.keep k13 fun a ha hb => ?_) (y1.keep k13 fun a ha hb => ?_) ((k1.mono fun a ha => ?_).trans (k13.mono fun a ha => Or.inr (Or.inr ha)))
  ·cases ha; exact ax hb
  ·cases ha; exact ay hb
  ·rcases ha with e | e
   ·exact Or.inl e
   ·exact Or.inr (Or.inl e)
end calls
def yP (w : World) (base : Nat) (h : Option Addr × Nat × Nat) : Option Sec → Prop
 | none => h = (none, 0, 0)
 | some f => h.2.1 = 16 ∧ OwnL zU w base 5 h.1 16 h.2.2 (secB f)
theorem zMs {α : Type} : ∀ {l : List α}, l.length = 2 → ∃ x y, l = [x, y]
 | [x, y], _ => ⟨x, y, rfl⟩
theorem yP.at_ {w : World} {base : Nat} {h : Option Addr × Nat × Nat} : ∀ {C : Option Sec}, yP w base h C → uN w h C
 | none, hc => hc
 | some f, ⟨h1, h2⟩ => by
  obtain ⟨b, cur, e, _⟩ := h2.cells (by omega)
  exact ⟨⟨b, 0, e⟩, h1, h2.cap.1, h2.sl⟩
theorem yP.keep {w w' : World} {base : Nat} {h : Option Addr × Nat × Nat} : ∀ {C : Option Sec}, yP w base h C → Keep (fun _ => False) w w' → yP w' base h C
 | none, hc, _ => hc
 | some f, ⟨h1, h2⟩, k => ⟨h1, h2.keep k (by simp)⟩
theorem yP.zPl {w w' : World} {base : Nat} {h : Option Addr × Nat × Nat} {S : Nat → Prop} : ∀ {C : Option Sec}, yP w base h C → Keep S w w' → (∀ f k, C = some f → h.1 = some ⟨k, 0, none⟩ → ¬ S k) → yP w' base h C
 | none, hc, _, _ => hc
 | some f, ⟨h1, h2⟩, k, hS => ⟨h1, h2.keep k fun a ha => hS f a rfl ha⟩
theorem yP.hdr {w w' : World} {base b2 : Nat} {h : Option Addr × Nat × Nat} {C : Option Sec} {p : Option Addr} {l c : Nat} {e : TypeId} {α : Type} {L : Lay α} {Hs : List α} (hc : yP w base h C) (ho : OwnL L w b2 e p l c Hs) (he : e ≠ 5) (k : Keep (fun k => p = some ⟨k, 0, none⟩) w w') : yP w' base h C := by
 refine hc.zPl k fun f a hf ha => ?_
 subst hf
 exact OwnL.ne hc.2 ho (fun e' => he e'.symm) ha
structure All (w : World) (base : Nat) (p : Option Addr) (l c : Nat) (Z : List (Option Sec)) : Prop where
 ex : ∃ Hs, OwnL hLay w base 22 p l c Hs ∧ Hs.length = Z.length ∧ (∀ (k : Nat) h C, Hs[k]? = some h → Z[k]? = some C → yP w base h C) ∧ ∀ C ∈ Z, u5 C
theorem All.keep {w w' : World} {base : Nat} {p : Option Addr} {l c : Nat} {Z : List (Option Sec)} (h : All w base p l c Z) (k : Keep (fun _ => False) w w') : All w' base p l c Z := by
 obtain ⟨Hs, h1, h2, h3, h4⟩ := h.ex
 exact ⟨Hs, h1.keep k (by simp), h2, fun i a C x y => (h3 i a C x y).keep k, h4⟩
theorem All.cols {w : World} {base : Nat} {p : Option Addr} {l c : Nat} {Z : List (Option Sec)} (h : All w base p l c Z) : ∃ Hs, Cols w p l Hs Z := by
 obtain ⟨Hs, h1, h2, h3, h4⟩ := h.ex
 exact ⟨Hs, h1.sl, h2, fun i a C x y => (h3 i a C x y).at_, h4⟩
theorem uN.of {w : World} {base b c : Nat} {e : TypeId} {F : Sec} (h : OwnL zU w base e (some ⟨b, 0, none⟩) 16 c (secB F)) : uN w (some ⟨b, 0, none⟩, 16, c) (some F) :=
 ⟨⟨b, 0, rfl⟩, rfl, h.cap.1, h.sl⟩
theorem yP.set {w : World} {base : Nat} {Hs : List (Option Addr × Nat × Nat)} {Z : List (Option Sec)} (hl : Hs.length = Z.length) (hat : ∀ (i : Nat) h C, Hs[i]? = some h → Z[i]? = some C → yP w base h C) (i : Nat) {h : Option Addr × Nat × Nat} {C : Option Sec} (hc : yP w base h C) :
  ∀ (k : Nat) h' C', (Hs.set i h)[k]? = some h' → (Z.set i C)[k]? = some C' → yP w base h' C' := by
 intro k h' C' h1 h2
 by_cases hk : i = k
 ·subst hk
  have hlt : i < (Hs.set i h).length := (List.getElem?_eq_some_iff.1 h1).1
  rw [List.length_set] at hlt
  rw [List.getElem?_set_self hlt] at h1
  rw [List.getElem?_set_self (by omega)] at h2
  cases h1
  cases h2
  exact hc
 ·rw [List.getElem?_set_ne hk] at h1 h2
  exact hat k h' C' h1 h2
def recP (Cs : List (Option Sec)) (Pc Qc : Option Sec) : Sec := Pc.getD (sumP (fixC Cs Pc Qc))
def recQ (Cs : List (Option Sec)) (Pc Qc : Option Sec) : Sec := Qc.getD (sumQ (fixC Cs Pc Qc))
def zO1 (pa : Option Addr) (la ca : Nat) (pp : Option Addr) (pl pc : Nat) (qp : Option Addr) (ql qc : Nat) (w : World) (R : Value → World → Prop) : Prop :=
 zB Tryz.prog 181 #[.slice pp pl pc] w
 fun v88 w => OpS v88 fun p19 l19 c19 => zB Tryz.prog 181 #[.slice qp ql qc] w fun v89 w => OpS v89 fun p20 l20 c20 => zB Tryz.prog 182 #[.slice pa la ca,
 .int .i64 16] w fun v90 w => T2 v90 fun v91 v92 => OpS v91 fun p21 l21 c21 => OpS v92 fun p22 l22 c22 => xV (σ := (Option Addr × Nat × Nat) × Unit) (fun J8 => Cb (((pl :
 Nat) : Int) == 0) (J8 ((p21, l21, c21), ()) w) (J8 ((p19, l19, c19), ()) w)) (fun _ s8 w => xV (σ := (Option Addr × Nat × Nat) × Unit) (fun J9 => Cb (((ql : Nat) : Int)
 == 0) (J9 ((p22, l22, c22), ()) w) (J9 ((p20, l20, c20), ()) w)) (fun _ s9 w => Ret [] (R (.tuple #[.slice pa la ca, .slice s8.1.1 s8.1.2.1 s8.1.2.2,
 .slice s9.1.1 s9.1.2.1 s9.1.2.2, .int .i64 0]) w)))
section calls
variable {w : World} {R : Value → World → Prop}
theorem zQr {base : Nat} {pa : Option Addr} {la ca : Nat} {hp hq : Option Addr × Nat × Nat} {Pc Qc : Option Sec} {Z : List (Option Sec)} (ha : All w base pa la ca Z) (hla : la ≤ 200) (cp : uN w hp Pc) (cq : uN w hq Qc)
  (hK : ∀ h1 h2 w', All w' base pa la ca Z → yP w' 0 h1 (some (Pc.getD (sumP Z))) → yP w' 0 h2 (some (Qc.getD (sumQ Z))) → Keep (fun _ => False) w w' → R (.tuple #[.slice pa la ca, .slice h1.1 h1.2.1 h1.2.2, .slice h2.1 h2.2.1 h2.2.2, .int .i64 0]) w') :
  zO1 pa la ca hp.1 hp.2.1 hp.2.2 hq.1 hq.2.1 hq.2.2 w R := by
 unfold zO1
 refine TV cp fun h1 w1 c1 ow1 k1 => zC.2 ?_
 refine TV (cq.keep k1) fun h2 w2 c2 ow2 k2 => zC.2 ?_
 have k02 := k1.trans k2
 obtain ⟨Hs, hc⟩ := (ha.keep k02).cols
 refine zFd hc hla fun bp bq w3 hne hbp hbq o1 o2 k3 => ?_
 refine yM.2 (zC.2 (zC.2 ?_))
 have k03 := k02.trans k3
 refine ⟨fun st w' => w' = w3 ∧ yP w3 0 st.1 (some (Pc.getD (sumP Z))), ?_, ?_⟩
 ·cases Pc with
  | none =>
   have cp : hp = (none, 0, 0) := cp
   rw [cp]
   exact (zT (q := _)).2 ⟨rfl, rfl, o1.y5 (Nat.zero_le _)⟩
  | some f =>
   have : hp.2.1 = 16 := cp.2.1
   rw [this]
   exact (zH (p := _)).2 ⟨rfl, c1.2.1, (((ow1 f rfl).y5 (Nat.zero_le _)).keep k2 (by simp)).keep k3 (by simp)⟩
 rintro _ ⟨g1, u⟩ w4 ⟨hw, cg1⟩
 rw [hw]
 clear hw
 refine ⟨fun st w' => w' = w3 ∧ yP w3 0 st.1 (some (Qc.getD (sumQ Z))), ?_, ?_⟩
 ·cases Qc with
  | none =>
   have cq : hq = (none, 0, 0) := cq
   rw [cq]
   exact (zT (q := _)).2 ⟨rfl, rfl, o2.y5 (Nat.zero_le _)⟩
  | some f =>
   have : hq.2.1 = 16 := cq.2.1
   rw [this]
   exact (zH (p := _)).2 ⟨rfl, c2.2.1, ((ow2 f rfl).y5 (Nat.zero_le _)).keep k3 (by simp)⟩
 rintro _ ⟨g2, u⟩ w5 ⟨hw, cg2⟩
 rw [hw]
 clear hw
 exact zF.2 (hK g1 g2 w3 (ha.keep k03) cg1 cg2 k03)
theorem zFf {colsp : Option Addr} {colsl colsc : Nat} {hs : List (Option Addr × Nat × Nat)} {Cs : List (Option Sec)} {hp hq : Option Addr × Nat × Nat} {Pc Qc : Option Sec} (hc : Cols w colsp colsl hs Cs) (h1 : 1 ≤ colsl) (h2 : colsl ≤ 30) (cp : uN w hp Pc) (cq : uN w hq Qc) (okp : u5 Pc) (okq : u5 Qc)
  (hlost : xA Cs + xA [Pc, Qc] ≤ 2)
  (hK : ∀ pa ca g1 g2 w', All w' w.heap.size pa colsl ca (fixC Cs Pc Qc) → yP w' 0 g1 (some (recP Cs Pc Qc)) → yP w' 0 g2 (some (recQ Cs Pc Qc)) → Keep (fun _ => False) w w' → R (.tuple #[.slice pa colsl ca, .slice g1.1 g1.2.1 g1.2.2, .slice g2.1 g2.2.1 g2.2.2, .int .i64 0]) w') :
  zB Tryz.prog 110 #[.slice colsp colsl colsc, .slice hp.1 hp.2.1 hp.2.2, .slice hq.1 hq.2.1 hq.2.2] w R := by
 apply UY
 unfold wL
 have hll := hc.sl.1
 have hlc := hc.len
 refine ⟨_, _, zLd _ _ _ _ _ _ w, zC.2 ?_⟩
 have k1 := Keep.new (fun _ => False) w (.cells #[.slice hp.1 hp.2.1 hp.2.2, .slice hq.1 hq.2.1 hq.2.2] 22)
 have hb1 := Has.new w (.cells #[.slice hp.1 hp.2.1 hp.2.2, .slice hq.1 hq.2.1 hq.2.2] 22)
 generalize hw1 : w.alloc (.cells #[.slice hp.1 hp.2.1 hp.2.2, .slice hq.1 hq.2.1 hq.2.2] 22) = w1 at *
 have hc1 := hc.yA k1 (by simp)
 have o1 : OwnL hLay w1 w.heap.size 22 (some ⟨w.heap.size, 0, none⟩) 2 2 [hp, hq] := OwnL.mk (xs := [hp, hq]) (Nat.le_refl _) hb1 (by simp [maxLen]) rfl
 have hm1 : Cols w1 (some ⟨w.heap.size, 0, none⟩) 2 [hp, hq] [Pc, Qc] := by
  refine ⟨o1.sl, rfl, fun i h C hh hC => ?_, ?_⟩
  ·match i, hh, hC with
   | 0, hh, hC => cases hh; cases hC; exact cp.keep k1
   | 1, hh, hC => cases hh; cases hC; exact cq.keep k1
   | i + 2, hh, hC => simp at hh
  ·intro C hC
   simp only [List.mem_cons, List.not_mem_nil, or_false] at hC
   rcases hC with rfl | rfl
   ·exact okp
   ·exact okq
 have hsome : ∃ f, some f ∈ Cs ++ [Pc, Qc] := by
  refine Classical.byContradiction fun hn => ?_
  have : xA (Cs ++ [Pc, Qc]) = (Cs ++ [Pc, Qc]).length := by
   unfold xA
   rw [List.filter_eq_self.2]
   intro C hC
   cases C with
   | none => rfl
   | some f => exact absurd ⟨f, hC⟩ hn
  rw [vO, List.length_append] at this
  simp only [List.length_cons, List.length_nil] at this
  omega
 refine zFc hc1 hm1 h1 h2 (by omega) hsome fun w2 k2 => ?_
 rw [vO]
 refine yM.2 (zA.2 (zA.2 ((zH (p := _)).2 ?_)))
 rw [decide_eq_false (by omega)]
 refine (zH (p := _)).2 ?_
 have k02 := k1.trans k2
 have hc2 := hc.yA k02 (by simp)
 refine zP (σ := (Option Addr × Nat × Nat) × (Option Addr × Nat × Nat) × Int × Unit) (fun st w' => ∃ (i : Nat) (Hs : List (Option Addr × Nat × Nat)), st.2.2.1 = (i : Int) ∧ i ≤ colsl ∧ OwnL hLay w' w.heap.size 22 st.1.1 st.1.2.1 st.1.2.2 Hs ∧ Hs.length = i ∧ (∀ (k : Nat) h C, Hs[k]? = some h → Cs[k]? = some C → yP w' w.heap.size h C) ∧ OwnL nLay w' w.heap.size 3 st.2.1.1 st.2.1.2.1 st.2.1.2.2 (kB Cs i) ∧ Keep (fun _ => False) w w') (fun st _ => (colsl - st.2.2.1).toNat)
  ⟨0, [], rfl, by omega, OwnL.nil, rfl, by simp, OwnL.nil, k02⟩ ?_
 rintro _ ⟨⟨pa, la, ca⟩, ⟨pg, lg, cg⟩, i, u⟩ w3 ⟨i', Hs, hi, hil, oa, hHl, hat, og, k3⟩
 simp only at hi oa og ⊢
 subst hi
 have hc3 := hc.yA k3 (by simp)
 refine zN (fun hcc => ?_) (fun hcc => ?_)
 ·have hcc : i' < colsl := by
   have : (i' : Int) < (colsl : Int) := by simpa using hcc
   omega
  obtain ⟨h, hh⟩ : ∃ h, hs[i']? = some h := ⟨_, List.getElem?_eq_getElem (by omega)⟩
  obtain ⟨C, hC⟩ : ∃ C, Cs[i']? = some C := ⟨_, List.getElem?_eq_getElem (by omega)⟩
  have hcat := hc3.at_ i' h C hh hC
  refine hc3.sl.ld0 (i := (i' : Int)) (n := 1) (x := h) (v := .slice h.1 h.2.1 h.2.2) rfl (by omega) (by simpa using hh) rfl (zC.2 ?_)
  refine TV hcat fun h' w4 c4 o4 k4 => zC.2 ?_
  refine ⟨_, _, zLe _ _ _ w4, zC.2 ?_⟩
  have k5 := Keep.new (fun _ => False) w4 (.cells #[.slice h'.1 h'.2.1 h'.2.2] 22)
  have hb5 := Has.new w4 (.cells #[.slice h'.1 h'.2.1 h'.2.2] 22)
  generalize w4.alloc (.cells #[.slice h'.1 h'.2.1 h'.2.2] 22) = w5 at *
  have k35 := k4.trans k5
  have hla := oa.length
  have z3 := k3.size
  have z5 := k35.size
  obtain ⟨p6, c6, w6, hr6, o6, k6, hp6⟩ := yK zJf (oa.keep k35 (by simp)) (y := h') hb5 rfl (ty := 187) (by omega) (by simp only [maxLen]; omega) (by omega) (c2 := 1)
  refine ⟨_, _, hr6, zC.2 ?_⟩
  have hat5 : ∀ (k : Nat) g D, Hs[k]? = some g → Cs[k]? = some D → yP w6 w.heap.size g D := fun k g D h1 h2 => ((hat k g D h1 h2).keep k35).hdr (oa.keep k35 (by simp)) (by decide) k6
  have own5 : yP w6 w.heap.size h' C := by
   have h5 : yP w5 w.heap.size h' C := by
    cases C with
    | none => exact c4
    | some f => exact ⟨c4.2.1, ((o4 f rfl).y5 z3).keep k5 (by simp)⟩
   exact h5.hdr (oa.keep k35 (by simp)) (by decide) k6
  have og6 : OwnL nLay w6 w.heap.size 3 pg lg cg (kB Cs i') := (og.keep k35 (by simp)).keep k6 fun k hk he => OwnL.ne (og.keep k35 (by simp)) (oa.keep k35 (by simp)) (by decide) hk he
  have k36 : Keep (fun _ => False) w w6 := (k3.trans k35).trans' k6 fun k hk he => by have := (oa.lt he).1; omega
  have e3 : IntKind.wrap .i64 ((i' : Int) + 1) = ((i' + 1 : Nat) : Int) := by rw [zW (by omega) (by omega)]; omega
  have hat6 : ∀ (k : Nat) g D, (Hs ++ [h'])[k]? = some g → Cs[k]? = some D → yP w6 w.heap.size g D := by
   intro k g D h1 h2
   by_cases hk : k < Hs.length
   ·rw [List.getElem?_append_left hk] at h1
    exact hat5 k g D h1 h2
   ·rw [List.getElem?_append_right (by omega)] at h1
    have hk0 : k - Hs.length = 0 := by
     have := (List.getElem?_eq_some_iff.1 h1).1
     simp at this
     omega
    rw [hk0] at h1
    cases h1
    have : k = i' := by omega
    subst this
    rw [hC] at h2
    cases h2
    exact own5
  refine ⟨fun st w' => OwnL hLay w' w.heap.size 22 p6 (la + 1) c6 (Hs ++ [h']) ∧ (∀ (k : Nat) g D, (Hs ++ [h'])[k]? = some g → Cs[k]? = some D → yP w' w.heap.size g D) ∧ OwnL nLay w' w.heap.size 3 st.1.1 st.1.2.1 st.1.2.2 (kB Cs (i' + 1)) ∧ Keep (fun _ => False) w w', ?_, ?_⟩
  ·have hgs : kB Cs (i' + 1) = kB Cs i' ++ (if wJ Cs[i']? = true then [(i' : Int)] else []) := rfl
   cases C with
   | none =>
    have : h = (none, 0, 0) := hcat
    subst this
    refine (zT (q := _)).2 ?_
    refine ⟨_, _, zLc _ w6, zC.2 ?_⟩
    have k7 := Keep.new (fun _ => False) w6 (.cells #[.int .i64 (i' : Int)] 3)
    have hb7 := Has.new w6 (.cells #[.int .i64 (i' : Int)] 3)
    generalize w6.alloc (.cells #[.int .i64 (i' : Int)] 3) = w7 at *
    have hlg := og.length
    have hlgl : (kB Cs i').length ≤ i' := by rw [X4 Cs i' (by omega)]; exact Nat.le_trans (NX _) (by rw [List.length_take]; omega)
    have z6 := k36.size
    have z7 := k7.size
    obtain ⟨p8, c8, w8, hr8, o8, k8, hp8⟩ := yK zPd (og6.keep k7 (by simp)) (y := (i' : Int)) hb7 rfl (ty := 69) (by omega) (by simp only [maxLen]; omega) (by omega) (c2 := 1)
    refine ⟨_, _, hr8, zC.2 ⟨?_, ?_, ?_, ?_⟩⟩
    ·exact (o6.keep k7 (by simp)).keep k8 fun k hk he => OwnL.ne (o6.keep k7 (by simp)) (og6.keep k7 (by simp)) (by decide) hk he
    ·exact fun k g D h1 h2 => ((hat6 k g D h1 h2).keep k7).hdr (og6.keep k7 (by simp)) (by decide) k8
    ·rw [hgs, hC, if_pos (show wJ (some none) = true from rfl)]; exact o8
    ·exact (k36.trans k7).trans' k8 fun k hk he => by have := (og6.lt he).1; omega
   | some f =>
    have : h.2.1 = 16 := hcat.2.1
    rw [this]
    refine (zH (p := _)).2 ⟨o6, hat6, ?_, k36⟩
    rw [hgs, hC, if_neg (by simp [wJ]), List.append_nil]; exact og6
  rintro _ ⟨⟨p9, l9, c9⟩, u⟩ w9 ⟨a9, b9, d9, k9⟩
  exact ⟨_, by show ((colsl : Int) - IntKind.wrap .i64 ((i' : Int) + 1)).toNat < ((colsl : Int) - (i' : Int)).toNat; rw [e3]; omega, ⟨i' + 1, Hs ++ [h'], e3, by omega, a9, by simp [hHl], b9, d9, k9⟩, rfl⟩
 ·have hcc : i' = colsl := by
   have : ¬ (i' : Int) < (colsl : Int) := by simpa using hcc
   omega
  have hla : la = colsl := by have := oa.length; omega
  subst hla
  have hi'C : i' = Cs.length := by omega
  have hgl : kB Cs i' = xY Cs := by rw [hi'C]; rfl
  rw [hgl] at og
  have hglen := gL Cs
  have hglg := og.length
  have hSok := NV hc.ok okp
  have hTok := NV hc.ok okq
  refine zFd hc3 (by omega) fun bp bq w4 hne hbp hbq os ot k4 => ?_
  refine yM.2 (zC.2 (zC.2 ?_))
  have z3 := k3.size
  have k04 := k3.trans k4
  have blk : ∀ {h : Option Addr × Nat × Nat} {C : Option Sec}, uN w h C → ∀ b o, h.1 = some ⟨b, o, none⟩ → b < w.heap.size := by
   intro h C hcat b o hpp
   cases C with
   | none =>
    have : h = (none, 0, 0) := hcat
    rw [this] at hpp
    cases hpp
   | some f =>
    obtain ⟨_, _, _, hs4⟩ := hcat
    rw [hpp] at hs4
    exact SlL.zLg hs4 (by omega)
  refine zFe (g := 1) os (vH (fun _ => by omega) hc.ok _) (cp.yA k04 (by simp)) okp (by omega) (fun b' o hpp => by have := blk cp b' o hpp; omega) fun w5 os5 k5 => ?_
  have ot5 := ot.keep k5 fun k hk he => by
   injection hk with hk
   injection hk with hk
   omega
  have k05 : Keep (fun _ => False) w w5 := k04.trans' k5 fun k hk he => by omega
  refine zFe (g := 1) ot5 (vH vU hc.ok _) (cq.yA k05 (by simp)) okq (by omega) (fun b' o hpp => by have := blk cq b' o hpp; omega) fun w6 ot6 k6 => ?_
  have os6 := os5.keep k6 fun k hk he => by
   injection hk with hk
   injection hk with hk
   omega
  have k06 : Keep (fun _ => False) w w6 := k05.trans' k6 fun k hk he => by omega
  have k36 : Keep (fun _ => False) w3 w6 := (k4.trans' k5 fun k hk he => by omega).trans' k6 fun k hk he => by omega
  have os6 : OwnL zU w6 w.heap.size 5 (some ⟨bp, 0, none⟩) 16 16 (secB (YV Cs Pc)) := os6.y5 z3
  have ot6 : OwnL zU w6 w.heap.size 5 (some ⟨bq, 0, none⟩) 16 16 (secB (ZT Cs Qc)) := ot6.y5 z3
  have oa6 := oa.keep k36 (by simp)
  have og6 := og.keep k36 (by simp)
  have hat6 : ∀ (k : Nat) h C, Hs[k]? = some h → Cs[k]? = some C → yP w6 w.heap.size h C := fun k h C h1 h2 => (hat k h C h1 h2).keep k36
  have fin : ∀ {w7 : World}, All w7 w.heap.size pa la ca (fixC Cs Pc Qc) → Keep (fun _ => False) w w7 → zO1 pa la ca hp.1 hp.2.1 hp.2.2 hq.1 hq.2.1 hq.2.2 w7 R := by
   intro w7 hA k7
   refine zQr hA (by omega) (cp.yA k7 (by simp)) (cq.yA k7 (by simp)) fun g1 g2 w8 hA8 c1 c2 k8 => ?_
   exact hK pa ca g1 g2 w8 hA8 c1 c2 (k7.trans k8)
  refine ⟨fun _ w7 => All w7 w.heap.size pa la ca (fixC Cs Pc Qc) ∧ Keep (fun _ => False) w w7, ?_, ?_⟩
  rotate_left
  ·rintro _ u w7 ⟨hA, k7⟩
   exact fin hA k7
  have hokF := zA0 (Pc := Pc) (Qc := Qc) hc.ok okp okq
  have one : ∀ {i : Nat} {F : Sec} {b7 : Nat} {w7 : World}, xY Cs = [(i : Int)] → fixC Cs Pc Qc = Cs.set i (some F) → OwnL zU w7 w.heap.size 5 (some ⟨b7, 0, none⟩) 16 16 (secB F) → Keep (fun _ => False) w w7 → OwnL hLay w7 w.heap.size 22 pa la ca Hs → OwnL nLay w7 w.heap.size 3 pg lg cg (xY Cs) → (∀ (k : Nat) h C, Hs[k]? = some h → Cs[k]? = some C → yP w7 w.heap.size h C) →
    IdxS pg lg 0 1 fun b1 o1 => LdV b1 o1 (At w7) fun v15 => OpI .i64 v15 fun n2 => IdxS pa la n2 1 fun b2 o2 => StV b2 o2 (.slice (some ⟨b7, 0, none⟩) 16 16) w7 fun w8 => All w8 w.heap.size pa la ca (fixC Cs Pc Qc) ∧ Keep (fun _ => False) w w8 := by
   intro i F b7 w7 hG hF oF k7 oa7 og7 hat7
   rw [hG] at og7
   refine og7.ld0 (i := 0) (n := 1) (x := (i : Int)) (v := .int .i64 (i : Int)) rfl (by omega) rfl rfl (zA.2 ?_)
   obtain ⟨n, hn1, hn2, hn3⟩ := wD Cs Cs.length (i : Int) (by show _ ∈ xY Cs; rw [hG]; simp)
   have hni : n = i := by omega
   subst hni
   obtain ⟨h0, hh0⟩ : ∃ h0, Hs[n]? = some h0 := ⟨_, List.getElem?_eq_getElem (by omega)⟩
   refine oa7.stF (i := (n : Int)) (n := 1) (t := 0) (x := h0) (y := (some ⟨b7, 0, none⟩, 16, 16)) rfl (by omega) (by rw [Int.toNat_natCast]; exact hh0) (by omega) rfl rfl fun w8 a8 k8 z8 => ?_
   rw [Int.toNat_natCast] at a8
   have k08 : Keep (fun _ => False) w w8 := k7.trans' k8 fun k hk he => by have := (oa7.lt he).1; omega
   have hF8 : yP w7 w.heap.size (some ⟨b7, 0, none⟩, 16, 16) (some F) := ⟨rfl, oF⟩
   refine ⟨⟨_, a8, by rw [hF, List.length_set, List.length_set]; omega, ?_, hokF⟩, k08⟩
   rw [hF]
   intro k h C h1 h2
   exact (yP.set (by omega) hat7 n hF8 k h C h1 h2).hdr oa7 (by decide) k8
  have hpl : xA [Pc, Qc] = (if Pc.isNone = true then 1 else 0) + (if Qc.isNone = true then 1 else 0) := by
   cases Pc <;> cases Qc <;> rfl
  have gidx : ∀ x ∈ xY Cs, ∃ n : Nat, x = (n : Int) ∧ n < Cs.length ∧ Cs[n]? = some none := fun x hx => wD Cs Cs.length x hx
  have none_ : xY Cs = [] → All w6 w.heap.size pa la ca (fixC Cs Pc Qc) ∧ Keep (fun _ => False) w w6 := by
   intro hG
   have hF : fixC Cs Pc Qc = Cs := by unfold fixC; rw [hG]
   rw [hF]
   exact ⟨⟨Hs, oa6, by omega, hat6, hc.ok⟩, k06⟩
  refine zN (fun h1 => ?_) (fun h1 => ?_)
  ·have h1 : lg = 1 := by
    have : ((lg : Nat) : Int) = 1 := by simpa using h1
    omega
   obtain ⟨i, hG, hi30⟩ : ∃ i : Nat, xY Cs = [(i : Int)] ∧ i < 30 := by
    obtain ⟨x, hx⟩ := List.length_eq_one_iff.1 (show (xY Cs).length = 1 by omega)
    obtain ⟨n, hn, hn2, _⟩ := gidx x (by rw [hx]; simp)
    exact ⟨n, by rw [hx, hn], by omega⟩
   refine zN (fun h2 => ?_) (fun h2 => ?_)
   ·have h2 : hp.2.1 > 0 := by
     have : ((hp.2.1 : Nat) : Int) > 0 := by simpa using h2
     omega
    have hPs : Pc.isSome = true := by
     cases Pc with
     | none =>
      have : hp = (none, 0, 0) := cp
      rw [this] at h2
      simp at h2
     | some f => rfl
    have hF : fixC Cs Pc Qc = Cs.set i (some (YV Cs Pc)) := by
     unfold fixC
     rw [hG]
     simp only [hPs, if_true, Int.toNat_natCast]
    exact one hG hF os6 k06 oa6 og6 hat6
   ·have h2 : ¬ hp.2.1 > 0 := by
     have : ¬ ((hp.2.1 : Nat) : Int) > 0 := by simpa using h2
     omega
    have hPn : Pc.isSome = false := by
     cases Pc with
     | none => rfl
     | some f =>
      have : hp.2.1 = 16 := cp.2.1
      omega
    have hF : fixC Cs Pc Qc = Cs.set i (some (xadd (powN (expN i) 254) (sec []) (ZT Cs Qc))) := by
     unfold fixC
     rw [hG]
     simp only [hPn, Int.toNat_natCast]
     rfl
    rw [h1]
    refine (zT (q := _)).2 ?_
    have og6' := og6
    rw [hG, h1] at og6'
    refine og6'.ld0 (i := 0) (n := 1) (x := (i : Int)) (v := .int .i64 (i : Int)) rfl (by omega) rfl rfl (zA.2 ?_)
    refine zJi (by omega) (zA.2 ?_)
    refine zPq (zGo hi30) uE ?_
    refine yM.2 (zA.2 (zA.2 ?_))
    obtain ⟨w7, hr7, o7, k7, z7⟩ := kK w6
    refine ⟨_, _, hr7, zC.2 ?_⟩
    have ot7 := ot6.keep k7 (by simp)
    have hbq6 : bq < w6.heap.size := by
     have := (ot6.lt rfl).2
     exact this
    refine zFe (g := powN (expN i) 254) (h := (some ⟨bq, 0, none⟩, 16, 16)) (C := some (ZT Cs Qc)) o7 kO (uN.of ot7) hTok.2 (gE uE) (fun b' o hpp => by cases hpp; omega) fun w8 o8 k8 => ?_
    have k68 : Keep (fun _ => False) w6 w8 := k7.trans' k8 fun k hk he => by omega
    have z06 := k06.size
    have := one hG hF (o8.y5 z06) (k06.trans k68) (oa6.keep k68 (by simp)) (og6.keep k68 (by simp)) (fun k h C h1 h2 => (hat6 k h C h1 h2).keep k68)
    rw [h1] at this
    exact this
  ·have h1 : lg ≠ 1 := by
    intro e
    rw [e] at h1
    cases h1
   have h1b : (((lg : Nat) : Int) == 1) = false := by
    rw [beq_eq_false_iff_ne]; omega
   rw [h1b]
   refine (zH (p := _)).2 ?_
   refine zN (fun h2 => ?_) (fun h2 => ?_)
   ·have h2 : lg = 2 := by
     have : ((lg : Nat) : Int) = 2 := by simpa using h2
     omega
    obtain ⟨i, j, hG, hij, hi30, hj30⟩ : ∃ i j : Nat, xY Cs = [(i : Int), (j : Int)] ∧ i ≠ j ∧ i < Cs.length ∧ j < Cs.length := by
     obtain ⟨x, y, hx⟩ : ∃ x y, xY Cs = [x, y] := zMs (show (xY Cs).length = 2 by omega)
     obtain ⟨n, hn, hn2, _⟩ := gidx x (by rw [hx]; simp)
     obtain ⟨m, hm, hm2, _⟩ := gidx y (by rw [hx]; simp)
     have hs := jP Cs Cs.length
     have hs : (xY Cs).Pairwise (· < ·) := hs
     rw [hx] at hs
     have : x < y := by simpa using hs
     exact ⟨n, m, by rw [hx, hn, hm], by omega, hn2, hm2⟩
    have hF : fixC Cs Pc Qc = (Cs.set i (some (secX i j (YV Cs Pc) (ZT Cs Qc)))).set j (some (secY i j (YV Cs Pc) (ZT Cs Qc))) := by
     unfold fixC
     rw [hG]
     simp only [Int.toNat_natCast]
    rw [hG, h2] at og6
    rw [h2]
    have z06 := k06.size
    have hbp6 : bp < w6.heap.size := (os6.lt rfl).2
    have hbq6 : bq < w6.heap.size := (ot6.lt rfl).2
    have two : ∀ {bx by_ : Nat} {w8 : World}, bx ≠ by_ → w6.heap.size ≤ bx → w6.heap.size ≤ by_ → Keep (fun _ => False) w6 w8 → OwnL zU w8 w.heap.size 5 (some ⟨bx, 0, none⟩) 16 16 (secB (sec [])) → OwnL zU w8 w.heap.size 5 (some ⟨by_, 0, none⟩) 16 16 (secB (sec [])) →
      TwoT pg 2 (some ⟨bp, 0, none⟩) 16 (some ⟨bq, 0, none⟩) 16 (some ⟨bx, 0, none⟩) 16 16 (some ⟨by_, 0, none⟩) 16 16 pa la w8 fun _ w7 => All w7 w.heap.size pa la ca (fixC Cs Pc Qc) ∧ Keep (fun _ => False) w w7 := by
     intro bx by_ w8 hxy hx hy k8 ox oy
     refine twoT hSok.1 hTok.2 (by omega) (by omega) hij (by omega) (by omega) (og6.keep k8 (by simp)) (os6.keep k8 (by simp)) (ot6.keep k8 (by simp)) ox oy (oa6.keep k8 (by simp)) hxy (by omega) (by omega) (by omega) (by omega) fun w9 a9 x9 y9 k9 => ?_
     have k09 : Keep (fun _ => False) w w9 := (k06.trans k8).trans' k9 fun k hk he => by
      rcases he with e | e | e
      ·omega
      ·omega
      ·have := (oa6.lt e).1; omega
     have hat9 : ∀ (k : Nat) h C, Hs[k]? = some h → Cs[k]? = some C → yP w9 w.heap.size h C := fun k h C h1 h2 => ((hat6 k h C h1 h2).keep k8).zPl k9 fun f a hf ha he => by
      subst hf
      have hlt := ((hat6 k h (some f) h1 h2).2.lt ha).2
      rcases he with e | e | e
      ·omega
      ·omega
      ·exact OwnL.ne (hat6 k h (some f) h1 h2).2 oa6 (by decide) ha e
     refine ⟨⟨_, a9, by rw [hF]; simp only [List.length_set]; omega, ?_, hokF⟩, k09⟩
     rw [hF]
     refine yP.set (by simp only [List.length_set]; omega) (yP.set (by omega) hat9 i (C := some (secX i j (YV Cs Pc) (ZT Cs Qc))) ⟨rfl, x9⟩) j (C := some (secY i j (YV Cs Pc) (ZT Cs Qc))) ⟨rfl, y9⟩
    intro d
    have kd := Keep.drew (fun _ => False) w6 d
    refine ⟨fun _ => True, trivial, ?_, ?_⟩
    ·obtain ⟨w7, hr7, o7, k7, z7⟩ := kK (w6.dr d)
     refine ⟨_, _, hr7, zC.2 ⟨trivial, ?_⟩⟩
     obtain ⟨w8, hr8, o8, k8, z8⟩ := kK w7
     refine ⟨_, _, hr8, zC.2 ⟨trivial, ?_⟩⟩
     have z7 : w7.heap.size = w6.heap.size + 1 := z7
     have e6 : (w6.dr d).heap.size = w6.heap.size := rfl
     rw [e6] at o7
     exact two (by rw [e6]; omega) (by rw [e6]; omega) (by omega) ((kd.trans k7).trans k8) ((o7.y5 z06).keep k8 (by simp)) (o8.y5 (by omega))
    ·obtain ⟨w7, hr7, o7, k7, z7⟩ := kK (w6.dr d)
     refine ⟨_, _, hr7, zC.2 ⟨trivial, ?_⟩⟩
     obtain ⟨w8, hr8, o8, k8, z8⟩ := kK w7
     refine ⟨_, _, hr8, zC.2 ⟨trivial, ?_⟩⟩
     have z7 : w7.heap.size = w6.heap.size + 1 := z7
     have e6 : (w6.dr d).heap.size = w6.heap.size := rfl
     rw [e6] at o7
     exact two (by rw [e6]; omega) (by omega) (by rw [e6]; omega) ((kd.trans k7).trans k8) (o8.y5 (by omega)) ((o7.y5 z06).keep k8 (by simp))
   ·have h2 : lg = 0 := by
     have : ¬ ((lg : Nat) : Int) = 2 := by simpa using h2
     omega
    refine none_ ?_
    exact List.eq_nil_of_length_eq_zero (by omega)
end calls
def yU (g : Geo) (s : SS) (st off : Int) : List (Option Sec) := (List.range g.d.toNat).map fun (k : Nat) => wF (s.ds.getD (plcP g st off (k : Int)).dk.toNat dsk0) (plcP g st off (k : Int)).at_
theorem uU (g : Geo) (s : SS) (st off : Int) : (yU g s st off).length = g.d.toNat := by simp [yU]
theorem N8 {g : Geo} {s : SS} {st off : Int} {k : Nat} (hk : k < g.d.toNat) : (yU g s st off)[k]? = some (wF (s.ds.getD (plcP g st off (k : Int)).dk.toNat dsk0) (plcP g st off (k : Int)).at_) := by
 unfold yU
 rw [List.getElem?_map, List.getElem?_range hk]; rfl
theorem zJu {D : Dsk} (h : jN D) (a : Int) : u5 (wF D a) := by
 unfold wF
 split
 ·trivial
 ·split
  ·trivial
  ·split
   ·exact (h.get _).1
   ·trivial
theorem zN3 : jN dsk0 := ⟨by simp [dsk0], by decide, by decide⟩
theorem zMz {s : SS} (h : ∀ D ∈ s.ds, jN D) (i : Nat) : jN (s.ds.getD i dsk0) := by
 rw [List.getD_eq_getElem?_getD]
 cases hx : s.ds[i]? with
 | none => exact zN3
 | some x => exact h x (List.mem_of_getElem? hx)
theorem zC7 {g : Geo} {s : SS} {st off : Int} (h : ∀ D ∈ s.ds, jN D) : ∀ C ∈ yU g s st off, u5 C := by
 intro C hC
 unfold yU at hC
 obtain ⟨k, _, rfl⟩ := List.mem_map.1 hC
 exact zJu (zMz h _) _
def rowD (Cs : List (Option Sec)) : List (Option Sec) := Cs.take (Cs.length - 2)
def ZS (Cs : List (Option Sec)) : Option Sec := Cs.getD (Cs.length - 2) none
def ZR (Cs : List (Option Sec)) : Option Sec := Cs.getD (Cs.length - 1) none
def rowR (Cs : List (Option Sec)) : List Sec := (fixC (rowD Cs) (ZS Cs) (ZR Cs)).map (fun C => C.getD (sec [])) ++ [recP (rowD Cs) (ZS Cs) (ZR Cs), recQ (rowD Cs) (ZS Cs) (ZR Cs)]
theorem zEg {Cs : List (Option Sec)} (h : 2 ≤ Cs.length) : Cs = rowD Cs ++ [ZS Cs, ZR Cs] := by
 apply List.ext_getElem?
 intro i
 unfold rowD ZS ZR
 by_cases h1 : i < Cs.length - 2
 ·rw [List.getElem?_append_left (by simp; omega), List.getElem?_take, if_pos h1]
 ·rw [List.getElem?_append_right (by simp; omega), List.length_take, Nat.min_eq_left (by omega)]
  by_cases h2 : i = Cs.length - 2
  ·rw [h2, Nat.sub_self, List.getD_eq_getElem?_getD, List.getElem?_eq_getElem (by omega)]; rfl
  ·by_cases h3 : i = Cs.length - 1
   ·rw [show i - (Cs.length - 2) = 1 by omega, h3, List.getD_eq_getElem?_getD (i := Cs.length - 1), List.getElem?_eq_getElem (by omega)]; rfl
   ·rw [List.getElem?_eq_none (by omega), List.getElem?_eq_none (by simp; omega)]
theorem ME {Cs : List (Option Sec)} (h : 2 ≤ Cs.length) : xA (rowD Cs) + xA [ZS Cs, ZR Cs] = xA Cs := by
 conv => rhs; rw [zEg h]
 rw [vO]
theorem N1 {Cs : List (Option Sec)} (h : 2 ≤ Cs.length) : (rowR Cs).length = Cs.length := by
 unfold rowR
 rw [List.length_append, List.length_map, ZL]
 unfold rowD
 simp; omega
theorem KQ {Cs : List (Option Sec)} : ∀ {k n : Nat}, n < k → Cs[n]? = some none → (n : Int) ∈ kB Cs k
 | 0, n, h, _ => absurd h (by omega)
 | k + 1, n, h, hn => by
  unfold kB
  by_cases hk : n = k
  ·subst hk
   rw [if_pos (MK.2 hn)]
   simp
  ·exact List.mem_append_left _ (KQ (by omega) hn)
theorem QG {Cs : List (Option Sec)} {n : Nat} (h : Cs[n]? = some none) : (n : Int) ∈ xY Cs := KQ (List.getElem?_eq_some_iff.1 h).1 h
theorem zJm {Cs : List (Option Sec)} {Pc Qc : Option Sec} (h : xA Cs ≤ 2) : ∀ C ∈ fixC Cs Pc Qc, ∃ f, C = some f := by
 intro C hC
 have hl := gL Cs
 cases C with
 | some f => exact ⟨f, rfl⟩
 | none =>
  exfalso
  obtain ⟨n, hn⟩ := List.getElem?_of_mem hC
  have key : ∀ {Z : List (Option Sec)}, Z[n]? = some none → Z.length = Cs.length → (∀ m : Nat, (m : Int) ∈ xY Cs → ∃ f, Z[m]? = some (some f)) → (∀ m : Nat, (m : Int) ∉ xY Cs → Z[m]? = Cs[m]?) → False := by
   intro Z h1 h2 h3 h4
   by_cases hm : (n : Int) ∈ xY Cs
   ·obtain ⟨f, hf⟩ := h3 n hm
    rw [h1] at hf; cases hf
   ·rw [h4 n hm] at h1
    exact hm (QG h1)
  have lt : ∀ x ∈ xY Cs, ∃ m : Nat, x = (m : Int) ∧ m < Cs.length := fun x hx => by
   obtain ⟨m, h1, h2, _⟩ := wD Cs Cs.length x hx
   exact ⟨m, h1, h2⟩
  unfold fixC at hn
  split at hn
  ·rename_i i hG
   obtain ⟨m, hm, hml⟩ := lt i (by rw [hG]; simp)
   have one : ∀ F : Sec, (Cs.set i.toNat (some F))[n]? = some none → False := fun F hF => key hF (by simp) (fun k hk => by
    rw [hG] at hk
    have : (k : Int) = i := by simpa using hk
    rw [show i.toNat = k by omega, List.getElem?_set_self (by omega)]
    exact ⟨_, rfl⟩) (fun k hk => by
    rw [hG] at hk
    have : ¬ (k : Int) = i := by simpa using hk
    rw [List.getElem?_set_ne (by omega)])
   split at hn
   ·exact one _ hn
   ·exact one _ hn
  ·rename_i i j hG
   obtain ⟨m, hm, hml⟩ := lt i (by rw [hG]; simp)
   obtain ⟨m2, hm2, hml2⟩ := lt j (by rw [hG]; simp)
   refine key hn (by simp) (fun k hk => ?_) (fun k hk => ?_)
   ·rw [hG] at hk
    by_cases hkj : (k : Int) = j
    ·rw [show j.toNat = k by omega, List.getElem?_set_self (by simp; omega)]
     exact ⟨_, rfl⟩
    ·have : (k : Int) = i := by simpa [hkj] using hk
     rw [List.getElem?_set_ne (by omega), show i.toNat = k by omega, List.getElem?_set_self (by omega)]
     exact ⟨_, rfl⟩
   ·rw [hG] at hk
    have : ¬ (k : Int) = i ∧ ¬ (k : Int) = j := by simpa using hk
    rw [List.getElem?_set_ne (by omega), List.getElem?_set_ne (by omega)]
  ·rename_i h1 h2
   have : xY Cs = [] := by
    match hG : xY Cs with
    | [] => rfl
    | [i] => exact absurd hG (h1 i)
    | [i, j] => exact absurd hG (h2 i j)
    | _ :: _ :: _ :: _ => rw [hG] at hl; simp at hl; omega
   have hm := QG hn
   rw [this] at hm
   cases hm
def yG : Lay Sec := ⟨16, fun f => (secV f).toList, fun _ => rfl, yS, by decide⟩
theorem zEn : LayT Tryz.prog yG 32 37 16 := ⟨by kernel_rfl, ⟨(Tryz.prog.info? 37).get (by kernel_rfl), ((Tryz.prog.info? 37).get (by kernel_rfl)).zero.get (by kernel_rfl), by kernel_rfl, by kernel_rfl, by kernel_rfl, by kernel_rfl, by kernel_rfl⟩⟩
theorem zH6 (f : Sec) (w : World) : (Instr.buildSlice 32 1 #[(0, .agg (secV f))]).run Tryz.prog w = .ok (.slice (some ⟨w.heap.size, 0, none⟩) 1 1) (w.alloc (.cells (secV f) 37)) :=
 run_buildSlice w 32 37 1 _ (secV f) ((Tryz.prog.info? 37).get (by kernel_rfl)) (((Tryz.prog.info? 37).get (by kernel_rfl)).zero.get (by kernel_rfl)) (by kernel_rfl) (by kernel_rfl) (by kernel_rfl) (by decide +kernel) (by decide +kernel) (by kernel_rfl)
def OI (w : World) (h : Option Addr × Nat × Nat) : Option Sec → Prop
 | none => h = (none, 0, 0)
 | some f => ∃ b, h = (some ⟨b, 0, none⟩, 16, 16) ∧ Has w b (.cells (secV f) 37 (0, 0))
theorem OI.keep {w w' : World} {S : Nat → Prop} {h : Option Addr × Nat × Nat} : ∀ {C : Option Sec}, OI w h C → Keep S w w' → (∀ b cs, Has w b (.cells cs 37 (0, 0)) → ¬ S b) → OI w' h C
 | none, hc, _, _ => hc
 | some f, ⟨b, h1, h2⟩, k, hS => ⟨b, h1, k.has h2 (hS b _ h2)⟩
theorem zM0 {w : World} {b : Nat} {t : TypeId} {f : Sec} (h : Has w b (.cells (secV f) t (0, 0))) : SlL zU w (some ⟨b, 0, none⟩) 16 (secB f) := ⟨rfl, fun i x hi => ⟨b, 0, rfl, fun j hj => by
 have hj : j = 0 := by have : j < 1 := hj; omega
 subst hj
 have e : (secV f).toList = (secB f).map fun y => Value.int .u8 y := rfl
 rw [cell_of h, show 0 + i * zU.size + 0 = i by show 0 + i * 1 + 0 = i; omega, ← Array.getElem?_toList, e, List.getElem?_map, hi]; rfl⟩⟩
theorem OI.col {w : World} {h : Option Addr × Nat × Nat} : ∀ {C : Option Sec}, OI w h C → uN w h C
 | none, hc => hc
 | some f, ⟨b, h1, h2⟩ => by subst h1; exact ⟨⟨b, 0, rfl⟩, rfl, Nat.le_refl _, zM0 h2⟩
theorem OwnL.neH {α : Type} {L : Lay α} {w : World} {base : Nat} {e : TypeId} {p : Option Addr} {l c : Nat} {xs : List α} (h : OwnL L w base e p l c xs) {x : Nat} {cs : Array Value} {t : TypeId} (hx : Has w x (.cells cs t (0, 0))) (ht : t ≠ e) : p ≠ some ⟨x, 0, none⟩ := by
 intro hp
 rcases Own.cases h with ⟨h0, _⟩ | ⟨b', cur, h0, _, hg, _⟩
 ·rw [h0] at hp; cases hp
 ·rw [h0] at hp
  cases hp
  exact (hx.ne hg (by simp only [ne_eq, Obj.cells.injEq]; intro e'; exact ht e'.2.1)) rfl
theorem zMu {w : World} {p : Option Addr} {f : Sec} (h : SlL zU w p 16 (secB f)) (hp : ∃ b o, p = some ⟨b, o, none⟩) {K : Array Value → Prop} (hK : K (secV f)) : HO p 16 16 fun b o => LdA 16 b o (At w) K := by
 obtain ⟨b, o, rfl⟩ := hp
 refine ⟨b, o, rfl, Nat.le_refl _, secV f, rfl, ?_, hK⟩
 rintro w' ⟨d, rfl⟩ i hi
 obtain ⟨b', o', hp', hc⟩ := h.2 i (f ⟨i, hi⟩) (uR f hi)
 cases hp'
 have := hc 0 (by show 0 < 1; decide)
 rw [show o + i * zU.size + 0 = o + i by show o + i * 1 + 0 = o + i; omega] at this
 have e : (secV f).toList = (secB f).map fun y => Value.int .u8 y := rfl
 rw [show (w.dr d).cell? ⟨b, o + i, none⟩ = w.cell? ⟨b, o + i, none⟩ from rfl, this, ← Array.getElem?_toList, e, List.getElem?_map, uR f hi]; rfl
theorem zAu : zc Tryz.prog 84 = plcV ⟨0, 0⟩ := by kernel_rfl
theorem zM5 (w : World) {n : Nat} (hn : n ≤ 1000) : ∃ w', (Instr.makeSlice 187 (.int .i64 (n : Int)) (.int .i64 (n : Int))).run Tryz.prog w = .ok (.slice (some ⟨w.heap.size, 0, none⟩) n n) w' ∧ OwnL hLay w' w.heap.size 22 (some ⟨w.heap.size, 0, none⟩) n n (List.replicate n (none, 0, 0)) ∧ Keep (fun _ => False) w w' ∧ w'.heap.size = w.heap.size + 1 :=
 gC (P := Tryz.prog) (L := hLay) (x0 := (none, 0, 0)) (t := 187) (e := 22) (i := (Tryz.prog.info? 22).get (by kernel_rfl)) (z := ((Tryz.prog.info? 22).get (by kernel_rfl)).zero.get (by kernel_rfl)) w (by kernel_rfl) (by kernel_rfl) (by kernel_rfl) (by kernel_rfl) (by kernel_rfl) n
  (by show n * 1 ≤ _; omega) (by have : ((Tryz.prog.info? 22).get (by kernel_rfl)).bytes = 24 := by kernel_rfl
                                 rw [this]; omega) (by simp only [maxLen]; omega)
def zHg (p10 : Option Addr) (l12 : Nat) (lp : Option Addr) (ll lc : Nat) (w : World) (R : Value → World → Prop) : Prop :=
 yC (σ := (Option Addr × Nat × Nat) × Int × Unit) (fun _ s2 w K2 => Cb
 (decide (s2.2.1 < ((l12 : Nat) : Int))) (IdxS p10 l12 s2.2.1 1 fun b7 o4 => LdV b7 o4 (At w) fun v20 => OpS v20 fun p11 l13 c11 => HO p11 l13 16 fun b8 o5 => LdA 16 b8
 o5 (At w) fun cs6 => DoV Tryz.prog (Instr.buildSlice 32 1 #[(0, .agg cs6)]) w fun v21 w => OpS v21 fun p12 l14 c12 => DoV Tryz.prog (Builtin.append_ #[32, 32] 32 #[.slice
 s2.1.1 s2.1.2.1 s2.1.2.2, .slice p12 l14 c12]) w fun v22 w => OpS v22 fun p13 l15 c13 => K2 ((p13, l15, c13), (IntKind.wrap .i64 (s2.2.1 + 1), ())) w) (Ret [] (R (.tuple
 #[.slice s2.1.1 s2.1.2.1 s2.1.2.2, .slice lp ll lc, .int .i64 0]) w))) ((none, 0, 0), (0, ())) w
section calls
variable {w : World} {R : Value → World → Prop}
theorem zOu {p10 : Option Addr} {l12 : Nat} {lp : Option Addr} {ll lc : Nat} {Hs : List (Option Addr × Nat × Nat)} {FR : List Sec} (hs : SlL hLay w p10 l12 Hs) (hl : Hs.length = FR.length) (hl2 : FR.length ≤ 32) (hat : ∀ (k : Nat) h f, Hs[k]? = some h → FR[k]? = some f → uN w h (some f))
  (hK : ∀ p c w', OwnL yG w' w.heap.size 37 p FR.length c FR → Keep (fun _ => False) w w' → R (.tuple #[.slice p FR.length c, .slice lp ll lc, .int .i64 0]) w') : zHg p10 l12 lp ll lc w R := by
 unfold zHg
 have hll := hs.1
 refine zP (σ := (Option Addr × Nat × Nat) × Int × Unit) (fun s w' => ∃ k : Nat, s.2.1 = (k : Int) ∧ k ≤ FR.length ∧ s.1.2.1 = k ∧ OwnL yG w' w.heap.size 37 s.1.1 k s.1.2.2 (FR.take k) ∧ Keep (fun _ => False) w w') (fun s _ => (FR.length - s.2.1).toNat)
  ⟨0, rfl, by omega, rfl, OwnL.nil, Keep.refl _ _⟩ ?_
 rintro _ ⟨⟨p, l, c⟩, i, u⟩ w1 ⟨k, hi, hk, hlk, o1, k1⟩
 simp only at hi hlk o1 ⊢
 subst hi hlk
 refine zN (fun hc => ?_) (fun hc => ?_)
 ·have hc : l < FR.length := by
   have : (l : Int) < (l12 : Int) := by simpa using hc
   omega
  obtain ⟨h, hh⟩ : ∃ h, Hs[l]? = some h := ⟨_, List.getElem?_eq_getElem (by omega)⟩
  obtain ⟨f, hf⟩ : ∃ f, FR[l]? = some f := ⟨_, List.getElem?_eq_getElem hc⟩
  obtain ⟨a1, a2, a3, a4⟩ := (hat l h f hh hf).keep k1
  refine (hs.yA k1 (by simp)).ld0 (i := (l : Int)) (n := 1) (x := h) (v := .slice h.1 h.2.1 h.2.2) rfl (by omega) (by simpa using hh) rfl (zC.2 ?_)
  rw [a2]
  refine zMu a4 a1 ?_
  refine ⟨_, _, zH6 f w1, zC.2 ?_⟩
  have k2 := Keep.new (fun _ => False) w1 (.cells (secV f) 37)
  have hb2 := Has.new w1 (.cells (secV f) 37)
  generalize w1.alloc (.cells (secV f) 37) = w2 at *
  have z1 := k1.size
  have z2 := k2.size
  obtain ⟨p3, c3, w3, hr3, o3, k3, _⟩ := yK zEn (o1.keep k2 (by simp)) (y := f) hb2 (by show secV f = ((secV f).toList).toArray; simp) (ty := 32) (by omega) (by simp only [maxLen]; omega) (by omega) (c2 := 1)
  refine ⟨_, _, hr3, zC.2 ?_⟩
  have ek : IntKind.wrap .i64 ((l : Int) + 1) = ((l + 1 : Nat) : Int) := by rw [zW (by omega) (by omega)]; omega
  refine ⟨_, by show ((FR.length : Int) - IntKind.wrap .i64 ((l : Int) + 1)).toNat < ((FR.length : Int) - (l : Int)).toNat; rw [ek]; omega, ⟨l + 1, ek, by omega, rfl, by rw [List.take_add_one, hf]; exact o3, (k1.trans k2).trans' k3 fun i hi e => by have := (o1.keep k2 (by simp)).lt e; omega⟩, rfl⟩
 ·have hc : l = FR.length := by
   have : ¬ (l : Int) < (l12 : Int) := by simpa using hc
   omega
  subst hc
  rw [List.take_length] at o1
  exact zF.2 (hK p c w1 o1 k1)
end calls
def ZY (w : World) (Cs : List (Option Sec)) (Hs : List (Option Addr × Nat × Nat)) (i : Nat) : Prop :=
 Hs.length = Cs.length ∧ ∀ (k : Nat) h, Hs[k]? = some h → (k < i → ∀ C, Cs[k]? = some C → OI w h C) ∧ (i ≤ k → h = (none, 0, 0))
theorem ZY.keep {w w' : World} {S : Nat → Prop} {Cs : List (Option Sec)} {Hs : List (Option Addr × Nat × Nat)} {i : Nat} (h : ZY w Cs Hs i) (k : Keep S w w') (hS : ∀ b cs, Has w b (.cells cs 37 (0, 0)) → ¬ S b) : ZY w' Cs Hs i :=
 ⟨h.1, fun j a ha => ⟨fun hj C hC => ((h.2 j a ha).1 hj C hC).keep k hS, (h.2 j a ha).2⟩⟩
theorem ZY.zero {w : World} {Cs : List (Option Sec)} {n : Nat} (hn : Cs.length = n) : ZY w Cs (List.replicate n (none, 0, 0)) 0 :=
 ⟨by simp [hn], fun k h hh => ⟨fun hk => absurd hk (by omega), fun _ => by
  rw [List.getElem?_replicate] at hh
  split at hh
  ·exact (Option.some.inj hh).symm
  ·cases hh⟩⟩
theorem ZY.lost {w : World} {Cs : List (Option Sec)} {Hs : List (Option Addr × Nat × Nat)} {i : Nat} (h : ZY w Cs Hs i) (hC : Cs[i]? = some none) : ZY w Cs Hs (i + 1) :=
 ⟨h.1, fun k a ha => ⟨fun hk C hC' => by
  by_cases hki : k = i
  ·subst hki
   rw [hC] at hC'
   cases hC'
   exact (h.2 k a ha).2 (Nat.le_refl _)
  ·exact (h.2 k a ha).1 (by omega) C hC', fun hk => (h.2 k a ha).2 (by omega)⟩⟩
theorem ZY.got {w : World} {Cs : List (Option Sec)} {Hs : List (Option Addr × Nat × Nat)} {i : Nat} (h : ZY w Cs Hs i) {f : Sec} {x : Option Addr × Nat × Nat} (hC : Cs[i]? = some (some f)) (hx : OI w x (some f)) : ZY w Cs (Hs.set i x) (i + 1) := by
 refine ⟨by rw [List.length_set]; exact h.1, fun k a ha => ?_⟩
 by_cases hki : i = k
 ·subst hki
  have hlt : i < Hs.length := by
   have := (List.getElem?_eq_some_iff.1 ha).1
   rwa [List.length_set] at this
  rw [List.getElem?_set_self hlt] at ha
  cases ha
  refine ⟨fun _ C hC' => ?_, fun hk => absurd hk (by omega)⟩
  rw [hC] at hC'
  cases hC'
  exact hx
 ·rw [List.getElem?_set_ne hki] at ha
  exact ⟨fun hk C hC' => (h.2 k a ha).1 (by omega) C hC', fun hk => (h.2 k a ha).2 (by omega)⟩
theorem ZY.all {w : World} {Cs : List (Option Sec)} {Hs : List (Option Addr × Nat × Nat)} (h : ZY w Cs Hs Cs.length) : ∀ (k : Nat) x C, Hs[k]? = some x → Cs[k]? = some C → uN w x C := fun k x C hx hC =>
 OI.col ((h.2 k x hx).1 (List.getElem?_eq_some_iff.1 hC).1 C hC)
theorem qC {g : Geo} (hg : GeoOk g) {st off : Int} (hst : 0 ≤ st ∧ st < g.s) (hof : 0 ≤ off ∧ off < g.c) (k : Int) : (0 ≤ (plcP g st off k).dk ∧ (plcP g st off k).dk < g.d) ∧ (0 ≤ (plcP g st off k).at_ ∧ (plcP g st off k).at_ < g.c * g.s) := by
 have h := hg.row hst hof
 have hd := hg.d
 exact ⟨⟨Int.emod_nonneg _ (by omega), Int.emod_lt_of_pos _ (by omega)⟩, ⟨h.2.1, h.2.2⟩⟩
def zLk (p1 : Option Addr) (l1 c1 : Nat) (lp : Option Addr) (ll lc : Nat) (w : World) (R : Value → World → Prop) : Prop :=
 yJ w fun S w => Slc l1 c1 none (some (IntKind.wrap .i64 (((l1 : Nat) : Int) - 2))) none fun l5 h1 m1 =>
 IdxS p1 l1 (IntKind.wrap .i64 (((l1 : Nat) : Int) - 2)) 1 fun b5 o2 => LdV b5 o2 (At w) fun v11 => OpS v11 fun p4 l6 c4 => IdxS p1 l1 (IntKind.wrap .i64 ((IntKind.wrap
 .i64 (((l1 : Nat) : Int) - 2)) + 1)) 1 fun b6 o3 => LdV b6 o3 (At w) fun v12 => OpS v12 fun p5 l7 c5 => zB Tryz.prog 110 #[.slice (slcP 1 l5 m1 p1) (h1 - l5) (m1 - l5),
 .slice p4 l6 c4, .slice p5 l7 c5] w fun v13 w => T4 v13 fun v14 v15 v16 v17 => OpS v14 fun p6 l8 c6 => OpS v15 fun p7 l9 c7 => OpS v16 fun p8 l10 c8 => OpI .i64 v17 fun n3
 => Hld (S w) (DoV Tryz.prog (Instr.buildSlice 187 2 #[(0, .slice p7 l9 c7), (1, .slice p8 l10 c8)]) w fun v18 w => OpS v18 fun p9 l11 c9 => DoV Tryz.prog (Builtin.append_
 #[187, 187] 187 #[.slice p6 l8 c6, .slice p9 l11 c9]) w fun v19 w => OpS v19 fun p10 l12 c10 => zHg p10 l12 lp ll lc w R)
section calls
variable {w : World} {R : Value → World → Prop}
theorem zOt {p1 : Option Addr} {n c1 : Nat} {lp : Option Addr} {ll lc : Nat} {Hs : List (Option Addr × Nat × Nat)} {Cs : List (Option Sec)} (hs : SlL hLay w p1 n Hs) (hnc : n ≤ c1) (hn : n = Cs.length) (hn4 : 4 ≤ n ∧ n ≤ 32) (hl : Hs.length = Cs.length) (hat : ∀ (k : Nat) x C, Hs[k]? = some x → Cs[k]? = some C → uN w x C) (hok : ∀ C ∈ Cs, u5 C) (hlost : xA Cs ≤ 2)
  (hK : ∀ p c w', OwnL yG w' w.heap.size 37 p n c (rowR Cs) → Keep (fun _ => False) w w' → R (.tuple #[.slice p n c, .slice lp ll lc, .int .i64 0]) w') : zLk p1 n c1 lp ll lc w R := by
 unfold zLk
 intro d
 refine ⟨fun _ => True, trivial, ?_⟩
 have kd := Keep.drew (fun _ => False) w d
 have hs1 := hs.yA kd (by simp)
 have hat1 : ∀ (k : Nat) x C, Hs[k]? = some x → Cs[k]? = some C → uN (w.dr d) x C := fun k x C h1 h2 => (hat k x C h1 h2).keep kd
 have z1 := kd.size
 generalize w.dr d = w1 at *
 have e2 : IntKind.wrap .i64 (((n : Nat) : Int) - 2) = ((n - 2 : Nat) : Int) := by rw [zW (by omega) (by omega)]; omega
 have e1 : IntKind.wrap .i64 (((n - 2 : Nat) : Int) + 1) = ((n - 1 : Nat) : Int) := by rw [zW (by omega) (by omega)]; omega
 rw [e2, e1]
 refine G2 (hi := n - 2) (by omega) ?_
 obtain ⟨hP, hhP⟩ : ∃ h, Hs[n - 2]? = some h := ⟨_, List.getElem?_eq_getElem (by omega)⟩
 obtain ⟨hQ, hhQ⟩ : ∃ h, Hs[n - 1]? = some h := ⟨_, List.getElem?_eq_getElem (by omega)⟩
 have hCP : Cs[n - 2]? = some (ZS Cs) := by
  unfold ZS
  rw [← hn, List.getD_eq_getElem?_getD, List.getElem?_eq_getElem (by omega)]; rfl
 have hCQ : Cs[n - 1]? = some (ZR Cs) := by
  unfold ZR
  rw [← hn, List.getD_eq_getElem?_getD, List.getElem?_eq_getElem (by omega)]; rfl
 refine hs1.ld0 (i := ((n - 2 : Nat) : Int)) (n := 1) (x := hP) (v := .slice hP.1 hP.2.1 hP.2.2) rfl (by omega) (by rw [Int.toNat_natCast]; exact hhP) rfl (zC.2 ?_)
 refine hs1.ld0 (i := ((n - 1 : Nat) : Int)) (n := 1) (x := hQ) (v := .slice hQ.1 hQ.2.1 hQ.2.2) rfl (by omega) (by rw [Int.toNat_natCast]; exact hhQ) rfl (zC.2 ?_)
 have hsub := hs1.sub (lo := 0) (hi := n - 2) (m := c1) (by omega) (by omega) (by omega)
 rw [List.drop_zero] at hsub
 have hsplit := ME (Cs := Cs) (by omega)
 have hlD : (rowD Cs).length = n - 2 := by unfold rowD; rw [List.length_take]; omega
 have hc : Cols w1 (slcP 1 0 c1 p1) (n - 2 - 0) (Hs.take (n - 2)) (rowD Cs) := by
  refine ⟨hsub, by rw [hlD, List.length_take]; omega, fun i h C h1 h2 => ?_, fun C hC => hok C (List.mem_of_mem_take hC)⟩
  unfold rowD at h2
  rw [List.getElem?_take] at h1 h2
  split at h1
  ·split at h2
   ·exact hat1 i h C h1 h2
   ·cases h2
  ·cases h1
 refine zFf hc (by omega) (by omega) (hat1 _ _ _ hhP hCP) (hat1 _ _ _ hhQ hCQ) (hok _ (List.mem_of_getElem? hCP)) (hok _ (List.mem_of_getElem? hCQ)) (by omega) fun pa ca g1 g2 w2 hA c2P c2Q k2 => ?_
 refine ⟨_, _, _, _, rfl, zC.2 (zC.2 (zC.2 (zA.2 ⟨trivial, ?_⟩)))⟩
 refine ⟨_, _, zLd _ _ _ _ _ _ w2, zC.2 ?_⟩
 have k3 := Keep.new (fun _ => False) w2 (.cells #[.slice g1.1 g1.2.1 g1.2.2, .slice g2.1 g2.2.1 g2.2.2] 22)
 have hb3 := Has.new w2 (.cells #[.slice g1.1 g1.2.1 g1.2.2, .slice g2.1 g2.2.1 g2.2.2] 22)
 generalize hw3 : w2.alloc (.cells #[.slice g1.1 g1.2.1 g1.2.2, .slice g2.1 g2.2.1 g2.2.2] 22) = w3 at *
 have o3 : OwnL hLay w3 w2.heap.size 22 (some ⟨w2.heap.size, 0, none⟩) 2 2 [g1, g2] := OwnL.mk (xs := [g1, g2]) (Nat.le_refl _) hb3 (by simp [maxLen]) rfl
 obtain ⟨Ha, oa, hHl, hHat, hHok⟩ := hA.ex
 have hHl2 : Ha.length = n - 2 := by rw [hHl, ZL, hlD]
 have oa3 := oa.keep k3 (by simp)
 have z2 := k2.size
 have z3 := k3.size
 obtain ⟨p4, c4, w4, hr4, o4, k4, _⟩ := xD zJf oa3 (ys := [g1, g2]) o3.sl (ty := 187) (c2 := 2) (by omega) (by simp only [maxLen]; omega) (by omega)
 refine ⟨_, _, hr4, zC.2 ?_⟩
 have hlr := N1 (Cs := Cs) (by omega)
 have hl4 : n - 2 - 0 + 2 = n := by omega
 have hfs := zJm (Cs := rowD Cs) (Pc := ZS Cs) (Qc := ZR Cs) (by omega)
 have k14 : Keep (fun _ => False) w1 w4 := (k2.trans k3).trans' k4 fun k hk he => by have := (oa3.lt he).1; omega
 have k24 : Keep (fun k => pa = some ⟨k, 0, none⟩) w3 w4 := k4
 have colK : ∀ {x : Option Addr × Nat × Nat} {f : Sec}, yP w2 0 x (some f) → uN w4 x (some f) := by
  intro x f hx
  have h3 : yP w3 0 x (some f) := hx.keep k3
  exact (h3.hdr oa3 (by decide) k4).at_
 refine zOu (Hs := Ha ++ [g1, g2]) (FR := rowR Cs) o4.sl (by rw [List.length_append, hlr]; simp; omega) (by omega) ?_ fun p c w5 o5 k5 => ?_
 ·intro k h f hh hf
  unfold rowR at hf
  by_cases hk : k < n - 2
  ·rw [List.getElem?_append_left (by omega)] at hh
   rw [List.getElem?_append_left (by rw [List.length_map, ZL, hlD]; omega), List.getElem?_map] at hf
   obtain ⟨C, hC⟩ : ∃ C, (fixC (rowD Cs) (ZS Cs) (ZR Cs))[k]? = some C := ⟨_, List.getElem?_eq_getElem (by rw [ZL, hlD]; omega)⟩
   rw [hC] at hf
   obtain ⟨f', rfl⟩ := hfs C (List.mem_of_getElem? hC)
   cases hf
   have h2 : yP w2 w1.heap.size h (some f') := hHat k h _ hh hC
   have h3 : yP w3 w1.heap.size h (some f') := h2.keep k3
   exact (h3.hdr oa3 (by decide) k4).at_
  ·rw [List.getElem?_append_right (by omega)] at hh
   rw [List.getElem?_append_right (by rw [List.length_map, ZL, hlD]; omega), List.length_map, ZL, hlD] at hf
   rw [hHl2] at hh
   generalize k - (n - 2) = j at *
   match j, hh, hf with
   | 0, hh, hf => cases hh; cases hf; exact colK c2P
   | 1, hh, hf => cases hh; cases hf; exact colK c2Q
   | j + 2, hh, hf => simp at hh
 ·rw [hlr, ← hn] at o5 ⊢
  exact hK p c w5 (o5.y5 (by have := k14.size; omega)) ((kd.trans k14).trans k5)
theorem zKr {q : SB} {s : SS} (h : SetAt w q s) {p : Option Addr} {l c : Nat} (hsl : SlL dLay w p l (q.bks.map Prod.fst)) (hlc : l ≤ c) (hok : ∀ D ∈ s.ds, jN D) {st off : Int} (hst : 0 ≤ st ∧ st < q.g.s) (hof : 0 ≤ off ∧ off < q.g.c)
  (hOff : s.pw.on = false → ∀ w', Keep (fun _ => False) w w' → R (.tuple #[.slice none 0 0, .slice none 0 0, .int .i64 4]) w')
  (hLost : s.pw.on = true → ¬ xA (yU q.g s st off) ≤ 2 → ∀ w', Keep (fun _ => False) w w' → R (.tuple #[.slice none 0 0, .slice none 0 0, .int .i64 8]) w')
  (hK : s.pw.on = true → xA (yU q.g s st off) ≤ 2 → ∀ p' c' lp ll lc w', OwnL yG w' w.heap.size 37 p' q.g.d.toNat c' (rowR (yU q.g s st off)) → OwnL nLay w' w.heap.size 3 lp ll lc (xY (yU q.g s st off)) → Keep (fun _ => False) w w' → R (.tuple #[.slice p' q.g.d.toNat c', .slice lp ll lc, .int .i64 0]) w') :
  zB Tryz.prog 31 #[.agg (setV q.g p l c), .int .i64 st, .int .i64 off] w R := by
 apply LY
 unfold UB
 have hgd := h.geo.d
 refine zK fun w1 hb1 k1 z1 => ?_
 refine zQ hb1 rfl ?_
 refine q8 (h.zX k1) (hsl.yA k1 (by simp)) hlc fun w2 k2 => ?_
 refine zA.2 ((zH (p := _)).2 ?_)
 have hb2 := k2.has hb1 (by simp)
 refine xO (cs := geoV q.g) hb2 (by show 0 + 3 ≤ 4; decide) rfl ?_
 refine zPi h.geo hst hof fun pp cp w3 o3 k3 => ?_
 refine yM.2 (zC.2 (zA.2 ((zH (p := _)).2 ?_)))
 obtain ⟨w4, hr4, o4, k4, z4⟩ := zM5 w3 (n := q.g.d.toNat) (by omega)
 refine ⟨_, _, hr4, zC.2 ?_⟩
 generalize hCs : yU q.g s st off = Cs at *
 have hCl : Cs.length = q.g.d.toNat := by rw [← hCs]; exact uU _ _ _ _
 have hCok : ∀ C ∈ Cs, u5 C := by rw [← hCs]; exact zC7 hok
 have k03 := (k1.trans k2).trans k3
 have z3 := k03.size
 have hb4 := (k3.trans k4).has hb2 (by simp)
 have o34 := (o3.keep k4 (by simp)).y5 (show w.heap.size ≤ w2.heap.size from (k1.trans k2).size)
 have o4 := o4.y5 z3
 generalize hB : w.heap.size = B at *
 generalize hH : w3.heap.size = H at *
 generalize hN : q.g.d.toNat = n at *
 have hnd : (n : Int) = q.g.d := by omega
 refine zP (σ := (Option Addr × Nat × Nat) × (Option Addr × Nat × Nat) × Int × Unit) (fun st' w' => ∃ (i : Nat) (Hs : List (Option Addr × Nat × Nat)), st'.1 = (none, 0, 0) ∧ st'.2.2.1 = (i : Int) ∧ i ≤ n ∧ (0 < i → s.pw.on = true) ∧ ZY w' Cs Hs i ∧ OwnL hLay w' B 22 (some ⟨H, 0, none⟩) n n Hs ∧ OwnL nLay w' B 3 st'.2.1.1 st'.2.1.2.1 st'.2.1.2.2 (kB Cs i) ∧ OwnL O7 w' B 84 pp n cp (rowP q.g st off n) ∧ Has w' B (.cells (setV q.g p l c) 51 (0, 0)) ∧ Keep (fun _ => False) w w') (fun st' _ => (n - st'.2.2.1).toNat)
  ⟨0, _, rfl, rfl, by omega, fun h => absurd h (by omega), ZY.zero hCl, o4, OwnL.nil, o34, hb4, k03.trans k4⟩ ?_
 rintro _ ⟨⟨pa, la, ca⟩, ⟨pg, lg, cg⟩, i, u⟩ w5 ⟨i', Hs, ha, hi, hil, hon, hH5, oh, og, op, hb5, k5⟩
 simp only at ha hi og ⊢
 subst hi
 cases ha
 have hsl5 := hsl.yA k5 (by simp)
 have h5 := h.zX k5
 have z5 := k5.size
 have e3 : i' < n → IntKind.wrap .i64 ((i' : Int) + 1) = ((i' + 1 : Nat) : Int) := fun _ => by rw [zW (by omega) (by omega)]; omega
 refine zN (fun hc => ?_) (fun hc => ?_)
 ·have hc : i' < n := by
   have : (i' : Int) < (n : Int) := by simpa using hc
   omega
  have hpl : (rowP q.g st off n)[i']? = some (plcP q.g st off (i' : Int)) := by
   unfold rowP
   rw [List.getElem?_map, List.getElem?_range hc]; rfl
  refine op.sl.ldA (i := (i' : Int)) (n := 2) (x := plcP q.g st off (i' : Int)) rfl (by omega) (by rw [Int.toNat_natCast]; exact hpl) ?_
  refine yN (by rw [zAu]; rfl) rfl (fun v hv => O7.one _ v (by simpa using hv)) fun w6 hb6 k6 z6 => ?_
  have hb6 : Has w6 w5.heap.size (.cells (plcV (plcP q.g st off (i' : Int))) 84 (0, 0)) := hb6
  refine zQ (k6.has hb5 (by simp)) rfl ?_
  refine zQ hb6 rfl ?_
  obtain ⟨pk1, pk2⟩ := qC h.geo hst hof (i' : Int)
  refine zEf (h5.zX k6) (hsl5.yA k6 (by simp)) pk1 pk2 hok fun w7 k7 => ?_
  have hCi : Cs[i']? = some (wF (s.ds.getD (plcP q.g st off (i' : Int)).dk.toNat dsk0) (plcP q.g st off (i' : Int)).at_) := by
   rw [← hCs]
   exact N8 (by omega)
  generalize wF (s.ds.getD (plcP q.g st off (i' : Int)).dk.toNat dsk0) (plcP q.g st off (i' : Int)).at_ = C at *
  have k57 := k6.trans k7
  unfold zH3
  by_cases hp : s.pw.on = false
  ·rw [if_pos hp]
   refine ⟨_, _, _, rfl, zJ.2 ⟨rfl, zM.2 (zA.2 ?_)⟩⟩
   refine zK fun w8 hb8 k8 z8 => ?_
   refine yB hb8 rfl (by rw [vQ]; rfl) (yS _) ?_
   refine (zT (q := _)).2 (zF.2 (hOff hp _ ?_))
   exact (Keep.refl (fun _ => False) w).trans' ((((k5.trans k57).trans k8).mono fun _ h => h.elim).upd (S := fun k => k = w7.heap.size) (fun _ => rfl) _) fun i hi e => by have := (k5.trans k57).size; omega
  rw [if_neg hp]
  have hp : s.pw.on = true := by simpa using hp
  refine ⟨_, _, _, rfl, zJ.2 ⟨rfl, zM.2 (zA.2 ?_)⟩⟩
  refine zK fun w8 hb8 k8 z8 => ?_
  refine yB hb8 rfl (by rw [vQ]; rfl) (yS _) ?_
  refine (zH (p := _)).2 ?_
  have hz7 := (k5.trans k57).size
  have hb9 := hb8.zL (.cells (secV (C.getD (sec []))) 37 (0, 0))
  have k59 : Keep (fun _ => False) w5 (w8.upd w7.heap.size (.cells (secV (C.getD (sec []))) 37 (0, 0))) := (Keep.refl (fun _ => False) w5).trans' (((k57.trans k8).mono fun _ h => h.elim).upd (S := fun k => k = w7.heap.size) (fun _ => rfl) _) fun i hi e => by have := k57.size; omega
  generalize hbx : w7.heap.size = bx at *
  generalize w8.upd bx (.cells (secV (C.getD (sec []))) 37 (0, 0)) = w9 at *
  have k09 := k5.trans k59
  have oh9 := oh.keep k59 (by simp)
  have og9 := og.keep k59 (by simp)
  have op9 := op.keep k59 (by simp)
  have hs9 := k59.has hb5 (by simp)
  have hH9 := hH5.keep k59 (by simp)
  have z9 := k09.size
  have hHl := hH9.1
  have hgs : kB Cs (i' + 1) = kB Cs i' ++ (if wJ Cs[i']? = true then [(i' : Int)] else []) := rfl
  cases C with
  | some f =>
   refine (zT (q := _)).2 ?_
   refine OH (by omega) ?_
   obtain ⟨h0, hh0⟩ : ∃ h0, Hs[i']? = some h0 := ⟨_, List.getElem?_eq_getElem (by omega)⟩
   refine oh9.stF (i := (i' : Int)) (n := 1) (t := 0) (x := h0) (y := (some ⟨bx, 0, none⟩, 16, 16)) rfl (by omega) (by rw [Int.toNat_natCast]; exact hh0) (by omega) rfl rfl fun w10 oh10 k10 z10 => ?_
   rw [Int.toNat_natCast] at oh10
   have ne1 : ∀ (b : Nat) (cs : Array Value), Has w9 b (.cells cs 37 (0, 0)) → ¬ (some (⟨H, 0, none⟩ : Addr) = some ⟨b, 0, none⟩) := fun b cs hb => OwnL.neH oh9 hb (by decide)
   have hsx : OI w10 (some ⟨bx, 0, none⟩, 16, 16) (some f) := ⟨bx, rfl, k10.has hb9 (ne1 _ _ hb9)⟩
   have hH10 : ZY w10 Cs (Hs.set i' (some ⟨bx, 0, none⟩, 16, 16)) (i' + 1) := (hH9.keep k10 ne1).got hCi hsx
   refine ⟨_, by show ((n : Int) - IntKind.wrap .i64 ((i' : Int) + 1)).toNat < ((n : Int) - (i' : Int)).toNat; rw [e3 hc]; omega, ⟨i' + 1, _, rfl, e3 hc, by omega, fun _ => hp, hH10, oh10, ?_, ?_, ?_, ?_⟩, rfl⟩
   ·rw [hgs, hCi, if_neg (by simp [wJ]), List.append_nil]
    exact og9.keep k10 fun k hk he => OwnL.ne og9 oh9 (by decide) hk he
   ·exact op9.keep k10 fun k hk he => OwnL.ne op9 oh9 (by decide) hk he
   ·exact k10.has hs9 (OwnL.neH oh9 hs9 (by decide))
   ·exact k09.trans' k10 fun k hk he => by have := (oh9.lt he).1; omega
  | none =>
   refine (zH (p := _)).2 ?_
   refine ⟨_, _, zLc _ w9, zC.2 ?_⟩
   have k10 := Keep.new (fun _ => False) w9 (.cells #[.int .i64 (i' : Int)] 3)
   have hb10 := Has.new w9 (.cells #[.int .i64 (i' : Int)] 3)
   generalize w9.alloc (.cells #[.int .i64 (i' : Int)] 3) = w10 at *
   have hlg := og.length
   have hlgl : (kB Cs i').length ≤ i' := by rw [X4 Cs i' (by omega)]; exact Nat.le_trans (NX _) (by rw [List.length_take]; omega)
   have z10 := k10.size
   have og10 := og9.keep k10 (by simp)
   have oh10 := oh9.keep k10 (by simp)
   have op10 := op9.keep k10 (by simp)
   have hs10 := k10.has hs9 (by simp)
   obtain ⟨p11, c11, w11, hr11, o11, k11, _⟩ := yK zPd og10 (y := (i' : Int)) hb10 rfl (ty := 69) (by omega) (by simp only [maxLen]; omega) (by omega) (c2 := 1)
   refine ⟨_, _, hr11, zC.2 ?_⟩
   refine ⟨_, by show ((n : Int) - IntKind.wrap .i64 ((i' : Int) + 1)).toNat < ((n : Int) - (i' : Int)).toNat; rw [e3 hc]; omega, ⟨i' + 1, Hs, rfl, e3 hc, by omega, fun _ => hp, ?_, ?_, ?_, ?_, ?_, ?_⟩, rfl⟩
   ·exact ((hH9.keep k10 (by simp)).keep k11 fun b cs hb => OwnL.neH og10 hb (by decide)).lost hCi
   ·exact oh10.keep k11 fun k hk he => OwnL.ne oh10 og10 (by decide) hk he
   ·rw [hgs, hCi, if_pos (show wJ (some none) = true from rfl)]
    exact o11
   ·exact op10.keep k11 fun k hk he => OwnL.ne op10 og10 (by decide) hk he
   ·exact k11.has hs10 (OwnL.neH og10 hs10 (by decide))
   ·exact (k09.trans k10).trans' k11 fun k hk he => by have := (og10.lt he).1; omega
 ·have hc : i' = n := by
   have : ¬ (i' : Int) < (n : Int) := by simpa using hc
   omega
  have hp := hon (by omega)
  have hiC : i' = Cs.length := by omega
  have hgl : kB Cs i' = xY Cs := by rw [hiC]; rfl
  rw [hgl] at og
  have hglen := gL Cs
  have hlg := og.length
  refine zN (fun hl3 => ?_) (fun hl3 => ?_)
  ·have hl3 : lg > 2 := by
    have : ((lg : Nat) : Int) > 2 := by simpa using hl3
    omega
   exact zF.2 (hLost hp (by omega) w5 k5)
  ·have hl3 : ¬ lg > 2 := by
    have : ¬ ((lg : Nat) : Int) > 2 := by simpa using hl3
    omega
   rw [hiC] at hH5
   refine zOt (Cs := Cs) oh.sl (Nat.le_refl _) hCl.symm (by omega) hH5.1 hH5.all hCok (by omega) fun p' c' w6 o6 k6 => ?_
   exact hK hp (by omega) p' c' pg lg cg w6 (o6.y5 (by rw [← hB]; exact z5)) (og.keep k6 (by simp)) (k5.trans k6)
end calls
def TR (g : Geo) (s : SS) (lba : Int) : Sec × Int :=
 let x := yT g lba
 let Cs := yU g s x.1 x.2.2
 if s.pw.on = false then (sec [], 4)
 else match Cs.getD x.2.1.toNat none with
  | some f => (f, 0)
  | none => if xA Cs ≤ 2 then ((rowR Cs).getD x.2.1.toNat (sec []), 0) else (sec [], 8)
theorem zE5 : zc Tryz.prog 177 = x5 (0, 0, 0) := by kernel_rfl
section calls
variable {w : World} {q : SB} {s : SS} {R : Value → World → Prop}
theorem zLv (h : SetAt w q s) {p : Option Addr} {l c : Nat} (hsl : SlL dLay w p l (q.bks.map Prod.fst)) (hlc : l ≤ c) (hok : ∀ D ∈ s.ds, jN D) {lba : Int} (h0 : 0 ≤ lba) (h1 : lba < (q.g.d - 2) * q.g.c * q.g.s)
  (hK : ∀ w', Keep (fun _ => False) w w' → R (.tuple #[.agg (secV (TR q.g s lba).1), .int .i64 (TR q.g s lba).2]) w') : zB Tryz.prog 29 #[.agg (setV q.g p l c), .int .i64 lba] w R := by
 apply OM
 unfold WL
 obtain ⟨pst, pco, pof⟩ := vR h.geo h0 h1
 have hgd := h.geo.d
 unfold TR at hK
 generalize hx : yT q.g lba = x at *
 simp only at hK
 refine zK fun w1 hb1 k1 z1 => ?_
 refine zK fun w2 hb2 k2 z2 => ?_
 rw [vQ] at hb2
 have hs2 := k2.has hb1 (by simp)
 have k02 := k1.trans k2
 refine zQ hs2 rfl ?_
 refine q8 (h.zX k02) (hsl.yA k02 (by simp)) hlc fun w3 k3 => ?_
 refine zA.2 ((zH (p := _)).2 ?_)
 refine xO (cs := geoV q.g) (k3.has hs2 (by simp)) (by show 0 + 3 ≤ 4; decide) rfl ?_
 refine zPj h.geo h0 h1 fun w4 k4 => ?_
 rw [hx]
 refine ⟨_, _, _, rfl, zJ.2 ⟨rfl, zJ.2 ⟨rfl, zA.2 ?_⟩⟩⟩
 refine zK fun w5 hb5 k5 z5 => ?_
 refine zK fun w6 hb6 k6 z6 => ?_
 have hb56 := k6.has hb5 (by simp)
 have k26 := ((k3.trans k4).trans k5).trans k6
 have z26 : w2.heap.size ≤ w4.heap.size := (k3.trans k4).size
 have z02 := k02.size
 refine yB hb56 rfl (by rw [zE5]; rfl) (XX x) ?_
 have hb7 := hb56.zL (.cells (x5 x) 177 (0, 0))
 have hb6' : Has (w6.upd w4.heap.size (.cells (x5 x) 177 (0, 0))) w5.heap.size (.cells (zc Tryz.prog 84) 84 (0, 0)) := Has.upd hb6 (by omega)
 have k27 : Keep (fun _ => False) w2 (w6.upd w4.heap.size (.cells (x5 x) 177 (0, 0))) := (Keep.refl (fun _ => False) w2).trans' ((k26.mono fun _ h => h.elim).upd (S := fun k => k = w4.heap.size) (fun _ => rfl) _) fun i hi e => by omega
 refine yB hb6' rfl (by rw [zAu]; rfl) (NS _) ?_
 have hb8 := hb6'.zL (.cells (plcV (plcP q.g x.1 x.2.2 x.2.1)) 84 (0, 0))
 have hb78 : Has ((w6.upd w4.heap.size (.cells (x5 x) 177 (0, 0))).upd w5.heap.size (.cells (plcV (plcP q.g x.1 x.2.2 x.2.1)) 84 (0, 0))) w4.heap.size (.cells (x5 x) 177 (0, 0)) := Has.upd hb7 (by omega)
 have k28 : Keep (fun _ => False) w2 ((w6.upd w4.heap.size (.cells (x5 x) 177 (0, 0))).upd w5.heap.size (.cells (plcV (plcP q.g x.1 x.2.2 x.2.1)) 84 (0, 0))) := (Keep.refl (fun _ => False) w2).trans' ((k27.mono fun _ h => h.elim).upd (S := fun k => k = w5.heap.size) (fun _ => rfl) _) fun i hi e => by omega
 generalize (w6.upd w4.heap.size (.cells (x5 x) 177 (0, 0))).upd w5.heap.size (.cells (plcV (plcP q.g x.1 x.2.2 x.2.1)) 84 (0, 0)) = w8 at *
 have k08 := k02.trans k28
 have hs8 := k28.has hs2 (by simp)
 have hr8 := k28.has hb2 (by simp)
 have hbr : w.heap.size ≤ w1.heap.size := by omega
 generalize w1.heap.size = br at *
 generalize w4.heap.size = bs at *
 generalize w5.heap.size = bp at *
 refine (zH (p := _)).2 ?_
 refine zQ hs8 rfl ?_
 refine zQ hb8 rfl ?_
 obtain ⟨pk1, pk2⟩ := qC h.geo pst pof x.2.1
 refine zEf (h.zX k08) (hsl.yA k08 (by simp)) pk1 pk2 hok fun w9 k9 => ?_
 have hCi : (yU q.g s x.1 x.2.2).getD x.2.1.toNat none = wF (s.ds.getD (plcP q.g x.1 x.2.2 x.2.1).dk.toNat dsk0) (plcP q.g x.1 x.2.2 x.2.1).at_ := by
  have e : ((x.2.1.toNat : Nat) : Int) = x.2.1 := by omega
  rw [List.getD_eq_getElem?_getD, N8 (by omega), e]; rfl
 rw [hCi] at hK
 generalize wF (s.ds.getD (plcP q.g x.1 x.2.2 x.2.1).dk.toNat dsk0) (plcP q.g x.1 x.2.2 x.2.1).at_ = C at *
 have k09 := k08.trans k9
 have hr9 := k9.has hr8 (by simp)
 have hs9 := k9.has hs8 (by simp)
 have ht9 := k9.has hb78 (by simp)
 have fin : ∀ (f : Sec) (e : Int) (wa : World), Has wa br (.cells (secV (sec [])) 37 (0, 0)) → Keep (fun _ => False) w wa → (∀ w', Keep (fun _ => False) w w' → R (.tuple #[.agg (secV f), .int .i64 e]) w') → StA 16 br 0 (secV f) wa fun w => LdA 16 br 0 (At w) fun cs => Ret [] (R (.tuple #[.agg cs, .int .i64 e]) w) := by
  intro f e wa ha ka hr
  refine yB ha rfl rfl (yS f) ?_
  refine zQ (ha.zL _) rfl ?_
  exact zF.2 (hr _ ((Keep.refl (fun _ => False) w).trans' ((ka.mono fun _ h => h.elim).upd (S := fun k => k = br) (fun _ => rfl) _) fun i hi e => by omega))
 have bad : ∀ (e : Int) (wa : World), Has wa br (.cells (secV (sec [])) 37 (0, 0)) → Keep (fun _ => False) w wa → (∀ w', Keep (fun _ => False) w w' → R (.tuple #[.agg (secV (sec [])), .int .i64 e]) w') → DoQ Tryz.prog (Instr.build 37 #[]) (At wa) fun v7 => OpA 16 v7 fun cs1 => StA 16 br 0 cs1 wa fun w => LdA 16 br 0 (At w) fun cs2 => Ret [] (R (.tuple #[.agg cs2, .int .i64 e]) w) := by
  intro e wa ha ka hr
  exact zV (fun d => QJ _) (zJ.2 ⟨rfl, fin _ _ _ ha ka hr⟩)
 have cellcase : ∀ (f : Sec) (g : Bool) (e : Int), (g = true ∨ e ≠ 0) → (∀ w', Keep (fun _ => False) w w' → R (.tuple #[.agg (secV f), .int .i64 e]) w') → ∀ {Q : World → Prop}, Alc 37 (zc Tryz.prog 37) w9 fun b4 w => StA 16 b4 0 (secV f) w fun w => Req (g = g) (Req (g = g) (Cb (cond g true (e != 0)) (LdA 16 b4 0 (At w) fun cs11 => StA 16 br 0 cs11 w fun w => LdA 16 br 0 (At w) fun cs12 => Ret [] (R (.tuple #[.agg cs12, .int .i64 e]) w)) (Q w))) := by
  intro f g e hg hr Q
  refine yN (by rw [vQ]; rfl) rfl (yS f) fun w10 hb10 k10 z10 => ?_
  refine ⟨rfl, rfl, ?_⟩
  have hg : cond g true (e != 0) = true := by
   rcases hg with hg | hg
   ·rw [hg]; rfl
   ·cases g
    ·simpa using hg
    ·rfl
  rw [hg]
  refine (zT (q := _)).2 ?_
  refine zQ hb10 rfl ?_
  exact fin f e w10 (k10.has hr9 (by simp)) (k09.trans k10) hr
 unfold zH3
 by_cases hp : s.pw.on = false
 ·rw [if_pos hp] at hK ⊢
  refine ⟨_, _, _, rfl, zJ.2 ⟨rfl, zM.2 (zA.2 ?_)⟩⟩
  exact cellcase _ false 4 (Or.inr (by decide)) hK
 rw [if_neg hp] at hK ⊢
 have hp : s.pw.on = true := by simpa using hp
 refine ⟨_, _, _, rfl, zJ.2 ⟨rfl, zM.2 (zA.2 ?_)⟩⟩
 cases C with
 | some f => exact cellcase f true 0 (Or.inl rfl) hK
 | none =>
  refine yN (by rw [vQ]; rfl) rfl (yS _) fun w10 hb10 k10 z10 => ?_
  refine ⟨rfl, rfl, (zH (p := _)).2 ?_⟩
  have k010 := k09.trans k10
  have hs10 := k10.has hs9 (by simp)
  have ht10 := k10.has ht9 (by simp)
  have hr10 := k10.has hr9 (by simp)
  refine zQ hs10 rfl ?_
  refine zG (v := .int .i64 x.1) ht10 rfl (zA.2 ?_)
  refine zG (v := .int .i64 x.2.2) ht10 rfl (zA.2 ?_)
  refine zKr (h.zX k010) (hsl.yA k010 (by simp)) hlc hok pst pof (fun e => by rw [hp] at e; cases e) ?_ ?_
  ·intro _ hl w11 k11
   refine ⟨_, _, _, rfl, zC.2 (zC.2 (zA.2 ((zT (q := _)).2 ?_)))⟩
   simp only at hK
   rw [if_neg hl] at hK
   exact bad 8 w11 (k11.has hr10 (by simp)) (k010.trans k11) hK
  ·intro _ hl p' c' lp ll lc w11 o11 on11 k11
   refine ⟨_, _, _, rfl, zC.2 (zC.2 (zA.2 ((zH (p := _)).2 ?_)))⟩
   simp only at hK
   rw [if_pos hl] at hK
   refine zG (v := .int .i64 x.2.1) (k11.has ht10 (by simp)) rfl (zA.2 ?_)
   have hlen : (rowR (yU q.g s x.1 x.2.2)).length = q.g.d.toNat := by rw [N1 (by rw [uU]; omega), uU]
   obtain ⟨f, hf⟩ : ∃ f, (rowR (yU q.g s x.1 x.2.2))[x.2.1.toNat]? = some f := ⟨_, List.getElem?_eq_getElem (by omega)⟩
   have hfd : (rowR (yU q.g s x.1 x.2.2)).getD x.2.1.toNat (sec []) = f := by rw [List.getD_eq_getElem?_getD, hf]; rfl
   rw [hfd] at hK
   refine o11.sl.ldA (i := x.2.1) (n := 16) (x := f) rfl pco.1 hf ?_
   have e16 : (yG.row f).toArray = secV f := by show ((secV f).toList).toArray = secV f; simp
   rw [e16]
   exact fin f 0 w11 (k11.has hr10 (by simp)) (k010.trans k11) hK
end calls
def rowW (row : List Sec) (col : Nat) (data : Sec) : List Sec :=
 let D := ((row.set col data).take (row.length - 2)).map some
 (row.set col data).take (row.length - 2) ++ [sumP D, sumQ D]
def HI (g : Geo) (s : SS) (st off : Int) (row : List Sec) (k : Int) : Option PutS :=
 if (s.ds.getD (plcP g st off k).dk.toNat dsk0).dead = true then none
 else some ⟨plcP g st off k, ⟨row.getD k.toNat (sec []), sumS (plcP g st off k).at_ (row.getD k.toNat (sec []))⟩⟩
def uK (g : Geo) (s : SS) (st off : Int) (row : List Sec) (ks : List Int) : List PutS := ks.filterMap (HI g s st off row)
def yR (g : Geo) (s : SS) (lba : Int) (data : Sec) : List PutS × Int :=
 let x := yT g lba
 let Cs := yU g s x.1 x.2.2
 if s.pw.on = false then ([], 4)
 else if xA Cs ≤ 2 then (uK g s x.1 x.2.2 (rowW (rowR Cs) x.2.1.toNat data) [x.2.1, g.d - 2, g.d - 1], 0) else ([], 8)
theorem zM1 {α : Type} {r : List α} {n : Nat} (h : r.length = n) (h2 : 2 ≤ n) (a b : α) : (r.set (n - 2) a).set (n - 1) b = r.take (n - 2) ++ [a, b] := by
 apply List.ext_getElem?
 intro i
 by_cases h1 : i < n - 2
 ·rw [List.getElem?_set_ne (by omega), List.getElem?_set_ne (by omega), List.getElem?_append_left (by simp; omega), List.getElem?_take, if_pos h1]
 ·rw [List.getElem?_append_right (by simp; omega), List.length_take, Nat.min_eq_left (by omega)]
  by_cases h3 : i = n - 2
  ·subst h3
   rw [List.getElem?_set_ne (by omega), List.getElem?_set_self (by omega), Nat.sub_self]; rfl
  ·by_cases h4 : i = n - 1
   ·subst h4
    rw [List.getElem?_set_self (by simp; omega), show n - 1 - (n - 2) = 1 by omega]; rfl
   ·rw [List.getElem?_eq_none (by simp; omega), List.getElem?_eq_none (by simp; omega)]
theorem zOy {Cs : List (Option Sec)} {Pc Qc : Option Sec} (h : ∀ C ∈ Cs, u5 C) (hp : u5 Pc) (hq : u5 Qc) : yD (recP Cs Pc Qc) ∧ yD (recQ Cs Pc Qc) := by
 have hf := zA0 (Pc := Pc) (Qc := Qc) h hp hq
 constructor
 ·unfold recP
  cases Pc with
  | none => exact vH (fun _ => by omega) hf _
  | some f => exact hp
 ·unfold recQ
  cases Qc with
  | none => exact vH vU hf _
  | some f => exact hq
theorem QB {Cs : List (Option Sec)} (h : ∀ C ∈ Cs, u5 C) (i : Nat) : u5 (Cs.getD i none) := by
 rw [List.getD_eq_getElem?_getD]
 cases hx : Cs[i]? with
 | none => trivial
 | some x => exact h x (List.mem_of_getElem? hx)
theorem zM8 {Cs : List (Option Sec)} (h : ∀ C ∈ Cs, u5 C) : ∀ f ∈ rowR Cs, yD f := by
 intro f hf
 unfold rowR at hf
 have hD : ∀ C ∈ rowD Cs, u5 C := fun C hC => h C (List.mem_of_mem_take hC)
 have hr := zOy (Pc := ZS Cs) (Qc := ZR Cs) hD (QB h _) (QB h _)
 have hfx := zA0 (Pc := ZS Cs) (Qc := ZR Cs) hD (QB h _) (QB h _)
 rcases List.mem_append.1 hf with hf | hf
 ·obtain ⟨C, hC, rfl⟩ := List.mem_map.1 hf
  have := hfx C hC
  cases C with
  | none => exact kO
  | some f => exact this
 ·simp only [List.mem_cons, List.not_mem_nil, or_false] at hf
  rcases hf with rfl | rfl
  ·exact hr.1
  ·exact hr.2
theorem kR {D : List Sec} (h : ∀ f ∈ D, yD f) : ∀ C ∈ D.map some, u5 C := by
 intro C hC
 obtain ⟨f, hf, rfl⟩ := List.mem_map.1 hC
 exact h f hf
theorem zFw (D : List Sec) : xA (D.map some) = 0 := by
 unfold xA
 induction D with
 | nil => rfl
 | cons x D ih => simp
theorem SlL.ldAS {α : Type} {L : Lay α} {S : World → Prop} {w0 : World} {p : Option Addr} {l : Nat} {xs : List α} (h0 : S w0) (h : ∀ w', S w' → SlL L w' p l xs) {i : Int} {x : α} {n : Nat} (hn : L.size = n) (hi0 : 0 ≤ i) (hi : xs[i.toNat]? = some x)
  {K : Array Value → Prop} (hK : K (L.row x).toArray) : IdxS p l i n fun b o => LdA n b o S K := by
 subst hn
 obtain ⟨b, o, hp, _⟩ := (h w0 h0).2 _ x hi
 have hlt := (List.getElem?_eq_some_iff.1 hi).1
 have hl := (h w0 h0).1
 refine ⟨b, o, hp, hi0, by omega, (L.row x).toArray, by simp [L.len], ?_, hK⟩
 intro w' hw j hj
 obtain ⟨b', o', hp', hc⟩ := (h w' hw).2 _ x hi
 rw [hp] at hp'
 cases hp'
 rw [hc j hj]
 simp
theorem zF3 : LayT Tryz.prog jM 75 88 40 := ⟨by kernel_rfl, ⟨(Tryz.prog.info? 88).get (by kernel_rfl), ((Tryz.prog.info? 88).get (by kernel_rfl)).zero.get (by kernel_rfl), by kernel_rfl, by kernel_rfl, by kernel_rfl, by kernel_rfl, by kernel_rfl⟩⟩
theorem zH8 (x : PutS) (w : World) : (Instr.buildSlice 75 1 #[(0, .agg (kP x))]).run Tryz.prog w = .ok (.slice (some ⟨w.heap.size, 0, none⟩) 1 1) (w.alloc (.cells (kP x) 88)) :=
 run_buildSlice w 75 88 1 _ (kP x) ((Tryz.prog.info? 88).get (by kernel_rfl)) (((Tryz.prog.info? 88).get (by kernel_rfl)).zero.get (by kernel_rfl)) (by kernel_rfl) (by kernel_rfl) (by kernel_rfl) (by decide +kernel) (by decide +kernel) (by kernel_rfl)
theorem zNm (x : PutS) (w : World) : (Instr.build 88 #[(0, .agg (plcV x.plc)), (1, .agg (celV x.cel))]).run Tryz.prog w = .ok (.agg (kP x)) w := run_build _ _ _ _ (by kernel_rfl)
theorem zQ1 (x y z : Int) (w : World) : (Instr.buildSlice 69 3 #[(0, .int .i64 x), (1, .int .i64 y), (2, .int .i64 z)]).run Tryz.prog w = .ok (.slice (some ⟨w.heap.size, 0, none⟩) 3 3) (w.alloc (.cells #[.int .i64 x, .int .i64 y, .int .i64 z] 3)) :=
 run_buildSlice w 69 3 3 _ #[.int .i64 x, .int .i64 y, .int .i64 z] ((Tryz.prog.info? 3).get (by kernel_rfl)) (((Tryz.prog.info? 3).get (by kernel_rfl)).zero.get (by kernel_rfl)) (by kernel_rfl) (by kernel_rfl) (by kernel_rfl) (by decide +kernel) (by decide +kernel) (by kernel_rfl)
theorem zQl (a : Addr) : slcP 1 0 16 (some a) = some a := by
 unfold slcP
 simp [Addr.add]
theorem zM3 {w : World} {b l : Nat} {rows : List Sec} (h : SlL yG w (some ⟨b, 0, none⟩) l rows) {k : Nat} {f : Sec} (hk : rows[k]? = some f) : uN w (some ⟨b, 0 + k * 16, none⟩, 16, 16) (some f) := by
 refine ⟨⟨b, 0 + k * 16, rfl⟩, rfl, Nat.le_refl _, rfl, fun i x hi => ⟨b, 0 + k * 16, rfl, fun j hj => ?_⟩⟩
 have hj : j = 0 := by have : j < 1 := hj; omega
 subst hj
 obtain ⟨b', o', e, hc⟩ := h.2 k f hk
 cases e
 have hi16 : i < 16 := (List.getElem?_eq_some_iff.1 hi).1
 have := hc i hi16
 have e1 : 0 + k * 16 + i * zU.size + 0 = 0 + k * yG.size + i := by show 0 + k * 16 + i * 1 + 0 = 0 + k * 16 + i; omega
 rw [e1, this]
 have e : (yG.row f) = (secB f).map fun y => Value.int .u8 y := rfl
 rw [e, List.getElem?_map, hi]; rfl
def hdrs (b n : Nat) : List (Option Addr × Nat × Nat) := (List.range n).map fun k => (some ⟨b, 0 + k * 16, none⟩, 16, 16)
theorem zG9 (b n : Nat) : hdrs b (n + 1) = hdrs b n ++ [(some ⟨b, 0 + n * 16, none⟩, 16, 16)] := by unfold hdrs; rw [List.range_succ, List.map_append]; rfl
theorem zBq (b n : Nat) : (hdrs b n).length = n := by simp [hdrs]
def zAj (b b2 : Nat) (p : Option Addr) (l : Nat) (p6 : Option Addr) (l7 : Nat) (p7 : Option Addr) (l8 : Nat) (w : World) (R : Value → World → Prop) : Prop :=
 yC (σ := (Option Addr × Nat × Nat) × Int × Unit) (fun _ s2 w K2 => Cb (decide (s2.2.1 < ((l8 : Nat) : Int))) (IdxS p7 l8 s2.2.1 1 fun b10 o6 => LdV b10 o6 (At w)
 fun v25 => OpI .i64 v25 fun n11 => IdxS p6 l7 n11 2 fun b11 o7 => LdA 2 b11 o7 (At w) fun cs9 => Alc 84 (zc Tryz.prog 84) w fun b12 w => StA 2 b12 0 cs9 w fun w => LdV b 3
 (At w) fun v26 => OpS v26 fun p8 l9 c8 => LdV b12 0 (At w) fun v27 => OpI .i64 v27 fun n12 => IdxS p8 l9 n12 1 fun b13 o8 => LdV b13 o8 (At w) fun v28 => OpN v28 fun b14
 o9 => zB Tryz.prog 87 #[.pointer (some ⟨b14, o9, none⟩)] w fun v29 w => OpB v29 fun g => Cb g (yJ w fun S w => LdA 2 b12 0 S fun cs10 => LdV b12 1 S fun v30 => OpI
 .i64 v30 fun n13 => IdxS p l n11 16 fun b15 o10 => LdA 16 b15 o10 S fun cs11 => zB Tryz.prog 116 #[.int .i64 n13, .agg cs11] w fun v31 w => OpA 17 v31 fun cs12 => Hld (S
 w) (DoQ Tryz.prog (Instr.build 88 #[(0, .agg cs10), (1, .agg cs12)]) S fun v32 => OpA 19 v32 fun cs13 => DoV Tryz.prog (Instr.buildSlice 75 1 #[(0, .agg cs13)]) w fun v33 w
 => OpS v33 fun p9 l10 c9 => Hld (S w) (DoV Tryz.prog (Builtin.append_ #[75, 75] 75 #[.slice s2.1.1 s2.1.2.1 s2.1.2.2, .slice p9 l10 c9]) w fun v34 w => OpS v34 fun p10 l11
 c10 => Hld (S w) (K2 ((p10, l11, c10), (IntKind.wrap .i64 (s2.2.1 + 1), ())) w)))) (K2 ((s2.1.1, s2.1.2.1, s2.1.2.2), (IntKind.wrap .i64 (s2.2.1 + 1), ())) w)) (Ret [] (R
 (.tuple #[.slice s2.1.1 s2.1.2.1 s2.1.2.2, .int .i64 0]) w))) ((none, 0, 0), (0, ())) w
section calls
variable {w : World} {q : SB} {s : SS} {R : Value → World → Prop}
theorem zMh (h : SetAt w q s) {b b2 : Nat} {dp : Option Addr} {dl dc : Nat} (hsl : SlL dLay w dp dl (q.bks.map Prod.fst)) {p p6 : Option Addr} {cp cp6 : Nat} {base : Nat} {row : List Sec} {bk : Nat} {ks : List Int} {st off : Int} (hst : 0 ≤ st ∧ st < q.g.s) (hof : 0 ≤ off ∧ off < q.g.c) {n : Nat} (hn : q.g.d.toNat = n)
  (hb : Has w b (.cells (setV q.g dp dl dc) 51 (0, 0))) (o1 : OwnL yG w base 37 p n cp row) (o2 : OwnL O7 w base 84 p6 n cp6 (rowP q.g st off n)) (o3 : OwnL nLay w base 3 (some ⟨bk, 0, none⟩) ks.length ks.length ks) (hks : ∀ k ∈ ks, 0 ≤ k ∧ k < (n : Int)) (hkl : ks.length ≤ 100)
  (hK : ∀ p' c' w', OwnL jM w' w.heap.size 88 p' (uK q.g s st off row ks).length c' (uK q.g s st off row ks) → Keep (fun _ => False) w w' → R (.tuple #[.slice p' (uK q.g s st off row ks).length c', .int .i64 0]) w') : zAj b b2 p n p6 n (some ⟨bk, 0, none⟩) ks.length w R := by
 unfold zAj
 have hgd := h.geo.d
 have hrl := o1.length
 have s1 := o1.sl
 have s2 := o2.sl
 have s3 := o3.sl
 refine zP (σ := (Option Addr × Nat × Nat) × Int × Unit) (fun st' w' => ∃ j : Nat, st'.2.1 = (j : Int) ∧ j ≤ ks.length ∧ OwnL jM w' w.heap.size 88 st'.1.1 st'.1.2.1 st'.1.2.2 (uK q.g s st off row (ks.take j)) ∧ Keep (fun _ => False) w w') (fun st' _ => (ks.length - st'.2.1).toNat)
  ⟨0, rfl, by omega, OwnL.nil, Keep.refl _ _⟩ ?_
 rintro _ ⟨⟨pa, la, ca⟩, i, u⟩ w1 ⟨j, hi, hj, oa, k1⟩
 simp only at hi oa ⊢
 subst hi
 refine zN (fun hc => ?_) (fun hc => ?_)
 ·have hc : j < ks.length := by
   have : (j : Int) < (ks.length : Int) := by simpa using hc
   omega
  have ek : IntKind.wrap .i64 ((j : Int) + 1) = ((j + 1 : Nat) : Int) := by rw [zW (by omega) (by omega)]; omega
  obtain ⟨k, hk⟩ : ∃ k, ks[j]? = some k := ⟨_, List.getElem?_eq_getElem hc⟩
  have hkr := hks k (List.mem_of_getElem? hk)
  have hpk : uK q.g s st off row (ks.take (j + 1)) = uK q.g s st off row (ks.take j) ++ (HI q.g s st off row k).toList := by
   unfold uK
   rw [List.take_add_one, hk, List.filterMap_append]
   congr 1
  refine (s3.yA k1 (by simp)).ld0 (i := (j : Int)) (n := 1) (x := k) (v := .int .i64 k) rfl (by omega) (by rw [Int.toNat_natCast]; exact hk) rfl (zA.2 ?_)
  have hpl : (rowP q.g st off n)[k.toNat]? = some (plcP q.g st off k) := by
   unfold rowP
   rw [List.getElem?_map, List.getElem?_range (by omega)]
   show some (plcP q.g st off ((k.toNat : Nat) : Int)) = _
   rw [show ((k.toNat : Nat) : Int) = k by omega]
  refine (s2.yA k1 (by simp)).ldA (i := k) (n := 2) (x := plcP q.g st off k) rfl hkr.1 hpl ?_
  refine yN (by rw [zAu]; rfl) rfl (fun v hv => O7.one _ v (by simpa using hv)) fun w2 hb2 k2 z2 => ?_
  have hb2 : Has w2 w1.heap.size (.cells (plcV (plcP q.g st off k)) 84 (0, 0)) := hb2
  have k02 := k1.trans k2
  refine zG (v := .slice dp dl dc) (k02.has hb (by simp)) rfl (zC.2 ?_)
  refine zG (v := .int .i64 (plcP q.g st off k).dk) hb2 rfl (zA.2 ?_)
  obtain ⟨pk1, pk2⟩ := qC h.geo hst hof k
  have h2 := h.zX k02
  obtain ⟨bd, r, D, hbk, hD, hda, hdl⟩ := h2.get (i := (plcP q.g st off k).dk.toNat) (by have := h2.num; omega)
  have hDg : s.ds.getD (plcP q.g st off k).dk.toNat dsk0 = D := by rw [List.getD_eq_getElem?_getD, hD]; rfl
  refine (hsl.yA k02 (by simp)).ld0 (i := (plcP q.g st off k).dk) (n := 1) (x := bd) (v := .pointer (some ⟨bd, 0, none⟩)) rfl pk1.1 (by rw [List.getElem?_map, hbk]; rfl) rfl (zO.2 ?_)
  refine GS hda (zM.2 ?_)
  have hpK : HI q.g s st off row k = if D.dead = true then none else some ⟨plcP q.g st off k, ⟨row.getD k.toNat (sec []), sumS (plcP q.g st off k).at_ (row.getD k.toNat (sec []))⟩⟩ := by unfold HI; rw [hDg]
  refine zN (fun hal => ?_) (fun hal => ?_)
  ·have hal : D.dead = false := by simpa using hal
   rw [if_neg (by simp [hal])] at hpK
   obtain ⟨f, hf⟩ : ∃ f, row[k.toNat]? = some f := ⟨_, List.getElem?_eq_getElem (by omega)⟩
   have hfd : row.getD k.toNat (sec []) = f := by rw [List.getD_eq_getElem?_getD, hf]; rfl
   rw [hfd] at hpK
   generalize hpc : plcP q.g st off k = pc at *
   intro d
   have kd := Keep.drew (fun _ => False) w2 d
   have k0d := k02.trans kd
   have hb2d := hb2.dr d
   have oad := (oa.keep k2 (by simp)).keep kd (by simp)
   generalize w2.dr d = w3 at *
   refine ⟨fun w' => Has w' w1.heap.size (.cells (plcV pc) 84 (0, 0)) ∧ SlL yG w' p n row, ⟨hb2d, s1.yA k0d (by simp)⟩, ?_⟩
   refine jR (cs := plcV pc) rfl (fun w' hw => ⟨_, _, _, hw.1, Nat.le_refl 2, rfl⟩) ?_
   refine yO (v := .int .i64 pc.at_) (fun w' hw => ⟨_, _, _, hw.1, rfl⟩) (zA.2 ?_)
   refine SlL.ldAS (S := fun w' => Has w' w1.heap.size (.cells (plcV pc) 84 (0, 0)) ∧ SlL yG w' p n row) (w0 := w3) ⟨hb2d, s1.yA k0d (by simp)⟩ (fun w' hw => hw.2) (i := k) (x := f) (n := 16) rfl hkr.1 hf ?_
   have e16 : (yG.row f).toArray = secV f := by show ((secV f).toList).toArray = secV f; simp
   rw [e16]
   refine zB9 fun w4 k4 => zJ.2 ⟨rfl, ?_⟩
   have hS : ∀ {w' : World}, Keep (fun _ => False) w3 w' → Has w' w1.heap.size (.cells (plcV pc) 84 (0, 0)) ∧ SlL yG w' p n row := fun k' => ⟨k'.has hb2d (by simp), s1.yA (k0d.trans k') (by simp)⟩
   refine ⟨hS k4, ?_⟩
   refine ⟨.agg (kP ⟨pc, ⟨f, sumS pc.at_ f⟩⟩), fun w' _ => zNm ⟨pc, ⟨f, sumS pc.at_ f⟩⟩ w', zJ.2 ⟨rfl, ?_⟩⟩
   refine ⟨_, _, zH8 _ w4, zC.2 ?_⟩
   have k5 := Keep.new (fun _ => False) w4 (.cells (kP ⟨pc, ⟨f, sumS pc.at_ f⟩⟩) 88)
   have hb5 := Has.new w4 (.cells (kP ⟨pc, ⟨f, sumS pc.at_ f⟩⟩) 88)
   generalize w4.alloc (.cells (kP ⟨pc, ⟨f, sumS pc.at_ f⟩⟩) 88) = w5 at *
   refine ⟨hS (k4.trans k5), ?_⟩
   have oa5 := (oad.keep k4 (by simp)).keep k5 (by simp)
   have hla := oa5.length
   have hlb : (uK q.g s st off row (ks.take j)).length ≤ 100 := by
    refine Nat.le_trans (List.length_filterMap_le _ _) ?_
    rw [List.length_take]; omega
   have k05 := (k0d.trans k4).trans k5
   have z5 := k05.size
   obtain ⟨p6', c6, w6, hr6, o6, k6, _⟩ := yK zF3 oa5 (y := ⟨pc, ⟨f, sumS pc.at_ f⟩⟩) hb5 rfl (ty := 75) (by omega) (by simp only [maxLen]; omega) (by omega) (c2 := 1)
   refine ⟨_, _, hr6, zC.2 ?_⟩
   have k06 : Keep (fun _ => False) w w6 := k05.trans' k6 fun i hi e => by have := (oa5.lt e).1; omega
   have hb6 : Has w6 w1.heap.size (.cells (plcV pc) 84 (0, 0)) := k6.has ((k4.trans k5).has hb2d (by simp)) (OwnL.neH oa5 ((k4.trans k5).has hb2d (by simp)) (by decide))
   refine ⟨⟨hb6, s1.yA k06 (by simp)⟩, ?_⟩
   refine ⟨_, by show ((ks.length : Int) - IntKind.wrap .i64 ((j : Int) + 1)).toNat < ((ks.length : Int) - (j : Int)).toNat; rw [ek]; omega, ⟨j + 1, ek, by omega, ?_, k06⟩, rfl⟩
   rw [hpk, hpK]
   exact o6
  ·have hal : D.dead = true := by simpa using hal
   rw [if_pos hal] at hpK
   refine ⟨_, by show ((ks.length : Int) - IntKind.wrap .i64 ((j : Int) + 1)).toNat < ((ks.length : Int) - (j : Int)).toNat; rw [ek]; omega, ⟨j + 1, ek, by omega, ?_, k02⟩, rfl⟩
   rw [hpk, hpK]
   show OwnL jM w2 w.heap.size 88 pa la ca (uK q.g s st off row (ks.take j) ++ [])
   rw [List.append_nil]
   exact oa.keep k2 (by simp)
 ·have hc : j = ks.length := by
   have : ¬ (j : Int) < (ks.length : Int) := by simpa using hc
   omega
  subst hc
  rw [List.take_length] at oa
  have hla := oa.length
  subst hla
  exact zF.2 (hK pa ca w1 oa k1)
end calls
end Go.Proofs
