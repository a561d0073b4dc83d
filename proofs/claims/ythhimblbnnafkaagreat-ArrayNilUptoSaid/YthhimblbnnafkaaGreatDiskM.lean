import Derived.Test.YthhimblbnnafkaaGreatCrc
import Derived.Test.YthhimblbnnafkaaGreatRow
import Derived.Laws.MakeOwn
import Derived.Test.YthhimblbnnafkaaGreatMains
import Derived.Test.YthhimblbnnafkaaGreatFStrp

/-
  THE SUM OF A CELL: what Seal answers.
-/
namespace Go.Proofs
open Go Go.Ev
set_option linter.unusedSimpArgs false
set_option linter.unusedVariables false
set_option maxRecDepth 100000

/-- a sector with its sum -/
structure Cel where
  data : Sec
  sum : Int
def celL (c : Cel) : List Value := (secV c.data).toList ++ [.int .u32 c.sum]
def celV (c : Cel) : Array Value := (celL c).toArray
theorem one_celV (c : Cel) : ∀ v ∈ (celV c).toList, oneV v = true := by
  intro v hv
  have hv : v ∈ (secV c.data).toList ++ [.int .u32 c.sum] := by simpa [celV, celL] using hv
  rcases List.mem_append.1 hv with h | h
  · exact one_secV _ v h
  · rw [List.mem_singleton.1 h]; rfl
/-- the bytes of a place -/
def atB (at_ : Int) (k : Nat) : Int := IntKind.wrap .u8 (ishr .i64 at_ (56 - 8 * (k : Int)))
def atBs (at_ : Int) : List Int := [atB at_ 0, atB at_ 1, atB at_ 2, atB at_ 3, atB at_ 4, atB at_ 5, atB at_ 6, atB at_ 7]
def sumS (at_ : Int) (d : Sec) : Int := crcS (atBs at_ ++ secB d)
section calls
variable {w : World} {R : Value → World → Prop}
theorem s_Seal {at_ : Int} {d : Sec} (hK : ∀ w', Keep (fun _ => False) w w' → R (.agg (celV ⟨d, sumS at_ d⟩)) w') : CallV Tryz.prog 116 #[.int .i64 at_, .agg (secV d)] w R := by
  apply C_sum_Seal
  unfold F_sum_Seal
  refine alc_fresh fun w1 hb1 k1 z1 => ?_
  refine alc_fresh fun w2 hb2 k2 z2 => ?_
  refine alc_fresh fun w3 hb3 k3 z3 => ?_
  have z24 : zc Tryz.prog 285 = ofF 24 fun _ => .int .u8 0 := by kernel_rfl
  rw [z24] at hb3
  have hd3 := k3.has (k2.has hb1 (by simp)) (by simp)
  have hc3 := k3.has hb2 (by simp)
  have k03 := (k1.trans k2).trans k3
  have hs2 : w.heap.size < w2.heap.size := by omega
  have hs12 : w1.heap.size < w2.heap.size := by omega
  have hs01 : w.heap.size < w1.heap.size := by omega
  generalize w2.heap.size = b2 at *
  generalize w1.heap.size = b1 at *
  generalize hb : w.heap.size = b at *
  refine LoopC_of (σ := Int × Unit) (fun st w' => ∃ k : Nat, st.1 = (k : Int) ∧ k ≤ 8 ∧ Has w' b2 (.cells (ofF 24 fun j => if j < k then .int .u8 (atB at_ j) else .int .u8 0) 285 (0, 0)) ∧ Keep (fun k => k = b2) w3 w') (fun st _ => (8 - st.1).toNat)
    ⟨0, rfl, by omega, by simpa using hb3, Keep.refl _ _⟩ ?_
  rintro _ ⟨i, u⟩ w4 ⟨k, hi, hk, h4, k4⟩
  simp only at hi ⊢
  subst hi
  refine Cb_of (fun hc => ?_) (fun hc => ?_)
  · have hc : k < 8 := by
      have : (k : Int) < 8 := by simpa using hc
      omega
    have e1 : IntKind.wrap .i64 (8 * (k : Int)) = 8 * (k : Int) := wrapI (by omega) (by omega)
    have e2 : IntKind.wrap .i64 (56 - 8 * (k : Int)) = 56 - 8 * (k : Int) := wrapI (by omega) (by omega)
    have e3 : IntKind.wrap .i64 ((k : Int) + 1) = ((k + 1 : Nat) : Int) := by rw [wrapI (by omega) (by omega)]; omega
    rw [e1, e2, e3]
    refine ⟨by omega, by omega, ?_⟩
    refine StV_of h4 (by simp; omega) rfl ?_
    refine ⟨_, by show (8 - ((k + 1 : Nat) : Int)).toNat < (8 - (k : Int)).toNat; omega, ⟨k + 1, rfl, by omega, ?_, k4.upd (fun _ => rfl) _⟩, rfl⟩
    have := h4.upd_same (.cells ((ofF 24 fun j => if j < k then .int .u8 (atB at_ j) else .int .u8 0).setIfInBounds (0 + (k : Int).toNat * 1) (.int .u8 (atB at_ k))) 285 (0, 0))
    rw [set_ofF] at this
    have e : (fun j => if j = 0 + (k : Int).toNat * 1 then Value.int .u8 (atB at_ k) else if j < k then .int .u8 (atB at_ j) else .int .u8 0) = fun j => if j < k + 1 then Value.int .u8 (atB at_ j) else .int .u8 0 := by
      funext j
      by_cases h1 : j = k
      · subst h1
        rw [if_pos (by omega), if_pos (by omega)]
      · rw [if_neg (by omega)]
        by_cases h2 : j < k
        · rw [if_pos h2, if_pos (by omega)]
        · rw [if_neg h2, if_neg (by omega)]
    rw [e] at this
    have e5 : (ofF 24 fun j => if j < k then Value.int .u8 (atB at_ j) else .int .u8 0).setIfInBounds (0 + (k : Int).toNat * 1) (.int .u8 (IntKind.wrap .u8 (ishr .i64 at_ (56 - 8 * (k : Int))))) = ofF 24 fun j => if j < k + 1 then Value.int .u8 (atB at_ j) else .int .u8 0 := by
      rw [set_ofF, ← e]; rfl
    rw [e5]
    exact this
  · have hc : k = 8 := by
      have : ¬ (k : Int) < 8 := by simpa using hc
      omega
    subst hc
    have o4 : OwnL byLay w4 b2 285 (some ⟨b2, 0, none⟩) 24 24 (atBs at_ ++ List.replicate 16 0) := by
      refine OwnL.mk (xs := atBs at_ ++ List.replicate 16 0) (Nat.le_refl _) h4 (by simp [atBs, maxLen]) ?_
      rw [by_rows]
      rfl
    have hd4 := k4.has hd3 (by omega)
    have hc4 := k4.has hc3 (by omega)
    intro dd _
    refine Slc_from (lo := 8) (by omega) (by omega) ?_
    refine Slc_all (by omega) ?_
    have o4d := o4.keep (Keep.drew (fun _ => False) w4 dd) (by simp)
    obtain ⟨w5, hr5, o5, k5⟩ := own_copy (a := ⟨b, 0, none⟩) (ds := secB d) (lo := 8) (n := 16) o4d (fun j x hx => by
      rw [add_add', cell_of (hd4.dr dd), Nat.zero_add]
      have e : (secV d).toList = (secB d).map fun y => Value.int .u8 y := rfl
      rw [← Array.getElem?_toList, e, List.getElem?_map, hx]; rfl) rfl (by decide) 16 16
    refine ⟨_, _, hr5, OpI_int.2 ?_⟩
    have e24 : (atBs at_ ++ List.replicate 16 (0 : Int)).take 8 ++ secB d ++ (atBs at_ ++ List.replicate 16 (0 : Int)).drop (8 + 16) = atBs at_ ++ secB d := rfl
    rw [e24] at o5
    have hd5 := k5.has (hd4.dr dd) (by omega)
    have hc5 := k5.has (hc4.dr dd) (by omega)
    intro d2 _
    refine LdA_all (hd5.dr d2) rfl ?_
    refine Slc_all (by omega) ?_
    have o5d := o5.keep (Keep.drew (fun _ => False) w5 d2) (by simp)
    refine CallS_of (V := .int .u32 (sumS at_ d)) (s_Crc o5d.sl (by omega) ⟨rfl, rfl⟩) ?_
    refine OpI_int.2 ?_
    refine DoQ_of (v := .agg (celV ⟨d, sumS at_ d⟩)) (fun _ => run_build _ _ _ _ (by kernel_rfl)) ?_
    refine OpA_agg.2 ⟨rfl, ?_⟩
    refine StA_all (hc5.dr d2) rfl (by kernel_rfl) (one_celV _) ?_
    refine LdA_all ((hc5.dr d2).upd_same _) rfl ?_
    refine Ret_nil.2 (hK _ ?_)
    have k35 : Keep (fun k => k = b2) w3 w5 := (k4.dr dd).trans (k5.mono fun k hk => hk)
    refine ((k03.trans' k35 fun k hk e => by omega).dr d2).upd (by omega) _
end calls
end Go.Proofs

/-
  make: a row of its own, all of one kind of element.
-/
namespace Go.Proofs
open Go Go.Ev
set_option linter.unusedSimpArgs false
set_option linter.unusedVariables false
set_option maxRecDepth 100000

theorem made_rows (z : Array Value) (hz : 0 < z.size) : ∀ n : Nat, (madeCells z (n * z.size)).toList = (List.replicate n z.toList).flatten
  | 0 => by simp [madeCells]
  | n + 1 => by
    have ih := made_rows z hz n
    have e : ∀ m, (madeCells z m).toList = (List.range m).map fun i => z[i % z.size]! := by
      intro m
      unfold madeCells
      simp
    rw [e] at ih ⊢
    rw [Nat.succ_mul, List.range_add, List.map_append, ih, List.replicate_succ', List.flatten_append]
    congr 1
    rw [List.map_map]
    simp only [List.flatten_cons, List.flatten_nil, List.append_nil]
    apply List.ext_getElem
    · simp
    · intro i h1 h2
      have hi : i < z.size := by simpa using h1
      simp only [List.getElem_map, List.getElem_range, Function.comp_apply]
      rw [Nat.mul_add_mod_self_right, Nat.mod_eq_of_lt hi]
      simp [hi]
theorem run_makeL {P : Program} {α : Type} {L : Lay α} {t e : TypeId} {i : TypeInfo} {z : Value} {x0 : α} (w : World) (ht : P.underlying t = some (.slice e)) (hi : P.info? e = some i) (hz : i.zero = some z) (hx : z.cells.toList = L.row x0) (hs : i.size = L.size) (n : Nat) (h1 : n * L.size ≤ 16777216) (h2 : (i.bytes : Int) * (n : Int) ≤ 281474976710656) (h3 : n ≤ maxLen) :
    ∃ w', (Instr.makeSlice t (.int .i64 (n : Int)) (.int .i64 (n : Int))).run P w = .ok (.slice (some ⟨w.heap.size, 0, none⟩) n n) w' ∧ OwnL L w' w.heap.size e (some ⟨w.heap.size, 0, none⟩) n n (List.replicate n x0) ∧ Keep (fun _ => False) w w' ∧ w'.heap.size = w.heap.size + 1 := by
  have hr := run_makeSlice (P := P) w t e i z ht hi hz .i64 .i64 (n : Int) (n : Int) (by omega) (by omega) (by rw [Int.toNat_natCast, hs]; exact h1) h2 (by simp only [maxLen] at h3; omega)
  rw [Int.toNat_natCast, hs] at hr
  refine ⟨_, hr, ?_, Keep.new _ _ _, by simp⟩
  have hzs : z.cells.size = L.size := by
    have : z.cells.toList.length = (L.row x0).length := by rw [hx]
    rw [L.len] at this
    simpa using this
  have hlen : (List.replicate n x0).length = n := by simp
  have := OwnL.mk (L := L) (w := w.alloc (.cells (madeCells z.cells (n * L.size)) e)) (base := w.heap.size) (e := e) (xs := List.replicate n x0) (b := w.heap.size) (cs := madeCells z.cells (n * L.size)) (Nat.le_refl _) (Has.new _ _) (by rw [hlen]; exact h3) (by
    have hp : 0 < z.cells.size := by rw [hzs]; exact L.pos
    rw [← hzs, made_rows z.cells hp n, hx, L.rows_eq]
    simp)
  rw [hlen] at this
  exact this
end Go.Proofs

/-
  A DISK: New, On, Size, in, Read, Write.
-/
namespace Go.Proofs
open Go Go.Ev
set_option linter.unusedSimpArgs false
set_option linter.unusedVariables false
set_option maxRecDepth 100000

/-- a sector of a disk -/
structure Sct where
  cel : Cel
  good : Bool
def sctL (x : Sct) : List Value := celL x.cel ++ [.bool x.good]
theorem len_celL (c : Cel) : (celL c).length = 17 := rfl
theorem one_celL (c : Cel) : ∀ v ∈ celL c, oneV v = true := fun v hv => one_celV c v (by simpa [celV] using hv)
theorem one_sctL (x : Sct) : ∀ v ∈ sctL x, oneV v = true := by
  intro v hv
  rcases List.mem_append.1 hv with h | h
  · exact one_celL _ v h
  · rw [List.mem_singleton.1 h]; rfl
def cLay : Lay Cel := ⟨17, celL, fun _ => rfl, one_celL, by decide⟩
def kLay : Lay Sct := ⟨18, sctL, fun _ => rfl, one_sctL, by decide⟩
structure Dsk where
  secs : List Sct
  key : Int
  dead : Bool
def diskC (m r : Nat) (D : Dsk) : Array Value := #[.pointer (some ⟨m, 0, none⟩), .slice (some ⟨r, 0, none⟩) D.secs.length D.secs.length, .int .u32 D.key, .bool D.dead]
structure DiskAt (w : World) (m b r : Nat) (D : Dsk) : Prop where
  cells : Has w b (.cells (diskC m r D) 220 (0, 0))
  row : OwnL kLay w 0 260 (some ⟨r, 0, none⟩) D.secs.length D.secs.length D.secs
theorem DiskAt.keep {w w' : World} {m b r : Nat} {D : Dsk} {S : Nat → Prop} (h : DiskAt w m b r D) (k : Keep S w w') (h1 : ¬ S b) (h2 : ¬ S r) : DiskAt w' m b r D :=
  ⟨k.has h.cells h1, h.row.keep k fun i hi => by cases hi; exact h2⟩
theorem DiskAt.rcells {w : World} {m b r : Nat} {D : Dsk} (h : DiskAt w m b r D) : ∃ cs, Has w r (.cells cs 260 (0, 0)) := by
  rcases Own.cases h.row with ⟨h0, _⟩ | ⟨b', cur, h0, _, hg, _⟩
  · cases h0
  · cases h0; exact ⟨_, hg⟩
theorem DiskAt.ne {w : World} {m b r : Nat} {D : Dsk} (h : DiskAt w m b r D) : b ≠ r := by
  obtain ⟨cs, hc⟩ := h.rcells
  exact h.cells.ne hc (by simp only [ne_eq, Obj.cells.injEq]; intro e; exact absurd e.2.1 (by decide))
theorem DiskAt.nem {w : World} {m b r : Nat} {D : Dsk} {pw : Pow} (h : DiskAt w m b r D) (hm : MaAt w m pw) : b ≠ m ∧ r ≠ m := by
  obtain ⟨cs, hc⟩ := h.rcells
  have hm : Has w m _ := hm
  exact ⟨h.cells.ne hm (by simp only [ne_eq, Obj.cells.injEq]; intro e; exact absurd e.2.1 (by decide)), hc.ne hm (by simp only [ne_eq, Obj.cells.injEq]; intro e; exact absurd e.2.1 (by decide))⟩
def sct0 : Sct := ⟨⟨sec [], 0⟩, false⟩
def cel0 : Cel := ⟨sec [], 0⟩
theorem zc_cel : zc Tryz.prog 86 = celV cel0 := by kernel_rfl
theorem bld_cel0 (w : World) : (Instr.build 86 #[]).run Tryz.prog w = .ok (.agg (celV cel0)) w := run_build _ _ _ _ (by kernel_rfl)
theorem OwnL.ldP {α : Type} {L : Lay α} {w : World} {base : Nat} {e : TypeId} {p : Option Addr} {l c : Nat} {xs : List α} (h : OwnL L w base e p l c xs) {i : Int} {x : α} {n m : Nat} (hn : L.size = n) (hm : m ≤ n) (h0 : 0 ≤ i) (hi : xs[i.toNat]? = some x) {cs : Array Value} (hcs : cs.toList = (L.row x).take m) {K : Array Value → Prop} (hK : K cs) :
    IdxS p l i n fun b o => LdA m b o (At w) K := by
  subst hn
  obtain ⟨b, rfl, hc⟩ := h.at hi
  have hlt := (List.getElem?_eq_some_iff.1 hi).1
  refine ⟨b, 0, rfl, h0, by have := h.length; omega, cs, ?_, ?_, hK⟩
  · have : cs.toList.length = m := by rw [hcs, List.length_take, L.len]; omega
    simpa using this
  · rintro w' ⟨d, rfl⟩ j hj
    rw [Nat.zero_add]
    have := hc j (by omega)
    rw [show (w.dr d).cell? ⟨b, i.toNat * L.size + j, none⟩ = w.cell? ⟨b, i.toNat * L.size + j, none⟩ from rfl, this, ← Array.getElem?_toList, hcs, List.getElem?_take, if_pos hj]
section calls
variable {w : World} {m b r : Nat} {D : Dsk} {R : Value → World → Prop}
theorem d_New {n : Nat} (h1 : 1 ≤ n) (h2 : n ≤ 1024) (hK : ∀ b r w', DiskAt w' m b r ⟨List.replicate n sct0, 0, false⟩ → Keep (fun _ => False) w w' → w.heap.size ≤ b → w.heap.size ≤ r → R (.tuple #[.pointer (some ⟨b, 0, none⟩), .int .i64 0]) w') :
    CallV Tryz.prog 129 #[.int .i64 (n : Int), .pointer (some ⟨m, 0, none⟩)] w R := by
  apply C_disk_New
  unfold F_disk_New
  refine ⟨rfl, rfl, rfl, rfl, ?_⟩
  rw [decide_eq_false (show ¬ (n : Int) < 1 by omega), decide_eq_false (show ¬ (n : Int) > 1024 by omega)]
  refine (Cb_false (p := _)).2 ?_
  obtain ⟨w1, hr, o1, k1, z1⟩ := run_makeL (P := Tryz.prog) (L := kLay) (x0 := sct0) (t := 218) (e := 260) (i := (Tryz.prog.info? 260).get (by kernel_rfl)) (z := ((Tryz.prog.info? 260).get (by kernel_rfl)).zero.get (by kernel_rfl)) w (by kernel_rfl) (by kernel_rfl) (by kernel_rfl) (by kernel_rfl) (by kernel_rfl) n
    (by show n * 18 ≤ _; omega) (by have : ((Tryz.prog.info? 260).get (by kernel_rfl)).bytes = 24 := by kernel_rfl
                                    rw [this]; omega) (by simp only [maxLen]; omega)
  refine ⟨_, _, hr, OpS_slice.2 ?_⟩
  have hlen : (List.replicate n sct0).length = n := by simp
  refine DoQ_of (v := .agg (diskC m w.heap.size ⟨List.replicate n sct0, 0, false⟩)) (fun d => ?_) (OpA_agg.2 ⟨rfl, ?_⟩)
  · have : ∀ l : Nat, (Instr.build 220 #[(0, .pointer (some ⟨m, 0, none⟩)), (1, .slice (some ⟨w.heap.size, 0, none⟩) l l)]).run Tryz.prog (w1.dr d) = .ok (.agg #[.pointer (some ⟨m, 0, none⟩), .slice (some ⟨w.heap.size, 0, none⟩) l l, .int .u32 0, .bool false]) (w1.dr d) := fun l => run_build _ _ _ _ (by kernel_rfl)
    rw [this]
    unfold diskC
    rw [hlen]
  refine alc_fresh fun w2 hb k2 z2 => ?_
  refine Ret_nil.2 (hK w1.heap.size w.heap.size w2 ⟨hb, ?_⟩ (k1.trans k2) (by omega) (Nat.le_refl _))
  rw [hlen]
  exact (o1.rebase (Nat.zero_le _)).keep k2 (by simp)
theorem d_On (h : DiskAt w m b r D) {m2 : Nat} (hK : ∀ w', DiskAt w' m2 b r D → Keep (fun k => k = b) w w' → R (.pointer (some ⟨b, 0, none⟩)) w') : CallV Tryz.prog 130 #[.pointer (some ⟨b, 0, none⟩), .pointer (some ⟨m2, 0, none⟩)] w R := by
  apply C_disk_Disk_On
  unfold F_disk_Disk_On
  refine StV_of h.cells (by show 0 < 4; decide) rfl ?_
  refine Ret_nil.2 (hK _ ⟨h.cells.upd_same _, ?_⟩ (Keep.one _ _ _))
  exact h.row.keep (Keep.one w b _) fun k hk e => by
    subst e
    injection hk with hk
    injection hk with hk
    exact h.ne hk.symm
theorem d_Size (h : DiskAt w m b r D) (hK : R (.int .i64 (D.secs.length : Int)) w) : CallV Tryz.prog 119 #[.pointer (some ⟨b, 0, none⟩)] w R := by
  apply C_disk_Disk_Size
  unfold F_disk_Disk_Size
  refine LdV_has (v := .slice (some ⟨r, 0, none⟩) D.secs.length D.secs.length) h.cells rfl ?_
  exact OpS_slice.2 (Ret_nil.2 hK)
theorem d_in (h : DiskAt w m b r D) {at_ : Int} (hK : R (.bool (decide (0 ≤ at_ ∧ at_ < (D.secs.length : Int)))) w) : CallV Tryz.prog 172 #[.pointer (some ⟨b, 0, none⟩), .int .i64 at_] w R := by
  apply C_disk_Disk_in
  unfold F_disk_Disk_in
  refine ⟨rfl, rfl, ?_⟩
  refine Cb_of (fun hc => ?_) (fun hc => ?_)
  · have hc : 0 ≤ at_ := by simpa using hc
    refine LdV_has (v := .slice (some ⟨r, 0, none⟩) D.secs.length D.secs.length) h.cells rfl ?_
    refine OpS_slice.2 (Ret_nil.2 ?_)
    have e : decide (at_ < (D.secs.length : Int)) = decide (0 ≤ at_ ∧ at_ < (D.secs.length : Int)) := by simp [hc]
    rw [e]; exact hK
  · have hc : ¬ 0 ≤ at_ := by simpa using hc
    refine Ret_nil.2 ?_
    have e : false = decide (0 ≤ at_ ∧ at_ < (D.secs.length : Int)) := by simp [hc]
    rw [e]; exact hK
/-- what Read answers -/
def readD (pw : Pow) (D : Dsk) (at_ : Int) : Cel × Int :=
  if ¬ (0 ≤ at_ ∧ at_ < (D.secs.length : Int)) then (cel0, 2)
  else if pw.on = false then (cel0, 4)
  else if D.dead = true then (cel0, 5)
  else if (D.secs.getD at_.toNat sct0).good = false then (cel0, 7)
  else ((D.secs.getD at_.toNat sct0).cel, 0)
theorem d_Read {pw : Pow} (h : DiskAt w m b r D) (hm : MaAt w m pw) {at_ : Int} (hK : ∀ w', Keep (fun _ => False) w w' → R (.tuple #[.agg (celV (readD pw D at_).1), .int .i64 (readD pw D at_).2]) w') : CallV Tryz.prog 175 #[.pointer (some ⟨b, 0, none⟩), .int .i64 at_] w R := by
  apply C_disk_Disk_Read
  unfold F_disk_Disk_Read
  refine alc_fresh fun w1 hb1 k1 z1 => ?_
  rw [zc_cel] at hb1
  have h1 := h.keep k1 (by simp) (by simp)
  have hm1 : MaAt w1 m pw := k1.has hm (by simp)
  have fin : ∀ (c : Cel) (e : Int), readD pw D at_ = (c, e) → StA 17 w.heap.size 0 (celV c) w1 fun w2 => LdA 17 w.heap.size 0 (At w2) fun cs => Ret [] (R (.tuple #[.agg cs, .int .i64 e]) w2) := by
    intro c e he
    rw [he] at hK
    refine StA_all hb1 rfl rfl (one_celV _) ?_
    refine LdA_all (hb1.upd_same _) rfl ?_
    exact Ret_nil.2 (hK _ (k1.upd (by omega) _))
  have bad : ∀ (e : Int), readD pw D at_ = (cel0, e) → DoQ Tryz.prog (Instr.build 86 #[]) (At w1) fun v1 => OpA 17 v1 fun cs => StA 17 w.heap.size 0 cs w1 fun w2 => LdA 17 w.heap.size 0 (At w2) fun cs1 => Ret [] (R (.tuple #[.agg cs1, .int .i64 e]) w2) := by
    intro e he
    refine DoQ_of (fun d => bld_cel0 _) (OpA_agg.2 ⟨rfl, ?_⟩)
    exact fin cel0 e he
  refine d_in h1 ?_
  refine OpB_bool.2 ?_
  refine Cb_of (fun hc => ?_) (fun hc => ?_)
  · have hc : ¬ (0 ≤ at_ ∧ at_ < (D.secs.length : Int)) := by
      rw [Bool.not_eq_true', decide_eq_false_iff_not] at hc
      exact hc
    exact bad 2 (by unfold readD; rw [if_pos hc])
  have hin : 0 ≤ at_ ∧ at_ < (D.secs.length : Int) := by simpa using hc
  refine LdV_has (v := .pointer (some ⟨m, 0, none⟩)) h1.cells rfl (OpN_some.2 ?_)
  refine ma_On hm1 (OpB_bool.2 ?_)
  refine Cb_of (fun hc => ?_) (fun hc => ?_)
  · have hc : pw.on = false := by simpa using hc
    exact bad 4 (by unfold readD; rw [if_neg (by simpa using hin), if_pos hc])
  have hon : pw.on = true := by simpa using hc
  refine LdV_has (v := .bool D.dead) h1.cells rfl (OpB_bool.2 ?_)
  refine Cb_of (fun hc => ?_) (fun hc => ?_)
  · exact bad 5 (by unfold readD; rw [if_neg (by simpa using hin), if_neg (by simp [hon]), if_pos hc])
  refine LdV_has (v := .slice (some ⟨r, 0, none⟩) D.secs.length D.secs.length) h1.cells rfl (OpS_slice.2 ?_)
  have hget : D.secs[at_.toNat]? = some (D.secs.getD at_.toNat sct0) := by
    have := getD_at (xs := D.secs) (i := at_.toNat) (by omega) sct0
    rwa [Int.toNat_natCast] at this
  have hd : D.dead = false := hc
  generalize hx : D.secs.getD at_.toNat sct0 = x at hget
  refine h1.row.ldF (i := at_) (n := 18) (t := 17) (x := x) (v := .bool x.good) rfl hin.1 hget rfl (OpB_bool.2 ?_)
  refine Cb_of (fun hg => ?_) (fun hg => ?_)
  · have hg : x.good = false := by simpa using hg
    exact bad 7 (by unfold readD; rw [if_neg (by simpa using hin), if_neg (by simp [hon]), if_neg (by simp [hd]), hx, if_pos hg])
  have hg : x.good = true := by simpa using hg
  refine LdV_has (v := .slice (some ⟨r, 0, none⟩) D.secs.length D.secs.length) h1.cells rfl (OpS_slice.2 ?_)
  refine OwnL.ldP h1.row (i := at_) (n := 18) (m := 17) (x := x) (cs := celV x.cel) rfl (by omega) hin.1 hget rfl ?_
  exact fin x.cel 0 (by unfold readD; rw [if_neg (by simpa using hin), if_neg (by simp [hon]), if_neg (by simp [hd]), hx, if_neg (by simp [hg])])
/-- what Write of one cell answers (how many, the error), the power and the disk behind it -/
def writeD (pw : Pow) (D : Dsk) (at_ : Int) (c : Cel) (ep : Int) : (Int × Int) × Pow × Dsk :=
  if pw.on = false then ((0, 4), pw, D)
  else if D.dead = true then ((0, 5), pw, D)
  else if ep < D.key then ((0, 6), pw, D)
  else if (stepP pw).1 = false then ((0, 4), (stepP pw).2, D)
  else ((1, 0), (stepP pw).2, { D with secs := D.secs.set at_.toNat ⟨c, true⟩ })
theorem d_Write {pw : Pow} (h : DiskAt w m b r D) (hm : MaAt w m pw) {at_ ep : Int} {c : Cel} {cp : Option Addr} {cc : Nat} (hcl : SlL cLay w cp 1 [c]) (hat : 0 ≤ at_ ∧ at_ < (D.secs.length : Int))
    (hK : ∀ w', DiskAt w' m b r (writeD pw D at_ c ep).2.2 → MaAt w' m (writeD pw D at_ c ep).2.1 → Keep (fun k => k = m ∨ k = r) w w' → R (.tuple #[.int .i64 (writeD pw D at_ c ep).1.1, .int .i64 (writeD pw D at_ c ep).1.2]) w') : CallV Tryz.prog 120 #[.pointer (some ⟨b, 0, none⟩), .int .i64 at_, .slice cp 1 cc, .int .u32 ep] w R := by
  apply C_disk_Disk_Write
  unfold F_disk_Disk_Write
  have hcap := h.row.cap
  have hmax : D.secs.length ≤ 9223372036854775807 := by have := hcap.1; have := hcap.2; simp only [maxLen] at this; omega
  refine ⟨rfl, rfl, ?_⟩
  rw [decide_eq_false (show ¬ at_ < 0 by omega)]
  refine (Cb_false (p := _)).2 ?_
  refine LdV_has (v := .slice (some ⟨r, 0, none⟩) D.secs.length D.secs.length) h.cells rfl (OpS_slice.2 ?_)
  rw [decide_eq_false (show ¬ at_ > (D.secs.length : Int) by omega)]
  refine (Cb_false (p := _)).2 ?_
  refine LdV_has (v := .slice (some ⟨r, 0, none⟩) D.secs.length D.secs.length) h.cells rfl (OpS_slice.2 ?_)
  have e1 : IntKind.wrap .i64 ((D.secs.length : Int) - at_) = (D.secs.length : Int) - at_ := wrapI (by omega) (by omega)
  rw [e1, decide_eq_false (show ¬ (((1 : Nat) : Int) > (D.secs.length : Int) - at_) by omega)]
  refine (Cb_false (p := _)).2 ?_
  unfold writeD at hK
  refine LdV_has (v := .pointer (some ⟨m, 0, none⟩)) h.cells rfl (OpN_some.2 ?_)
  refine ma_On hm (OpB_bool.2 ?_)
  refine Cb_of (fun hc => ?_) (fun hc => ?_)
  · have hc : pw.on = false := by simpa using hc
    rw [if_pos hc] at hK
    exact Ret_nil.2 (hK w h hm (Keep.refl _ _))
  have hon : pw.on = true := by simpa using hc
  rw [if_neg (by simp [hon])] at hK
  refine LdV_has (v := .bool D.dead) h.cells rfl (OpB_bool.2 ?_)
  refine Cb_of (fun hd => ?_) (fun hd => ?_)
  · rw [if_pos hd] at hK
    exact Ret_nil.2 (hK w h hm (Keep.refl _ _))
  have hd : D.dead = false := hd
  rw [if_neg (by simp [hd])] at hK
  refine LdV_has (v := .int .u32 D.key) h.cells rfl (OpI_int.2 ?_)
  refine Cb_of (fun hk => ?_) (fun hk => ?_)
  · have hk : ep < D.key := by simpa using hk
    rw [if_pos hk] at hK
    exact Ret_nil.2 (hK w h hm (Keep.refl _ _))
  have hk : ¬ ep < D.key := by simpa using hk
  rw [if_neg hk] at hK
  have hne := h.ne
  obtain ⟨hbm, hrm⟩ := h.nem hm
  -- one turn
  refine LoopC_of (σ := Int × Unit) (fun st w' => (st.1 = 0 ∧ w' = w) ∨ (st.1 = 1 ∧ ((stepP pw).1 = true ∧ DiskAt w' m b r { D with secs := D.secs.set at_.toNat ⟨c, true⟩ } ∧ MaAt w' m (stepP pw).2 ∧ Keep (fun k => k = m ∨ k = r) w w'))) (fun st _ => (1 - st.1).toNat) (Or.inl ⟨rfl, rfl⟩) ?_
  rintro _ ⟨i, u⟩ w1 hI
  simp only at hI ⊢
  rcases hI with ⟨hi, hw⟩ | ⟨hi, hst, hd1, hm1, k1⟩
  · subst hi
    rw [hw]
    clear hw
    refine (Cb_true (q := _)).2 ?_
    refine hcl.ldA (i := 0) (n := 17) (x := c) rfl (by omega) rfl ?_
    refine copy_of (by rw [zc_cel]; rfl) rfl (one_celV c) fun w2 hb2 k2 z2 => ?_
    have h2 := h.keep k2 (by simp) (by simp)
    have hm2 : MaAt w2 m pw := k2.has hm (by simp)
    refine LdV_has (v := .pointer (some ⟨m, 0, none⟩)) h2.cells rfl (OpN_some.2 ?_)
    refine ma_Step hm2 fun w3 hm3 k3 z3 => ?_
    refine OpB_bool.2 ?_
    have h3 := h2.keep k3 hbm hrm
    have hwm : w.heap.size ≠ m := by have := (show Has w m _ from hm).lt; omega
    have hb3 := k3.has hb2 hwm
    have k03 : Keep (fun k => k = m ∨ k = r) w w3 := (k2.mono fun _ h => h.elim).trans (k3.mono fun _ h => Or.inl h)
    refine Cb_of (fun hst => ?_) (fun hst => ?_)
    · have hst : (stepP pw).1 = false := by simpa using hst
      rw [if_pos hst] at hK
      exact Ret_nil.2 (hK w3 h3 hm3 k03)
    · have hst : (stepP pw).1 = true := by simpa using hst
      intro dd _
      have kd := Keep.drew (fun _ => False) w3 dd
      have h4 := h3.keep kd (by simp) (by simp)
      refine LdV_has (v := .slice (some ⟨r, 0, none⟩) D.secs.length D.secs.length) h4.cells rfl (OpS_slice.2 ?_)
      refine LdA_all (hb3.dr dd) rfl ?_
      refine DoQ_of (v := .agg (sctL ⟨c, true⟩).toArray) (fun _ => run_build _ _ _ _ (by kernel_rfl)) ?_
      refine OpA_agg.2 ⟨rfl, ?_⟩
      have e2 : IntKind.wrap .i64 (at_ + 0) = at_ := by rw [Int.add_zero, wrapI (by omega) (by omega)]
      rw [e2]
      refine h4.row.stA (i := at_) (n := 18) rfl hat.1 hat.2 ⟨c, true⟩ rfl fun w5 o5 k5 z5 => ?_
      have k5' : Keep (fun k => k = r) (w3.dr dd) w5 := k5.mono fun k e => by
        injection e with e
        injection e with e
        exact e.symm
      refine ⟨_, by show (1 - IntKind.wrap .i64 (0 + 1)).toNat < _; decide +kernel, Or.inr ⟨by show IntKind.wrap .i64 (0 + 1) = 1; decide +kernel, hst, ⟨?_, ?_⟩, k5'.has (hm3.dr dd) (fun e => hrm e.symm), (k03.dr dd).trans (k5'.mono fun _ h => Or.inr h)⟩, rfl⟩
      · have := k5'.has h4.cells hne
        have e3 : diskC m r D = diskC m r { D with secs := D.secs.set at_.toNat ⟨c, true⟩ } := by unfold diskC; simp
        rw [e3] at this
        exact this
      · have el : (D.secs.set at_.toNat ⟨c, true⟩).length = D.secs.length := by simp
        show OwnL kLay w5 0 _ _ (D.secs.set at_.toNat ⟨c, true⟩).length (D.secs.set at_.toNat ⟨c, true⟩).length _
        rw [el]
        exact o5
  · subst hi
    refine (Cb_false (p := _)).2 ?_
    rw [if_neg (by rw [hst]; simp)] at hK
    exact Ret_nil.2 (hK w1 hd1 hm1 k1)
end calls
end Go.Proofs
