import Derived.Test.YthhimblbnnafkaaGreatDiskM
import Derived.Test.YthhimblbnnafkaaGreatLayM
import Derived.Test.YthhimblbnnafkaaGreatFStrp
import Derived.LaidEql
import Derived.Test.YthhimblbnnafkaaGreatRows1

/-
  A SET OF DISKS: its parts, Check.
-/
namespace Go.Proofs
open Go Go.Ev
set_option linter.unusedSimpArgs false
set_option linter.unusedVariables false
set_option maxRecDepth 100000

/-- where a set's parts lie: the power, the form, of each disk its block and its row's -/
structure SB where
  m : Nat
  g : Geo
  bks : List (Nat × Nat)
structure SS where
  ds : List Dsk
  pw : Pow
def setV (g : Geo) (p : Option Addr) (l c : Nat) : Array Value := #[.int .i64 g.d, .int .i64 g.c, .int .i64 g.s, .slice p l c]
def dLay : Lay Nat := ⟨1, fun b => [.pointer (some ⟨b, 0, none⟩)], fun _ => rfl, fun y v hv => by rw [List.mem_singleton.1 hv]; rfl, by decide⟩
structure SetAt (w : World) (q : SB) (s : SS) : Prop where
  main : MaAt w q.m s.pw
  geo : GeoOk q.g
  len : q.bks.length = s.ds.length
  num : (s.ds.length : Int) = q.g.d
  disks : ∀ (i : Nat) (br : Nat × Nat) (D : Dsk), q.bks[i]? = some br → s.ds[i]? = some D → DiskAt w q.m br.1 br.2 D ∧ (D.secs.length : Int) = q.g.c * q.g.s
  nodb : (q.bks.map Prod.fst).Nodup
  nodr : (q.bks.map Prod.snd).Nodup
/-- what a call may change -/
def SFoot (q : SB) (k : Nat) : Prop := k = q.m ∨ k ∈ q.bks.map Prod.fst ∨ k ∈ q.bks.map Prod.snd
theorem nodup_at {l : List Nat} (h : l.Nodup) {i j x : Nat} (hi : l[i]? = some x) (hj : l[j]? = some x) : i = j := by
  have h1 := (List.getElem?_eq_some_iff.1 hi)
  have h2 := (List.getElem?_eq_some_iff.1 hj)
  obtain ⟨a, ha⟩ := h1
  obtain ⟨b, hb⟩ := h2
  exact (List.getElem_inj h).1 (ha.trans hb.symm)
section plain
variable {w w' : World} {q : SB} {s : SS}
theorem SetAt.keep (h : SetAt w q s) {S : Nat → Prop} (k : Keep S w w') (hS : ∀ i, SFoot q i → ¬ S i) : SetAt w' q s := by
  refine ⟨k.has (show Has w _ _ from h.main) (hS _ (Or.inl rfl)), h.geo, h.len, h.num, fun i br D hb hD => ?_, h.nodb, h.nodr⟩
  obtain ⟨h1, h2⟩ := h.disks i br D hb hD
  refine ⟨h1.keep k (hS _ (Or.inr (Or.inl ?_))) (hS _ (Or.inr (Or.inr ?_))), h2⟩
  · exact List.mem_map.2 ⟨br, List.mem_of_getElem? hb, rfl⟩
  · exact List.mem_map.2 ⟨br, List.mem_of_getElem? hb, rfl⟩
theorem SetAt.keep0 (h : SetAt w q s) (k : Keep (fun _ => False) w w') : SetAt w' q s := h.keep k fun _ _ h => h
/-- a disk is another one -/
theorem SetAt.upd (h : SetAt w q s) {i : Nat} {b r : Nat} {D' : Dsk} {pw : Pow} (hb : q.bks[i]? = some (b, r)) (k : Keep (fun k => k = q.m ∨ k = b ∨ k = r) w w') (hd : DiskAt w' q.m b r D') (hl : (D'.secs.length : Int) = q.g.c * q.g.s) (hm : MaAt w' q.m pw) :
    SetAt w' q ⟨s.ds.set i D', pw⟩ := by
  refine ⟨hm, h.geo, by simp [h.len], by simp [h.num], fun j br D hbj hD => ?_, h.nodb, h.nodr⟩
  have hD : (s.ds.set i D')[j]? = some D := hD
  by_cases hij : i = j
  · subst hij
    have hlt : i < s.ds.length := by rw [← h.len]; exact (List.getElem?_eq_some_iff.1 hb).1
    rw [List.getElem?_set_self hlt] at hD
    cases hD
    rw [hb] at hbj
    cases hbj
    exact ⟨hd, hl⟩
  · rw [List.getElem?_set_ne hij] at hD
    obtain ⟨h1, h2⟩ := h.disks j br D hbj hD
    have hDi : ∃ Di, s.ds[i]? = some Di := by
      have hlt : i < s.ds.length := by rw [← h.len]; exact (List.getElem?_eq_some_iff.1 hb).1
      exact ⟨_, List.getElem?_eq_getElem hlt⟩
    obtain ⟨Di, hDi⟩ := hDi
    obtain ⟨g1, _⟩ := h.disks i (b, r) Di hb hDi
    have ty : ∀ {x y : Nat} {cs cs' : Array Value}, Has w x (.cells cs 220 (0, 0)) → Has w y (.cells cs' 260 (0, 0)) → x ≠ y := fun h1 h2 => h1.ne h2 (by simp only [ne_eq, Obj.cells.injEq]; intro e; exact absurd e.2.1 (by decide))
    have hjb : br.1 ≠ b := fun e => hij (nodup_at h.nodb (x := b) (by rw [List.getElem?_map, hb]; rfl) (by rw [List.getElem?_map, hbj]; simp [e]))
    have hjr : br.2 ≠ r := fun e => hij (nodup_at h.nodr (x := r) (by rw [List.getElem?_map, hb]; rfl) (by rw [List.getElem?_map, hbj]; simp [e]))
    obtain ⟨c1, hc1⟩ := h1.rcells
    obtain ⟨c2, hc2⟩ := g1.rcells
    obtain ⟨m1, m2⟩ := h1.nem h.main
    refine ⟨h1.keep k ?_ ?_, h2⟩
    · rintro (e | e | e)
      · exact m1 e
      · exact hjb e
      · exact ty h1.cells hc2 e
    · rintro (e | e | e)
      · exact m2 e
      · exact ty g1.cells hc1 e.symm
      · exact hjr e
theorem SetAt.get (h : SetAt w q s) {i : Nat} (hi : i < s.ds.length) : ∃ b r D, q.bks[i]? = some (b, r) ∧ s.ds[i]? = some D ∧ DiskAt w q.m b r D ∧ (D.secs.length : Int) = q.g.c * q.g.s := by
  have h1 : i < q.bks.length := by rw [h.len]; exact hi
  refine ⟨q.bks[i].1, q.bks[i].2, s.ds[i], List.getElem?_eq_getElem h1, List.getElem?_eq_getElem hi, ?_⟩
  exact h.disks i _ _ (List.getElem?_eq_getElem h1) (List.getElem?_eq_getElem hi)
end plain

/-! ### the equality of pointers to disks -/
theorem equalIn_ptrD {P : Program} (d : Nat) {t e : TypeId} {j : TypeInfo} {a b : Nat} {ca cb : Array Value} {ta tb : TypeId} {w : World} (hp : P.underlying t = some (.pointer e)) (hte : P.info? e = some j) (hsz : j.size ≠ 0) (hne : a ≠ b) (ha : Has w a (.cells ca ta (0, 0))) (hb : Has w b (.cells cb tb (0, 0))) :
    (Op.equalIn (d + 1) t (.pointer (some ⟨a, 0, none⟩)) (.pointer (some ⟨b, 0, none⟩))).run P w = .ok false w := by
  have hs := run_sameAddr_other (P := P) w (a := ⟨a, 0, none⟩) (b := ⟨b, 0, none⟩) (fun e => by injection e with e; exact hne e) ha hb
  simp [Op.equalIn, run_underlying hp, typeInfo, sizeOf, hte, hsz, hs]
theorem eql_ptrD {a b : Nat} {ca cb : Array Value} {ta tb : TypeId} {w : World} (hne : a ≠ b) (ha : Has w a (.cells ca ta (0, 0))) (hb : Has w b (.cells cb tb (0, 0))) :
    (binOp .eql 111 (.pointer (some ⟨a, 0, none⟩)) (.pointer (some ⟨b, 0, none⟩))).run Tryz.prog w = .ok (.bool false) w := by
  have hm : (Tryz.prog.info? 220).map (·.size) = some 4 := by kernel_rfl
  cases hj : Tryz.prog.info? 220 with
  | none => rw [hj] at hm; cases hm
  | some j =>
    rw [hj] at hm
    have hz : j.size = 4 := Option.some.inj hm
    have := equalIn_ptrD (P := Tryz.prog) 9999 (t := 111) (e := 220) (by kernel_rfl) hj (by rw [hz]; decide) hne ha hb
    simp only [binOp]
    simp [Op.equal, Op.maxDepth, this]
theorem EqB_ptrD {a b : Nat} {ca cb : Array Value} {ta tb : TypeId} {w : World} {x y : Operand} {K : Bool → Prop} (hne : a ≠ b) (ha : Has w a (.cells ca ta (0, 0))) (hb : Has w b (.cells cb tb (0, 0))) (hK : K false) :
    EqB Tryz.prog .eql 111 x y (.pointer (some ⟨a, 0, none⟩)) (.pointer (some ⟨b, 0, none⟩)) (At w) K := by
  refine ⟨false, fun w' hw => ?_, hK⟩
  obtain ⟨d, rfl⟩ := hw
  have hg : Tryz.prog.eqGuardType Tryz.prog.depth 111 = false := by kernel_rfl
  have := eql_ptrD (w := w.dr d) hne ha hb
  simp only [eqGuard, Sem.run_bind, run_program, hg, Bool.not_false, if_true, Result.andThen_ok, this]
  try simp [Sem.run_bind, Sem.run_pure, run_program, hg, this]

section calls
variable {w : World} {q : SB} {s : SS} {R : Value → World → Prop}
theorem one_setV (g : Geo) (p : Option Addr) (l c : Nat) : ∀ v ∈ (setV g p l c).toList, oneV v = true := by
  intro v hv
  have hv : v ∈ [Value.int .i64 g.d, .int .i64 g.c, .int .i64 g.s, .slice p l c] := hv
  simp only [List.mem_cons, List.not_mem_nil, or_false] at hv
  rcases hv with rfl | rfl | rfl | rfl <;> rfl
theorem st_Check (h : SetAt w q s) {p : Option Addr} {l c : Nat} (hsl : SlL dLay w p l (q.bks.map Prod.fst)) (hlc : l ≤ c) (hK : ∀ w', Keep (fun _ => False) w w' → R (.int .i64 0) w') : CallV Tryz.prog 93 #[.agg (setV q.g p l c)] w R := by
  apply C_stripe_Check
  unfold F_stripe_Check
  have hll : l = s.ds.length := by have := hsl.1; rw [List.length_map, h.len] at this; exact this
  have hnum := h.num
  have hgd := h.geo.d
  refine alc_fresh fun w1 hb1 k1 z1 => ?_
  refine LdA_has (cs := geoV q.g) hb1 (by show 0 + 3 ≤ 4; decide) rfl ?_
  refine l_Size h.geo fun w2 k2 => ?_
  refine T2_mk.2 (OpI_int.2 (OpI_int.2 ((Cb_false (p := _)).2 ?_)))
  have hb2 := k2.has hb1 (by simp)
  refine LdV_has (v := .slice p l c) hb2 rfl (OpS_slice.2 ?_)
  refine LdV_has (v := .int .i64 q.g.d) hb2 rfl (OpI_int.2 ?_)
  have e1 : (((l : Nat) : Int) != q.g.d) = false := by rw [hll, hnum]; simp
  rw [e1]
  refine (Cb_false (p := _)).2 ?_
  refine LdV_has (v := .slice p l c) hb2 rfl (OpS_slice.2 ?_)
  have k02 := k1.trans k2
  refine LoopC_of (σ := Int × Unit) (fun st w' => ∃ i : Nat, st.1 = (i : Int) ∧ i ≤ l ∧ Keep (fun _ => False) w2 w') (fun st _ => (l - st.1).toNat) ⟨0, rfl, by omega, Keep.refl _ _⟩ ?_
  rintro _ ⟨i, u⟩ w3 ⟨i', hi, hil, k3⟩
  simp only at hi ⊢
  subst hi
  have k03 := k02.trans k3
  have h3 := h.keep0 k03
  have hsl3 := hsl.keepB k03 (by simp)
  have hb3 := k3.has hb2 (by simp)
  refine Cb_of (fun hc => ?_) (fun hc => ?_)
  · have hc : i' < l := by
      have : (i' : Int) < (l : Int) := by simpa using hc
      omega
    obtain ⟨b, r, D, hbk, hD, hda, hdl⟩ := h3.get (i := i') (by omega)
    refine hsl3.ld0 (i := (i' : Int)) (n := 1) (x := b) (v := .pointer (some ⟨b, 0, none⟩)) rfl (by omega) (by rw [Int.toNat_natCast, List.getElem?_map, hbk]; rfl) rfl (OpN_some.2 ?_)
    refine d_Size hda ?_
    refine OpI_int.2 ?_
    have e2 : (((D.secs.length : Nat) : Int) != q.g.c * q.g.s) = false := by rw [hdl]; simp
    rw [e2]
    refine (Cb_false (p := _)).2 ?_
    refine LdV_has (v := .slice p l c) hb3 rfl (OpS_slice.2 ?_)
    refine Slc_hiN (hi := i') (by omega) ?_
    have hsub := hsl3.sub (lo := 0) (hi := i') (m := c) (by omega) (by omega) (by omega)
    rw [List.drop_zero] at hsub
    have e3 : IntKind.wrap .i64 ((i' : Int) + 1) = ((i' + 1 : Nat) : Int) := by
      have : l ≤ 32 := by omega
      rw [wrapI (by omega) (by omega)]; omega
    refine LoopC_of (σ := Int × Unit) (fun st w' => ∃ j : Nat, st.1 = (j : Int) ∧ j ≤ i' ∧ w' = w3) (fun st _ => (i' - st.1).toNat) ⟨0, rfl, by omega, rfl⟩ ?_
    rintro _ ⟨j, u⟩ w4 ⟨j', hj, hjl, hw⟩
    simp only at hj ⊢
    subst hj
    rw [hw]
    clear hw
    refine Cb_of (fun hc2 => ?_) (fun hc2 => ?_)
    · have hc2 : j' < i' := by
        have : (j' : Int) < ((i' - 0 : Nat) : Int) := by simpa using hc2
        omega
      obtain ⟨b2, r2, D2, hbk2, hD2, hda2, hdl2⟩ := h3.get (i := j') (by omega)
      refine hsub.ld0 (i := (j' : Int)) (n := 1) (x := b2) (v := .pointer (some ⟨b2, 0, none⟩)) rfl (by omega) (by rw [Int.toNat_natCast, List.getElem?_take, if_pos hc2, List.getElem?_map, hbk2]; rfl) rfl (OpN_some.2 ?_)
      have hne : b2 ≠ b := fun e => by
        have := nodup_at h3.nodb (i := j') (j := i') (x := b) (by rw [List.getElem?_map, hbk2, e]; rfl) (by rw [List.getElem?_map, hbk]; rfl)
        omega
      refine EqB_ptrD hne hda2.cells hda.cells ?_
      refine (Cb_false (p := _)).2 ?_
      have e4 : IntKind.wrap .i64 ((j' : Int) + 1) = ((j' + 1 : Nat) : Int) := by
        have : l ≤ 32 := by omega
        rw [wrapI (by omega) (by omega)]; omega
      exact ⟨_, by show ((i' : Int) - IntKind.wrap .i64 ((j' : Int) + 1)).toNat < ((i' : Int) - (j' : Int)).toNat; rw [e4]; omega, ⟨j' + 1, e4, by omega, rfl⟩, rfl⟩
    · exact ⟨_, by show ((l : Int) - IntKind.wrap .i64 ((i' : Int) + 1)).toNat < ((l : Int) - (i' : Int)).toNat; rw [e3]; omega, ⟨i' + 1, e3, by omega, k3⟩, rfl⟩
  · exact Ret_nil.2 (hK w3 k03)
end calls
end Go.Proofs

/-
  A SET OF DISKS: Apply.
-/
namespace Go.Proofs
open Go Go.Ev
set_option linter.unusedSimpArgs false
set_option linter.unusedVariables false
set_option maxRecDepth 100000

structure PutS where
  plc : Plc
  cel : Cel
def putSL (x : PutS) : List Value := plcL x.plc ++ celL x.cel
theorem one_putSL (x : PutS) : ∀ v ∈ putSL x, oneV v = true := by
  intro v hv
  rcases List.mem_append.1 hv with h | h
  · exact plLay.one _ v h
  · exact one_celL _ v h
def putSV (x : PutS) : Array Value := (putSL x).toArray
def puLay : Lay PutS := ⟨19, putSL, fun _ => rfl, one_putSL, by decide⟩
theorem ext_put (x : PutS) : (putSV x).extract 2 (2 + 17) = celV x.cel := by
  apply Array.ext'
  unfold putSV celV putSL plcL
  simp only [Array.toList_extract, List.extract_eq_take_drop, List.cons_append, List.nil_append, List.drop_succ_cons, List.drop_zero]
  exact List.take_of_length_le (Nat.le_refl 17)
theorem at_put (x : PutS) : (putSV x)[1]? = some (.int .i64 x.plc.at_) := rfl
def dsk0 : Dsk := ⟨[], 0, false⟩
def put0 : PutS := ⟨⟨0, 0⟩, cel0⟩
theorem zc_put : zc Tryz.prog 88 = putSV put0 := by kernel_rfl
/-- a cell is written to its disk -/
def apply1 (s : SS) (x : PutS) (ep : Int) : Int × SS :=
  let r := writeD s.pw (s.ds.getD x.plc.dk.toNat dsk0) x.plc.at_ x.cel ep
  (r.1.2, ⟨s.ds.set x.plc.dk.toNat r.2.2, r.2.1⟩)
def applyL (ep : Int) : List PutS → SS → Int × SS
  | [], s => (0, s)
  | x :: xs, s => if (apply1 s x ep).1 ≠ 0 ∧ (apply1 s x ep).1 ≠ 5 then apply1 s x ep else applyL ep xs (apply1 s x ep).2
def PutOk (g : Geo) (x : PutS) : Prop := (0 ≤ x.plc.dk ∧ x.plc.dk < g.d) ∧ (0 ≤ x.plc.at_ ∧ x.plc.at_ < g.c * g.s)
instance (g : Geo) (x : PutS) : Decidable (PutOk g x) := by unfold PutOk; infer_instance
def applyS (g : Geo) (s : SS) (xs : List PutS) (ep : Int) : Int × SS := if ∀ x ∈ xs, PutOk g x then applyL ep xs s else (2, s)
theorem writeD_len {pw : Pow} {D : Dsk} {at_ ep : Int} {c : Cel} : (writeD pw D at_ c ep).2.2.secs.length = D.secs.length := by
  unfold writeD
  split
  · rfl
  · split
    · rfl
    · split
      · rfl
      · split
        · rfl
        · simp
theorem CallQ_of {P : Program} {f : FuncId} {args : Array Value} {w : World} {V : Value} {K : Value → Prop} (h : ∀ d, CallV P f args (w.dr d) fun v w' => v = V ∧ w' = w.dr d) (hK : K V) : CallQ P f args (At w) K := by
  refine ⟨V, ?_, hK⟩
  rintro w' ⟨d, rfl⟩
  exact Calls.mono (h d) fun e w' ⟨v, he, hv, hw⟩ => ⟨by rw [he, hv], by rw [hw]; exact ⟨d, rfl⟩⟩
theorem bsl_c1 (c : Cel) (w : World) : (Instr.buildSlice 167 1 #[(0, .agg (celV c))]).run Tryz.prog w = .ok (.slice (some ⟨w.heap.size, 0, none⟩) 1 1) (w.alloc (.cells (celV c) 86)) :=
  run_buildSlice w 167 86 1 _ (celV c) ((Tryz.prog.info? 86).get (by kernel_rfl)) (((Tryz.prog.info? 86).get (by kernel_rfl)).zero.get (by kernel_rfl)) (by kernel_rfl) (by kernel_rfl) (by kernel_rfl) (by decide +kernel) (by decide +kernel) (by kernel_rfl)
theorem sl_c1 {w : World} {c : Cel} {b : Nat} (h : Has w b (.cells (celV c) 86 (0, 0))) : SlL cLay w (some ⟨b, 0, none⟩) 1 [c] := by
  have := OwnL.mk (L := cLay) (base := 0) (xs := [c]) (Nat.zero_le _) h (by simp [maxLen]) (by rw [cLay.rows_one']; rfl)
  exact this.sl
section calls
variable {w : World} {q : SB} {s : SS} {R : Value → World → Prop}
theorem SetAt.typ (h : SetAt w q s) {k : Nat} {cs : Array Value} {t : TypeId} {f : Nat × Nat} (hk : Has w k (.cells cs t f)) (h1 : t ≠ 209) (h2 : t ≠ 220) (h3 : t ≠ 260) : ¬ SFoot q k := by
  have no : ∀ {cs' : Array Value} {t' : TypeId} {f' : Nat × Nat} {b : Nat}, Has w b (.cells cs' t' f') → t ≠ t' → k ≠ b := by
    intro cs' t' f' b hb ht' e
    subst e
    have := hk.inj hb
    simp only [Obj.cells.injEq] at this
    exact ht' this.2.1
  rintro (e | e | e)
  · exact no (show Has w _ _ from h.main) h1 e
  · obtain ⟨br, hbr, rfl⟩ := List.mem_map.1 e
    obtain ⟨i, hi⟩ := List.getElem?_of_mem hbr
    have hlt := (List.getElem?_eq_some_iff.1 hi).1
    obtain ⟨b, r, D, hb, hD, hda, _⟩ := h.get (i := i) (by rw [← h.len]; exact hlt)
    rw [hi] at hb
    cases hb
    exact no hda.cells h2 rfl
  · obtain ⟨br, hbr, rfl⟩ := List.mem_map.1 e
    obtain ⟨i, hi⟩ := List.getElem?_of_mem hbr
    have hlt := (List.getElem?_eq_some_iff.1 hi).1
    obtain ⟨b, r, D, hb, hD, hda, _⟩ := h.get (i := i) (by rw [← h.len]; exact hlt)
    rw [hi] at hb
    cases hb
    obtain ⟨cs', hc⟩ := hda.rcells
    exact no hc h3 rfl
theorem applyL_set {ep : Int} {x : PutS} {s : SS} : (apply1 s x ep).2.ds.length = s.ds.length := by
  show (s.ds.set _ _).length = _
  simp
theorem st_Apply (h : SetAt w q s) {p : Option Addr} {l c : Nat} (hsl : SlL dLay w p l (q.bks.map Prod.fst)) (hlc : l ≤ c) (hpf : ∀ b o, p = some ⟨b, o, none⟩ → ¬ SFoot q b) {pp : Option Addr} {pl pc : Nat} {xs : List PutS} {ep : Int} (hps : SlL puLay w pp pl xs) (hpl : pl ≤ 1000000) (hppf : ∀ b o, pp = some ⟨b, o, none⟩ → ¬ SFoot q b)
    (hK : ∀ w', SetAt w' q (applyS q.g s xs ep).2 → Keep (SFoot q) w w' → R (.int .i64 (applyS q.g s xs ep).1) w') : CallV Tryz.prog 38 #[.agg (setV q.g p l c), .slice pp pl pc, .int .u32 ep] w R := by
  apply C_stripe_Apply
  unfold F_stripe_Apply
  have hll : l = s.ds.length := by have := hsl.1; rw [List.length_map, h.len] at this; exact this
  have hnum := h.num
  have hgd := h.geo.d
  have hplx := hps.1
  have foot0 : ∀ {w' : World}, Keep (fun _ => False) w w' → Keep (SFoot q) w w' := fun k => k.mono fun _ h => h.elim
  refine alc_fresh fun w1 hb1 k1 z1 => ?_
  refine LdA_all hb1 rfl ?_
  have h1 := h.keep0 k1
  refine st_Check h1 (hsl.keepB k1 (by simp)) hlc fun w2 k2 => ?_
  refine OpI_int.2 ((Cb_false (p := _)).2 ?_)
  have hb2 := k2.has hb1 (by simp)
  have k02 := k1.trans k2
  have ek : ∀ {n : Nat}, n < pl → IntKind.wrap .i64 ((n : Int) + 1) = ((n + 1 : Nat) : Int) := fun h => by rw [wrapI (by omega) (by omega)]; omega
  refine LoopC_of (σ := Int × Unit) (fun st w' => ∃ i : Nat, st.1 = (i : Int) ∧ i ≤ pl ∧ (∀ x ∈ xs.take i, PutOk q.g x) ∧ Keep (fun _ => False) w w' ∧ Has w' w.heap.size (.cells (setV q.g p l c) 51 (0, 0))) (fun st _ => (pl - st.1).toNat) ⟨0, rfl, by omega, by simp, k02, hb2⟩ ?_
  rintro _ ⟨i, u⟩ w3 ⟨i', hi, hil, hok, k3, hb3⟩
  simp only at hi ⊢
  subst hi
  have h3 := h.keep0 k3
  have hps3 := hps.keepB k3 (by simp)
  refine Cb_of (fun hc => ?_) (fun hc => ?_)
  · have hc : i' < pl := by
      have : (i' : Int) < (pl : Int) := by simpa using hc
      omega
    obtain ⟨x, hx⟩ : ∃ x, xs[i']? = some x := ⟨_, List.getElem?_eq_getElem (by omega)⟩
    refine hps3.ldA (i := (i' : Int)) (n := 19) (x := x) rfl (by omega) (by simpa using hx) ?_
    refine copy_of (by rw [zc_put]; rfl) rfl (fun v hv => puLay.one x v (by simpa using hv)) fun w4 hb4 k4 z4 => ?_
    have hb4 : Has w4 w3.heap.size (.cells (putSV x) 88 (0, 0)) := hb4
    have hs4 := k4.has hb3 (by simp)
    have k04 := k3.trans k4
    have h4 := h.keep0 k04
    have bad : ¬ PutOk q.g x → ∀ w', Keep (fun _ => False) w w' → Ret [] (R (.int .i64 2) w') := by
      intro hn w' k'
      unfold applyS at hK
      rw [if_neg (fun hh => hn (hh x (List.mem_of_getElem? hx)))] at hK
      exact Ret_nil.2 (hK w' (h.keep0 k') (foot0 k'))
    refine LdV_has (v := .int .i64 x.plc.dk) hb4 rfl (OpI_int.2 ?_)
    refine Cb_of (fun h0 => ?_) (fun h0 => ?_)
    · have h0 : x.plc.dk < 0 := by simpa using h0
      exact fun d => bad (fun hp => by have := hp.1.1; omega) _ (k04.dr d)
    have h0 : ¬ x.plc.dk < 0 := by simpa using h0
    refine LdV_has (v := .int .i64 x.plc.dk) hb4 rfl (OpI_int.2 ?_)
    refine LdV_has (v := .slice p l c) hs4 rfl (OpS_slice.2 ?_)
    refine Cb_of (fun h1 => ?_) (fun h1 => ?_)
    · have h1 : x.plc.dk ≥ (l : Int) := by simpa using h1
      exact fun d => bad (fun hp => by have := hp.1.2; omega) _ (k04.dr d)
    have h1 : ¬ x.plc.dk ≥ (l : Int) := by simpa using h1
    refine LdV_has (v := .int .i64 x.plc.at_) hb4 rfl (OpI_int.2 ?_)
    refine Cb_of (fun h2 => ?_) (fun h2 => ?_)
    · have h2 : x.plc.at_ < 0 := by simpa using h2
      exact fun d => bad (fun hp => by have := hp.2.1; omega) _ (k04.dr d)
    have h2 : ¬ x.plc.at_ < 0 := by simpa using h2
    refine LdV_has (v := .int .i64 x.plc.at_) hb4 rfl (OpI_int.2 ?_)
    refine LdV_has (v := .slice p l c) hs4 rfl (OpS_slice.2 ?_)
    obtain ⟨b, r, D, hbk, hD, hda, hdl⟩ := h4.get (i := 0) (by omega)
    refine (hsl.keepB k04 (by simp)).ld0 (i := 0) (n := 1) (x := b) (v := .pointer (some ⟨b, 0, none⟩)) rfl (by omega) (by show (q.bks.map Prod.fst)[0]? = some b; rw [List.getElem?_map, hbk]; rfl) rfl (OpN_some.2 ?_)
    refine CallQ_of (V := .int .i64 (D.secs.length : Int)) (fun d => d_Size (hda.keep (Keep.drew (fun _ => False) w4 d) (by simp) (by simp)) ⟨rfl, rfl⟩) ?_
    refine OpI_int.2 fun d => ?_
    refine Cb_of (fun h5 => ?_) (fun h5 => ?_)
    · have h5 : x.plc.at_ ≥ (D.secs.length : Int) := by simpa using h5
      exact bad (fun hp => by have := hp.2.2; omega) _ (k04.dr d)
    have h5 : ¬ x.plc.at_ ≥ (D.secs.length : Int) := by simpa using h5
    refine ⟨_, by show ((pl : Int) - IntKind.wrap .i64 ((i' : Int) + 1)).toNat < ((pl : Int) - (i' : Int)).toNat; rw [ek hc]; omega, ⟨i' + 1, ek hc, by omega, fun y hy => ?_, k04.dr d, hs4.dr d⟩, rfl⟩
    rw [List.take_add_one, hx] at hy
    rcases List.mem_append.1 hy with hy | hy
    · exact hok y hy
    · have : y = x := by simpa using hy
      rw [this]
      exact ⟨⟨by omega, by omega⟩, ⟨by omega, by omega⟩⟩
  · have hc : i' = pl := by
      have : ¬ (i' : Int) < (pl : Int) := by simpa using hc
      omega
    rw [List.take_of_length_le (by omega)] at hok
    unfold applyS at hK
    rw [if_pos hok] at hK
    -- the writes
    refine LoopC_of (σ := Int × Unit) (fun st w' => ∃ (i : Nat) (s' : SS), st.1 = (i : Int) ∧ i ≤ pl ∧ SetAt w' q s' ∧ applyL ep (xs.drop i) s' = applyL ep xs s ∧ Keep (SFoot q) w w' ∧ Has w' w.heap.size (.cells (setV q.g p l c) 51 (0, 0))) (fun st _ => (pl - st.1).toNat) ⟨0, s, rfl, by omega, h3, rfl, foot0 k3, hb3⟩ ?_
    rintro _ ⟨i, u⟩ w5 ⟨j, s5, hj, hjl, h5, he5, k5, hb5⟩
    simp only at hj ⊢
    subst hj
    refine Cb_of (fun hc => ?_) (fun hc => ?_)
    · have hc : j < pl := by
        have : (j : Int) < (pl : Int) := by simpa using hc
        omega
      obtain ⟨x, hx⟩ : ∃ x, xs[j]? = some x := ⟨_, List.getElem?_eq_getElem (by omega)⟩
      have hxok := hok x (List.mem_of_getElem? hx)
      have hps5 : SlL puLay w5 pp pl xs := hps.keep k5 hppf
      have hsl5 : SlL dLay w5 p l (q.bks.map Prod.fst) := hsl.keep k5 hpf
      refine hps5.ldA (i := (j : Int)) (n := 19) (x := x) rfl (by omega) (by simpa using hx) ?_
      refine copy_of (by rw [zc_put]; rfl) rfl (fun v hv => puLay.one x v (by simpa using hv)) fun w6 hb6 k6 z6 => ?_
      have hb6 : Has w6 w5.heap.size (.cells (putSV x) 88 (0, 0)) := hb6
      have hs6 := k6.has hb5 (by simp)
      intro d
      have kd := Keep.drew (fun _ => False) w6 d
      have k66 := k6.trans kd
      have h6 := h5.keep0 k66
      have hl5 : l = s5.ds.length := by have := h6.num; omega
      refine ⟨fun w' => Has w' w5.heap.size (.cells (putSV x) 88 (0, 0)) ∧ Has w' w.heap.size (.cells (setV q.g p l c) 51 (0, 0)) ∧ SlL dLay w' p l (q.bks.map Prod.fst), ⟨hb6.dr d, hs6.dr d, hsl5.keepB k66 (by simp)⟩, ?_⟩
      refine LdV_of (v := .slice p l c) (fun w' hw => ⟨_, _, _, hw.2.1, rfl⟩) (OpS_slice.2 ?_)
      refine LdV_of (v := .int .i64 x.plc.dk) (fun w' hw => ⟨_, _, _, hw.1, rfl⟩) (OpI_int.2 ?_)
      obtain ⟨b, r, D, hbk, hD, hda, hdl⟩ := h6.get (i := x.plc.dk.toNat) (by have := hxok.1; omega)
      refine SlL.ldSd (S := fun w' => Has w' w5.heap.size (.cells (putSV x) 88 (0, 0)) ∧ Has w' w.heap.size (.cells (setV q.g p l c) 51 (0, 0)) ∧ SlL dLay w' p l (q.bks.map Prod.fst)) (w0 := w6.dr d) ⟨hb6.dr d, hs6.dr d, hsl5.keepB k66 (by simp)⟩ (fun w' hw => hw.2.2) (i := x.plc.dk) (x := b) (n := 1) (v := .pointer (some ⟨b, 0, none⟩)) rfl hxok.1.1 (by rw [List.getElem?_map, hbk]; rfl) rfl ?_
      refine OpN_some.2 ?_
      refine LdV_of (v := .int .i64 x.plc.at_) (fun w' hw => ⟨_, _, _, hw.1, at_put x⟩) (OpI_int.2 ?_)
      refine LdA_of (cs := celV x.cel) rfl (fun w' hw => ⟨_, _, _, hw.1, by show 2 + 17 ≤ 19; decide, ext_put x⟩) ?_
      refine ⟨_, _, bsl_c1 x.cel (w6.dr d), OpS_slice.2 ?_⟩
      have k7 := Keep.new (fun _ => False) (w6.dr d) (.cells (celV x.cel) 86)
      have h7c := Has.new (w6.dr d) (.cells (celV x.cel) 86)
      generalize hw7 : (w6.dr d).alloc (.cells (celV x.cel) 86) = w7 at *
      have k57 := k66.trans k7
      have h7 := h5.keep0 k57
      have hb7 := k7.has (hb6.dr d) (by simp)
      have hs7 := k7.has (hs6.dr d) (by simp)
      have hsl7 := hsl5.keepB k57 (by simp)
      refine ⟨⟨hb7, hs7, hsl7⟩, ?_⟩
      have hda7 := hda.keep k7 (by simp) (by simp)
      refine d_Write hda7 h7.main (sl_c1 h7c) (by rw [hdl]; exact hxok.2) fun w8 hd8 hm8 k8 => ?_
      have hDg : s5.ds.getD x.plc.dk.toNat dsk0 = D := by rw [List.getD_eq_getElem?_getD, hD]; rfl
      have h8 : SetAt w8 q (apply1 s5 x ep).2 := by
        have := h7.upd hbk (k8.mono fun k hk => by rcases hk with e | e; exact Or.inl e; exact Or.inr (Or.inr e)) hd8 (by rw [writeD_len]; exact hdl) hm8
        unfold apply1
        rw [hDg]
        exact this
      have kf : Keep (SFoot q) w7 w8 := k8.mono fun k hk => by
        rcases hk with e | e
        · exact Or.inl e
        · exact Or.inr (Or.inr (by rw [e]; exact List.mem_map.2 ⟨(b, r), List.mem_of_getElem? hbk, rfl⟩))
      have kF : Keep (SFoot q) w w8 := (k5.trans (k57.mono fun _ h => h.elim)).trans kf
      have hb8 := kf.has hb7 (h7.typ hb7 (by decide) (by decide) (by decide))
      have hs8 := kf.has hs7 (h7.typ hs7 (by decide) (by decide) (by decide))
      have hsl8 : SlL dLay w8 p l (q.bks.map Prod.fst) := hsl.keep kF hpf
      refine T2_mk.2 (OpI_int.2 (OpI_int.2 ⟨⟨hb8, hs8, hsl8⟩, trivial, trivial, ?_⟩))
      have ee : (writeD s5.pw D x.plc.at_ x.cel ep).1.2 = (apply1 s5 x ep).1 := by unfold apply1; rw [hDg]
      rw [ee]
      have ed : xs.drop j = x :: xs.drop (j + 1) := by
        rw [List.drop_eq_getElem_cons (by omega)]
        congr 1
        have := List.getElem?_eq_getElem (l := xs) (i := j) (by omega)
        rw [hx] at this
        exact (Option.some.inj this).symm
      rw [ed] at he5
      have hst : applyL ep (x :: xs.drop (j + 1)) s5 = if (apply1 s5 x ep).1 ≠ 0 ∧ (apply1 s5 x ep).1 ≠ 5 then apply1 s5 x ep else applyL ep (xs.drop (j + 1)) (apply1 s5 x ep).2 := rfl
      rw [hst] at he5
      refine Cb_of (fun hz => ?_) (fun hz => ?_)
      · have hz : (apply1 s5 x ep).1 ≠ 0 ∧ (apply1 s5 x ep).1 ≠ 5 := by simpa using hz
        rw [if_pos hz] at he5
        rw [← he5] at hK
        exact Ret_nil.2 (hK w8 h8 kF)
      · have hz : ¬ ((apply1 s5 x ep).1 ≠ 0 ∧ (apply1 s5 x ep).1 ≠ 5) := by
          intro hh
          have : (cond ((apply1 s5 x ep).1 != 0) ((apply1 s5 x ep).1 != 5) false) = true := by simp [hh.1, hh.2]
          rw [this] at hz
          cases hz
        rw [if_neg hz] at he5
        exact ⟨_, by show ((pl : Int) - IntKind.wrap .i64 ((j : Int) + 1)).toNat < ((pl : Int) - (j : Int)).toNat; rw [ek hc]; omega, ⟨j + 1, _, ek hc, by omega, h8, he5, kF, hs8⟩, rfl⟩
    · have hc : j = pl := by
        have : ¬ (j : Int) < (pl : Int) := by simpa using hc
        omega
      rw [List.drop_of_length_le (by omega)] at he5
      have he5 : (0, s5) = applyL ep xs s := he5
      rw [← he5] at hK
      exact Ret_nil.2 (hK w5 h5 k5)
end calls
end Go.Proofs

/-
  A SET OF DISKS: New.
-/
namespace Go.Proofs
open Go Go.Ev
set_option linter.unusedSimpArgs false
set_option linter.unusedVariables false
set_option maxRecDepth 100000

/-- a sector of noughts, as it is laid down -/
def nul (at_ : Int) : Sct := ⟨⟨sec [], sumS at_ (sec [])⟩, true⟩
def nuls (n : Nat) : List Sct := (List.range n).map fun (k : Nat) => nul (k : Int)
theorem nuls_succ (n : Nat) : nuls (n + 1) = nuls n ++ [nul (n : Int)] := by unfold nuls; rw [List.range_succ, List.map_append]; rfl
theorem len_nuls (n : Nat) : (nuls n).length = n := by simp [nuls]
def newD (n : Nat) : Dsk := ⟨nuls n, 0, false⟩
def half (t n : Nat) : Dsk := ⟨nuls t ++ List.replicate (n - t) sct0, 0, false⟩
theorem half_len {t n : Nat} (h : t ≤ n) : (half t n).secs.length = n := by
  show (nuls t ++ List.replicate (n - t) sct0).length = n
  rw [List.length_append, len_nuls, List.length_replicate]; omega
theorem half_set {t n : Nat} (h : t < n) : (half t n).secs.set t (nul (t : Int)) = (half (t + 1) n).secs := by
  show (nuls t ++ List.replicate (n - t) sct0).set t (nul (t : Int)) = nuls (t + 1) ++ List.replicate (n - (t + 1)) sct0
  rw [List.set_append_right _ _ (by rw [len_nuls]; omega), len_nuls, Nat.sub_self, show n - t = (n - (t + 1)) + 1 by omega, List.replicate_succ, List.set_cons_zero, nuls_succ, List.append_assoc]
  rfl
theorem half_all (n : Nat) : half n n = newD n := by unfold half newD; rw [Nat.sub_self, List.replicate_zero, List.append_nil]
def Lit0 (pw : Pow) : Prop := pw.on = true ∧ pw.left = 0
theorem lit_step {p : Pow} (h : Lit0 p) : (stepP p).1 = true ∧ Lit0 (stepP p).2 := by
  unfold stepP
  rw [if_pos h.1, if_pos h.2]
  exact ⟨rfl, h.1, h.2⟩
/-- the filling of a disk, as it is printed -/
def FillT (b4 : Nat) (n : Int) (w : World) (K : World → Prop) : Prop :=
  LoopC (σ := Int × Unit) (fun _ s2 w K2 => Cb (decide (s2.1 < n)) (DoQ Tryz.prog (Instr.build 37 #[]) (At w) fun v10 => OpA 16 v10 fun cs5 => CallV Tryz.prog 116
  #[.int .i64 s2.1, .agg cs5] w fun v11 w => OpA 17 v11 fun cs6 => DoV Tryz.prog (Instr.buildSlice 167 1 #[(0, .agg cs6)]) w fun v12 w => OpS v12 fun p l c => CallV Tryz.prog
  120 #[.pointer (some ⟨b4, 0, none⟩), .int .i64 s2.1, .slice p l c, .int .u32 0] w fun v13 w => T2 v13 fun v14 v15 => OpI .i64 v14 fun n4 => OpI .i64 v15 fun n5 => K2
  (IntKind.wrap .i64 (s2.1 + 1), ()) w) (K w)) (0, ()) w
section calls
variable {w : World} {R : Value → World → Prop}
theorem fillT {o b r n : Nat} {pw : Pow} (hd : DiskAt w o b r (half 0 n)) (hm : MaAt w o pw) (hl : Lit0 pw) (hn : n ≤ 1024) {K : World → Prop} (hK : ∀ w' pw', DiskAt w' o b r (newD n) → MaAt w' o pw' → Lit0 pw' → Keep (fun k => k = o ∨ k = r) w w' → K w') : FillT b (n : Int) w K := by
  unfold FillT
  refine LoopC_of (σ := Int × Unit) (fun st w' => ∃ (t : Nat) (p : Pow), st.1 = (t : Int) ∧ t ≤ n ∧ DiskAt w' o b r (half t n) ∧ MaAt w' o p ∧ Lit0 p ∧ Keep (fun k => k = o ∨ k = r) w w') (fun st _ => (n - st.1).toNat) ⟨0, pw, rfl, by omega, hd, hm, hl, Keep.refl _ _⟩ ?_
  rintro _ ⟨t, u⟩ w1 ⟨t', p, ht, htn, hd1, hm1, hl1, k1⟩
  simp only at ht ⊢
  subst ht
  refine Cb_of (fun hc => ?_) (fun hc => ?_)
  · have hc : t' < n := by
      have : (t' : Int) < (n : Int) := by simpa using hc
      omega
    refine DoQ_of (fun d => bld_sec0 _) (OpA_agg.2 ⟨rfl, ?_⟩)
    refine s_Seal fun w2 k2 => ?_
    refine OpA_agg.2 ⟨rfl, ?_⟩
    refine ⟨_, _, bsl_c1 _ w2, OpS_slice.2 ?_⟩
    have k3 := Keep.new (fun _ => False) w2 (.cells (celV ⟨sec [], sumS (t' : Int) (sec [])⟩) 86)
    have h3 := Has.new w2 (.cells (celV ⟨sec [], sumS (t' : Int) (sec [])⟩) 86)
    generalize w2.alloc (.cells (celV ⟨sec [], sumS (t' : Int) (sec [])⟩) 86) = w3 at *
    have k13 := k2.trans k3
    have hd3 := hd1.keep k13 (by simp) (by simp)
    have hm3 : MaAt w3 o p := k13.has hm1 (by simp)
    refine d_Write hd3 hm3 (sl_c1 h3) (by rw [half_len htn]; omega) fun w4 hd4 hm4 k4 => ?_
    obtain ⟨hs, hl2⟩ := lit_step hl1
    have e : writeD p (half t' n) (t' : Int) ⟨sec [], sumS (t' : Int) (sec [])⟩ 0 = ((1, 0), (stepP p).2, half (t' + 1) n) := by
      unfold writeD
      rw [if_neg (by simp [hl1.1]), if_neg (by show ¬ false = true; simp), if_neg (by show ¬ (0 : Int) < 0; omega), if_neg (by rw [hs]; simp), Int.toNat_natCast]
      have := half_set hc
      unfold nul at this
      rw [this]
      rfl
    rw [e] at hd4 hm4 ⊢
    refine T2_mk.2 (OpI_int.2 (OpI_int.2 ?_))
    have e3 : IntKind.wrap .i64 ((t' : Int) + 1) = ((t' + 1 : Nat) : Int) := by rw [wrapI (by omega) (by omega)]; omega
    exact ⟨_, by show ((n : Int) - IntKind.wrap .i64 ((t' : Int) + 1)).toNat < ((n : Int) - (t' : Int)).toNat; rw [e3]; omega, ⟨t' + 1, _, e3, by omega, hd4, hm4, hl2, (k1.trans (k13.mono fun _ h => h.elim)).trans k4⟩, rfl⟩
  · have hc : t' = n := by
      have : ¬ (t' : Int) < (n : Int) := by simpa using hc
      omega
    subst hc
    rw [half_all] at hd1
    exact hK w1 p hd1 hm1 hl1 k1
theorem dLayT : LayT Tryz.prog dLay 49 111 8 := ⟨by kernel_rfl, ⟨(Tryz.prog.info? 111).get (by kernel_rfl), ((Tryz.prog.info? 111).get (by kernel_rfl)).zero.get (by kernel_rfl), by kernel_rfl, by kernel_rfl, by kernel_rfl, by kernel_rfl, by kernel_rfl⟩⟩
theorem bsl_d1 (b : Nat) (w : World) : (Instr.buildSlice 49 1 #[(0, .pointer (some ⟨b, 0, none⟩))]).run Tryz.prog w = .ok (.slice (some ⟨w.heap.size, 0, none⟩) 1 1) (w.alloc (.cells #[.pointer (some ⟨b, 0, none⟩)] 111)) :=
  run_buildSlice w 49 111 1 _ #[.pointer (some ⟨b, 0, none⟩)] ((Tryz.prog.info? 111).get (by kernel_rfl)) (((Tryz.prog.info? 111).get (by kernel_rfl)).zero.get (by kernel_rfl)) (by kernel_rfl) (by kernel_rfl) (by kernel_rfl) (by decide +kernel) (by decide +kernel) (by kernel_rfl)
def SB.from_ (q : SB) (n : Nat) : Prop := ∀ br ∈ q.bks, n ≤ br.1 ∧ n ≤ br.2
/-- the state of New's loop -/
structure NewI (w w' : World) (m o b b1 b2 n k : Nat) (g : Geo) (p : Option Addr) (c : Nat) (bks : List (Nat × Nat)) (pw : Pow) : Prop where
  len : bks.length = k
  own : MaAt w' o pw
  lit : Lit0 pw
  geo : Has w' b (.cells (geoV g) 24 (0, 0))
  res : ∃ cs, cs.size = 4 ∧ Has w' b1 (.cells cs 51 (0, 0))
  set : Has w' b2 (.cells (setV g p k c) 51 (0, 0))
  row : OwnL dLay w' (w.heap.size) 111 p k c (bks.map Prod.fst)
  dsk : ∀ br ∈ bks, DiskAt w' m br.1 br.2 (newD n)
  low : ∀ br ∈ bks, w.heap.size ≤ br.1 ∧ w.heap.size ≤ br.2
  nodb : (bks.map Prod.fst).Nodup
  nodr : (bks.map Prod.snd).Nodup
  keep : Keep (fun _ => False) w w'
theorem st_New {g : Geo} {m : Nat} {pw : Pow} (hg : GeoOk g) (hm : MaAt w m pw)
    (hK : ∀ p c bks w', SetAt w' ⟨m, g, bks⟩ ⟨List.replicate g.d.toNat (newD (g.c * g.s).toNat), pw⟩ → OwnL dLay w' w.heap.size 111 p g.d.toNat c (bks.map Prod.fst) → (SB.mk m g bks).from_ w.heap.size → Keep (fun _ => False) w w' → R (.tuple #[.agg (setV g p g.d.toNat c), .int .i64 0]) w') :
    CallV Tryz.prog 53 #[.agg (geoV g), .pointer (some ⟨m, 0, none⟩)] w R := by
  apply C_stripe_New
  unfold F_stripe_New
  have hsz := hg.size
  have hgd := hg.d
  refine alc_fresh fun w1 hb1 k1 z1 => ?_
  refine alc_fresh fun w2 hb2 k2 z2 => ?_
  have hz4 : (zc Tryz.prog 51) = setV ⟨0, 0, 0⟩ none 0 0 := by kernel_rfl
  rw [hz4] at hb2
  have hb12 := k2.has hb1 (by simp)
  refine LdA_all hb12 rfl ?_
  refine l_Size hg fun w3 k3 => ?_
  refine T2_mk.2 (OpI_int.2 (OpI_int.2 ((Cb_false (p := _)).2 ?_)))
  have hg3 := k3.has hb12 (by simp)
  have hr3 := k3.has hb2 (by simp)
  refine LdA_all hg3 rfl ?_
  refine DoQ_of (v := .agg (setV g none 0 0)) (fun d => run_build _ _ _ _ (by kernel_rfl)) (OpA_agg.2 ⟨rfl, ?_⟩)
  refine copy_of (by rw [hz4]; rfl) rfl (one_setV g none 0 0) fun w4 hb4 k4 z4 => ?_
  refine ma_New fun o w5 ho hmo k5 z5 => ?_
  refine OpN_some.2 ?_
  have k04 := ((k1.trans k2).trans k3).trans k4
  have k05 := k04.trans k5
  have hg5 := (k4.trans k5).has hg3 (by simp)
  have hr5 := (k4.trans k5).has hr3 (by simp)
  have hs5 := k5.has hb4 (by simp)
  have hgl := hg3.lt
  have hrl := hr3.lt
  have hwl : w.heap.size ≤ w1.heap.size := by omega
  have hs3 : w1.heap.size ≤ w3.heap.size := (k2.trans k3).size
  generalize hb2e : w3.heap.size = b2 at *
  generalize hb1e : w1.heap.size = b1 at *
  generalize hbe : w.heap.size = b at *
  refine LdV_has (v := .int .i64 g.d) hg5 rfl (OpI_int.2 ?_)
  obtain ⟨n, hn⟩ : ∃ n : Nat, g.c * g.s = (n : Int) := ⟨(g.c * g.s).toNat, by omega⟩
  have hn' : (g.c * g.s).toNat = n := by omega
  rw [hn'] at hK
  rw [hn]
  rw [hn] at hsz
  refine LoopC_of (σ := Int × Unit) (fun st w' => ∃ (k : Nat) (p : Option Addr) (c : Nat) (bks : List (Nat × Nat)) (pwo : Pow), st.1 = (k : Int) ∧ (k : Int) ≤ g.d ∧ NewI w w' m o b b1 b2 n k g p c bks pwo) (fun st _ => (g.d - st.1).toNat)
    ⟨0, none, 0, [], _, rfl, by omega, ⟨rfl, hmo, ⟨rfl, rfl⟩, hg5, ⟨_, rfl, hr5⟩, hs5, OwnL.nil, by simp, by simp, by simp, by simp, k05⟩⟩ ?_
  rintro _ ⟨i, u⟩ w6 ⟨k, p, c, bks, pwo, hi, hk, hI⟩
  simp only at hi ⊢
  subst hi
  refine Cb_of (fun hc => ?_) (fun hc => ?_)
  · have hc : (k : Int) < g.d := by simpa using hc
    refine d_New (n := n) (by omega) (by omega) fun b4 r4 w7 hd7 k7 hb47 hr47 => ?_
    refine T2_mk.2 (OpN_some.2 (OpI_int.2 ?_))
    have hm7 : MaAt w7 o pwo := k7.has hI.own (by simp)
    have hd7 : DiskAt w7 o b4 r4 (half 0 n) := hd7
    have ne_of : ∀ {x y : Nat} {cs cs' : Array Value} {t t' : TypeId} {W : World}, Has W x (.cells cs t (0, 0)) → Has W y (.cells cs' t' (0, 0)) → t ≠ t' → x ≠ y := fun h1 h2 ht => h1.ne h2 (by simp only [ne_eq, Obj.cells.injEq]; intro e; exact ht e.2.1)
    refine fillT hd7 hm7 hI.lit (by omega) fun w8 pw8 hd8 hm8 hl8 k8 => ?_
    -- what stays while the disk is filled
    have hlt6 : ∀ {x : Nat} {ob : Obj}, Has w6 x ob → x < w6.heap.size := fun h => h.lt
    have st : ∀ {x : Nat} {cs : Array Value} {t : TypeId}, Has w6 x (.cells cs t (0, 0)) → t ≠ 209 → Has w8 x (.cells cs t (0, 0)) := by
      intro x cs t hx ht
      refine k8.has (k7.has hx (by simp)) ?_
      rintro (e | e)
      · exact ne_of hx (show Has w6 o _ from hI.own) ht e
      · have := hlt6 hx; omega
    have k68 : Keep (fun k => k = o ∨ k = r4) w6 w8 := (k7.mono fun _ h => h.elim).trans k8
    have hrow8 : OwnL dLay w8 b 111 p k c (bks.map Prod.fst) := by
      have := hI.row
      rw [hbe] at this
      refine this.keep k68 fun x hx => ?_
      rcases Own.cases this with ⟨h0, _⟩ | ⟨b', cur, h0, _, hg', _⟩
      · rw [h0] at hx; cases hx
      · rw [h0] at hx; cases hx
        rintro (e | e)
        · exact ne_of hg' (show Has w6 o _ from hI.own) (by decide) e
        · have := hlt6 hg'; omega
    have hdsk8 : ∀ br ∈ bks, DiskAt w8 m br.1 br.2 (newD n) := fun br hbr => by
      have h6 := hI.dsk br hbr
      obtain ⟨cs, hcs⟩ := h6.rcells
      refine h6.keep k68 ?_ ?_
      · rintro (e | e)
        · exact ne_of h6.cells (show Has w6 o _ from hI.own) (by decide) e
        · have := hlt6 h6.cells; omega
      · rintro (e | e)
        · exact ne_of hcs (show Has w6 o _ from hI.own) (by decide) e
        · have := hlt6 hcs; omega
    have hset8 := st hI.set (by decide)
    have hgeo8 := st hI.geo (by decide)
    obtain ⟨cs1, hcs1, hres⟩ := hI.res
    have hres8 := st hres (by decide)
    have hob : o ≠ b4 := ne_of (show Has w8 o _ from hm8) hd8.cells (by decide)
    have hz6 := k7.size
    intro dd
    refine ⟨fun w' => Has w' b2 (.cells (setV g p k c) 51 (0, 0)), hset8.dr dd, ?_⟩
    refine LdV_of (v := .slice p k c) (fun w' hw => ⟨_, _, _, hw, rfl⟩) (OpS_slice.2 ?_)
    have kd := Keep.drew (fun _ => False) w8 dd
    refine d_On (hd8.keep kd (by simp) (by simp)) (m2 := m) fun w9 hd9 k9 => ?_
    have hx9 : ∀ {x : Nat} {cs : Array Value} {t : TypeId}, Has w8 x (.cells cs t (0, 0)) → t ≠ 220 → Has w9 x (.cells cs t (0, 0)) := fun hx ht => k9.has (hx.dr dd) (ne_of hx hd8.cells ht)
    have hset9 := hx9 hset8 (by decide)
    refine OpN_some.2 ⟨hset9, ?_⟩
    refine ⟨_, _, bsl_d1 b4 w9, OpS_slice.2 ?_⟩
    have k10 := Keep.new (fun _ => False) w9 (.cells #[.pointer (some ⟨b4, 0, none⟩)] 111)
    have h10 := Has.new w9 (.cells #[.pointer (some ⟨b4, 0, none⟩)] 111)
    generalize w9.alloc (.cells #[.pointer (some ⟨b4, 0, none⟩)] 111) = w10 at *
    have hset10 := k10.has hset9 (by simp)
    refine ⟨hset10, ?_⟩
    have hrow9 : OwnL dLay w9 b 111 p k c (bks.map Prod.fst) := by
      refine (hrow8.keep kd (by simp)).keep k9 fun x hx => ?_
      rcases Own.cases hrow8 with ⟨h0, _⟩ | ⟨b', cur, h0, _, hg', _⟩
      · rw [h0] at hx; cases hx
      · rw [h0] at hx; cases hx
        exact ne_of hg' hd8.cells (by decide)
    have hw10 : b ≤ w10.heap.size := by
      have h1 := hI.keep.size
      have h2 := k68.size
      have h3 := k9.size
      have h4 := k10.size
      have h3' : w8.heap.size ≤ w9.heap.size := h3
      omega
    obtain ⟨p11, c11, w11, hr11, o11, k11, hp11⟩ := run_appendF1 dLayT (hrow9.keep k10 (by simp)) (y := b4) h10 rfl (ty := 49) (by omega) (by simp only [maxLen]; omega) hw10 (c2 := 1)
    have hx11 : ∀ {x : Nat} {cs : Array Value} {t : TypeId}, Has w8 x (.cells cs t (0, 0)) → t ≠ 220 → t ≠ 111 → Has w11 x (.cells cs t (0, 0)) := fun {x cs t} hx h1 h2 => by
      have h10 := k10.has (hx9 hx h1) (by simp)
      refine k11.has h10 fun e => ?_
      rcases Own.cases (hrow9.keep k10 (by simp)) with ⟨h0, _⟩ | ⟨b', cur, h0, _, hg', _⟩
      · rw [h0] at e; cases e
      · rw [h0] at e; cases e
        exact ne_of h10 hg' h2 rfl
    have hset11 := hx11 hset8 (by decide) (by decide)
    refine ⟨_, _, hr11, OpS_slice.2 ⟨hset11, ?_⟩⟩
    refine StV_of hset11 (by show 3 < 4; decide) rfl ?_
    have hset12 := hset11.upd_same (.cells (setV g p11 (k + 1) c11) 51 (0, 0))
    have ek : IntKind.wrap .i64 ((k : Int) + 1) = ((k + 1 : Nat) : Int) := by rw [wrapI (by omega) (by omega)]; omega
    refine ⟨_, by show (g.d - IntKind.wrap .i64 ((k : Int) + 1)).toNat < (g.d - (k : Int)).toNat; rw [ek]; omega, ⟨k + 1, p11, c11, bks ++ [(b4, r4)], pw8, ek, by omega, ?_⟩, rfl⟩
    have kset : ∀ {x : Nat} {cs : Array Value} {t : TypeId}, Has w11 x (.cells cs t (0, 0)) → x ≠ b2 → Has (w11.upd b2 (.cells (setV g p11 (k + 1) c11) 51 (0, 0))) x (.cells cs t (0, 0)) := fun hx hn => hx.upd hn
    have k12 := Keep.one w11 b2 (.cells (setV g p11 (k + 1) c11) 51 (0, 0))
    have rowk : ∀ {x : Nat} {cs : Array Value}, Has w11 x (.cells cs 111 (0, 0)) → x ≠ b2 := fun hx => ne_of hx hset11 (by decide)
    have dk11 : ∀ {x y : Nat} {D : Dsk} {mm : Nat}, DiskAt w9 mm x y D → DiskAt (w11.upd b2 (.cells (setV g p11 (k + 1) c11) 51 (0, 0))) mm x y D := fun {x y D mm} hD => by
      have h10 := hD.keep k10 (by simp) (by simp)
      have h11 : DiskAt w11 mm x y D := by
        obtain ⟨cs, hcs⟩ := h10.rcells
        refine h10.keep k11 (fun e => ?_) (fun e => ?_)
        · rcases Own.cases (hrow9.keep k10 (by simp)) with ⟨h0, _⟩ | ⟨b', cur, h0, _, hg', _⟩
          · rw [h0] at e; cases e
          · rw [h0] at e; cases e
            exact ne_of h10.cells hg' (by decide) rfl
        · rcases Own.cases (hrow9.keep k10 (by simp)) with ⟨h0, _⟩ | ⟨b', cur, h0, _, hg', _⟩
          · rw [h0] at e; cases e
          · rw [h0] at e; cases e
            exact ne_of hcs hg' (by decide) rfl
      obtain ⟨cs, hcs⟩ := h11.rcells
      exact h11.keep k12 (ne_of h11.cells hset11 (by decide)) (ne_of hcs hset11 (by decide))
    have nb : ∀ br ∈ bks, br.1 ≠ b4 ∧ br.2 ≠ r4 := fun br hbr => by
      have h6 := hI.dsk br hbr
      obtain ⟨cs, hcs⟩ := h6.rcells
      have := hlt6 h6.cells
      have := hlt6 hcs
      omega
    have hw6 : w.heap.size ≤ w6.heap.size := hI.keep.size
    refine ⟨by simp [hI.len], ?_, hl8, ?_, ⟨cs1, hcs1, ?_⟩, hset12, ?_, ?_, ?_, ?_, ?_, ?_⟩
    · exact (hx11 (show Has w8 o _ from hm8) (by decide) (by decide)).upd (ne_of (hx11 (show Has w8 o _ from hm8) (by decide) (by decide)) hset11 (by decide))
    · exact (hx11 hgeo8 (by decide) (by decide)).upd (ne_of (hx11 hgeo8 (by decide) (by decide)) hset11 (by decide))
    · refine (hx11 hres8 (by decide) (by decide)).upd ?_
      omega
    · have e : (bks ++ [(b4, r4)]).map Prod.fst = bks.map Prod.fst ++ [b4] := by simp
      rw [e, hbe]
      refine o11.keep k12 fun x hx => ?_
      rcases Own.cases o11 with ⟨h0, _⟩ | ⟨b', cur, h0, _, hg', _⟩
      · rw [h0] at hx; cases hx
      · rw [h0] at hx; cases hx
        exact rowk hg'
    · intro br hbr
      rcases List.mem_append.1 hbr with hbr | hbr
      · have h8 := hdsk8 br hbr
        obtain ⟨cs, hcs⟩ := h8.rcells
        exact dk11 ((h8.keep kd (by simp) (by simp)).keep k9 (nb br hbr).1 (ne_of hcs hd8.cells (by decide)))
      · rw [List.mem_singleton.1 hbr]
        exact dk11 hd9
    · intro br hbr
      rcases List.mem_append.1 hbr with hbr | hbr
      · exact hI.low br hbr
      · rw [List.mem_singleton.1 hbr]
        exact ⟨Nat.le_trans hw6 hb47, Nat.le_trans hw6 hr47⟩
    · have e : (bks ++ [(b4, r4)]).map Prod.fst = bks.map Prod.fst ++ [b4] := by simp
      rw [e, List.nodup_append]
      refine ⟨hI.nodb, by simp, fun x hx y hy => ?_⟩
      obtain ⟨br, hbr, rfl⟩ := List.mem_map.1 hx
      rw [List.mem_singleton.1 hy]
      exact (nb br hbr).1
    · have e : (bks ++ [(b4, r4)]).map Prod.snd = bks.map Prod.snd ++ [r4] := by simp
      rw [e, List.nodup_append]
      refine ⟨hI.nodr, by simp, fun x hx y hy => ?_⟩
      obtain ⟨br, hbr, rfl⟩ := List.mem_map.1 hx
      rw [List.mem_singleton.1 hy]
      exact (nb br hbr).2
    · have a1 : Keep (fun _ => False) w w8 := hI.keep.trans' k68 fun x hx hh => by
        rcases hh with e | e
        · rw [e, ho] at hx
          have := k04.size
          omega
        · omega
      have a2 : Keep (fun _ => False) w w9 := (a1.dr dd).trans' k9 fun x hx e => by omega
      have a3 : Keep (fun _ => False) w w11 := (a2.trans k10).trans' k11 fun x hx e => by
        have := (hrow9.lt e).1
        rw [hbe] at hx
        omega
      exact a3.upd (by rw [hbe]; omega) _
  · have hc : (k : Int) = g.d := by
      have : ¬ (k : Int) < g.d := by simpa using hc
      omega
    have ek : g.d.toNat = k := by omega
    rw [ek] at hK
    obtain ⟨cs1, hcs1, hres⟩ := hI.res
    refine LdA_all hI.set rfl ?_
    refine StA_all hres rfl hcs1 (one_setV g p k c) ?_
    refine LdA_all (hres.upd_same _) rfl ?_
    have kf := Keep.one w6 b1 (.cells (setV g p k c) 51 (0, 0))
    have ne_of : ∀ {x y : Nat} {cs cs' : Array Value} {t t' : TypeId} {W : World}, Has W x (.cells cs t (0, 0)) → Has W y (.cells cs' t' (0, 0)) → t ≠ t' → x ≠ y := fun h1 h2 ht => h1.ne h2 (by simp only [ne_eq, Obj.cells.injEq]; intro e; exact ht e.2.1)
    have hm6 : MaAt w6 m pw := hI.keep.has hm (by simp)
    refine Ret_nil.2 (hK p c bks _ ⟨?_, hg, ?_, ?_, ?_, hI.nodb, hI.nodr⟩ ?_ ?_ ?_)
    · exact kf.has (show Has w6 m _ from hm6) (ne_of (show Has w6 m _ from hm6) hres (by decide))
    · show bks.length = (List.replicate k (newD n)).length
      rw [hI.len, List.length_replicate]
    · show ((List.replicate k (newD n)).length : Int) = g.d
      rw [List.length_replicate, hc]
    · intro i br D hb' hD
      have hb' : bks[i]? = some br := hb'
      have hD : (List.replicate k (newD n))[i]? = some D := hD
      have hDe : D = newD n := by
        rw [List.getElem?_replicate] at hD
        split at hD
        · exact (Option.some.inj hD).symm
        · cases hD
      subst hDe
      have h6 := hI.dsk br (List.mem_of_getElem? hb')
      obtain ⟨cs, hcs⟩ := h6.rcells
      refine ⟨h6.keep kf (ne_of h6.cells hres (by decide)) (ne_of hcs hres (by decide)), ?_⟩
      show ((nuls n).length : Int) = g.c * g.s
      rw [len_nuls, hn]
    · have := hI.row
      rw [hbe] at this
      refine this.keep kf fun x hx => ?_
      rcases Own.cases this with ⟨h0, _⟩ | ⟨b', cur, h0, _, hg', _⟩
      · rw [h0] at hx; cases hx
      · rw [h0] at hx; cases hx
        exact ne_of hg' hres (by decide)
    · intro br hbr
      have := hI.low br hbr
      rw [hbe] at this
      exact this
    · exact hI.keep.upd (by rw [hbe]; omega) _
end calls
end Go.Proofs

/-
  A CELL OF A SET: sum.Good, stripe.cell; a disk's Fence, Key, Fail, Alive, Hurt.
-/
namespace Go.Proofs
open Go Go.Ev
set_option linter.unusedSimpArgs false
set_option linter.unusedVariables false
set_option maxRecDepth 100000

def CelOk (c : Cel) : Prop := SecOk c.data ∧ 0 ≤ c.sum ∧ c.sum ≤ 4294967295
theorem celV_inj {a b : Cel} (h : celV a = celV b) : a = b := by
  have h : celL a = celL b := by simpa [celV] using h
  have h1 := List.append_inj h rfl
  have h2 := secV_inj (Array.ext' h1.1)
  have h3 : a.sum = b.sum := by simpa using h1.2
  cases a; cases b; simp_all
theorem Fits.app : ∀ {ks ls : List CK} {vs us : List Value}, Fits ks vs → Fits ls us → Fits (ks ++ ls) (vs ++ us)
  | [], _, [], _, _, h => h
  | _ :: _, _, _ :: _, _, h1, h2 => ⟨h1.1, Fits.app h1.2 h2⟩
  | [], _, _ :: _, _, h1, _ => h1.elim
  | _ :: _, _, [], _, h1, _ => h1.elim
theorem fits_celV {c : Cel} (h : CelOk c) : Fits (List.replicate 16 (.int .u8) ++ [.int .u32]) (celV c).toList := by
  have : (celV c).toList = (secV c.data).toList ++ [.int .u32 c.sum] := by simp [celV, celL]
  rw [this]
  exact Fits.app (fits_secV h.1) ⟨⟨_, rfl, h.2.1, h.2.2⟩, trivial⟩
theorem EqB_cel {x y : Operand} {a b : Cel} {C : World → Prop} {K : Bool → Prop} (ha : CelOk a) (hb : CelOk b) (hK : ∀ r : Bool, (r = true ↔ a = b) → K r) :
    EqB Tryz.prog .eql 86 x y (.agg (celV a)) (.agg (celV b)) C K :=
  EqB_flat (ks := List.replicate 16 (.int .u8) ++ [.int .u32]) (by kernel_rfl) (by kernel_rfl) (by kernel_rfl) (by kernel_rfl) (by kernel_rfl) (fits_celV ha) (fits_celV hb)
    fun r hr => hK r (hr.trans ⟨celV_inj, fun e => by rw [e]⟩)
theorem EqB_cel_ne {x y : Operand} {a b : Cel} {C : World → Prop} {K : Bool → Prop} (ha : CelOk a) (hb : CelOk b) (hK : ∀ r : Bool, (r = true ↔ a ≠ b) → K r) :
    EqB Tryz.prog .neq 86 x y (.agg (celV a)) (.agg (celV b)) C K :=
  EqB_flat_ne (ks := List.replicate 16 (.int .u8) ++ [.int .u32]) (by kernel_rfl) (by kernel_rfl) (by kernel_rfl) (by kernel_rfl) (by kernel_rfl) (fits_celV ha) (fits_celV hb)
    fun r hr => hK r (hr.trans ⟨fun h e => h (by rw [e]), fun h e => h (celV_inj e)⟩)
theorem crcS_ok (l : List Int) : 0 ≤ crcS l ∧ crcS l ≤ 4294967295 := by
  unfold crcS
  generalize foldS (ibits .xor .u32 allS 0) l = x
  generalize allS = y
  have h := (BitVec.ofInt 32 y ^^^ BitVec.ofInt 32 x).isLt
  have e : ibits .xor .u32 y x = ((BitVec.ofInt 32 y ^^^ BitVec.ofInt 32 x).toNat : Int) := by
    show IntKind.wrap .u32 ((BitVec.ofInt 32 y ^^^ BitVec.ofInt 32 x).toNat : Int) = _
    exact wrapU32 (by omega) (by omega)
  rw [e]
  omega
theorem sumS_ok (at_ : Int) (d : Sec) : 0 ≤ sumS at_ d ∧ sumS at_ d ≤ 4294967295 := crcS_ok _
theorem ext_cel (c : Cel) : (celV c).extract 0 (0 + 16) = secV c.data := by
  apply Array.ext'
  unfold celV celL
  simp only [Array.toList_extract, List.extract_eq_take_drop, List.drop_zero]
  exact List.take_left' rfl
theorem ext_cel' (c : Cel) : (celV c).extract 0 17 = celV c := by
  apply Array.ext'
  unfold celV celL
  simp only [Array.toList_extract, List.extract_eq_take_drop, List.drop_zero]
  exact List.take_of_length_le (Nat.le_refl 17)
theorem run_max (k : IntKind) (a b : Int) (t : TypeId) (ts : Array TypeId) (w : World) : (Builtin.max_ ts t #[.int k a, .int k b]).run Tryz.prog w = .ok (.int k (max a b)) w := by
  simp only [Builtin.max_, List.foldlM, Builtin.max2, Sem.run_bind, Sem.run_pure, if_true]
  by_cases h : a < b
  · simp [h, Sem.run_pure, Int.max_eq_right (Int.le_of_lt h)]
  · simp [h, Sem.run_pure, Int.max_eq_left (Int.not_lt.1 h)]
section good
variable {w : World} {R : Value → World → Prop}
theorem s_Good {at_ : Int} {c : Cel} (hc : CelOk c) (hK : ∀ w', Keep (fun _ => False) w w' → R (.bool (decide (c.sum = sumS at_ c.data))) w') : CallV Tryz.prog 176 #[.int .i64 at_, .agg (celV c)] w R := by
  apply C_sum_Good
  unfold F_sum_Good
  refine alc_fresh fun w1 hb k1 z1 => ?_
  intro d
  refine ⟨fun w' => Has w' w.heap.size (.cells (celV c) 86 (0, 0)), hb.dr d, ?_⟩
  refine LdA_has (cs := secV c.data) (hb.dr d) (by show 0 + 16 ≤ 17; decide) (ext_cel c) ?_
  refine LdA_of (cs := celV c) rfl (fun w' hw => ⟨_, _, _, hw, by show 0 + 17 ≤ 17; decide, ext_cel' c⟩) ?_
  refine s_Seal fun w2 k2 => OpA_agg.2 ⟨rfl, ?_⟩
  refine ⟨k2.has (hb.dr d) (by simp), ?_⟩
  refine EqB_cel ⟨hc.1, sumS_ok _ _⟩ hc fun r hr => Ret_nil.2 ?_
  have e : r = decide (c.sum = sumS at_ c.data) := by
    have : (Cel.mk c.data (sumS at_ c.data) = c) ↔ (c.sum = sumS at_ c.data) := by
      cases c
      simp [eq_comm]
    rw [this] at hr
    cases r with
    | true => rw [decide_eq_true (hr.1 rfl)]
    | false => rw [decide_eq_false (fun h => by have := hr.2 h; cases this)]
  rw [e]
  exact hK w2 ((k1.dr d).trans k2)
end good

section disk
variable {w : World} {m b r : Nat} {D : Dsk} {R : Value → World → Prop}
theorem d_Key (h : DiskAt w m b r D) (hK : R (.int .u32 D.key) w) : CallV Tryz.prog 125 #[.pointer (some ⟨b, 0, none⟩)] w R := by
  apply C_disk_Disk_Key
  unfold F_disk_Disk_Key
  exact LdV_has (v := .int .u32 D.key) h.cells rfl (OpI_int.2 (Ret_nil.2 hK))
theorem d_Alive (h : DiskAt w m b r D) (hK : R (.bool (!D.dead)) w) : CallV Tryz.prog 87 #[.pointer (some ⟨b, 0, none⟩)] w R := by
  apply C_disk_Disk_Alive
  unfold F_disk_Disk_Alive
  exact LdV_has (v := .bool D.dead) h.cells rfl (OpB_bool.2 (Ret_nil.2 hK))
theorem DiskAt.cel (h : DiskAt w m b r D) {D' : Dsk} (hs : D'.secs = D.secs) : DiskAt (w.upd b (.cells (diskC m r D') 220 (0, 0))) m b r D' := by
  refine ⟨h.cells.upd_same _, ?_⟩
  rw [hs]
  exact h.row.keep (Keep.one w b _) fun k hk e => by
    subst e
    injection hk with hk
    injection hk with hk
    exact h.ne hk.symm
theorem d_Fail (h : DiskAt w m b r D) (hK : ∀ w', DiskAt w' m b r { D with dead := true } → Keep (fun k => k = b) w w' → R (.tuple #[]) w') : CallV Tryz.prog 58 #[.pointer (some ⟨b, 0, none⟩)] w R := by
  apply C_disk_Disk_Fail
  unfold F_disk_Disk_Fail
  refine StV_of h.cells (by show 3 < 4; decide) rfl ?_
  exact Ret_nil.2 (hK _ (h.cel (D' := { D with dead := true }) rfl) (Keep.one _ _ _))
/-- what Fence answers, and the disk behind it -/
def fenceD (pw : Pow) (D : Dsk) (ep : Int) : Int × Dsk :=
  if pw.on = false then (4, D) else if D.dead = true then (5, D) else (0, { D with key := max D.key ep })
theorem d_Fence {pw : Pow} (h : DiskAt w m b r D) (hm : MaAt w m pw) {ep : Int} (hk : 0 ≤ D.key ∧ D.key ≤ 4294967295) (hep : 0 ≤ ep ∧ ep ≤ 4294967295) (hK : ∀ w', DiskAt w' m b r (fenceD pw D ep).2 → Keep (fun k => k = b) w w' → R (.int .i64 (fenceD pw D ep).1) w') :
    CallV Tryz.prog 123 #[.pointer (some ⟨b, 0, none⟩), .int .u32 ep] w R := by
  apply C_disk_Disk_Fence
  unfold F_disk_Disk_Fence
  unfold fenceD at hK
  refine LdV_has (v := .pointer (some ⟨m, 0, none⟩)) h.cells rfl (OpN_some.2 ?_)
  refine ma_On hm (OpB_bool.2 ?_)
  refine Cb_of (fun hc => ?_) (fun hc => ?_)
  · have hc : pw.on = false := by simpa using hc
    rw [if_pos hc] at hK
    exact Ret_nil.2 (hK w h (Keep.refl _ _))
  have hon : pw.on = true := by simpa using hc
  rw [if_neg (by simp [hon])] at hK
  refine LdV_has (v := .bool D.dead) h.cells rfl (OpB_bool.2 ?_)
  refine Cb_of (fun hd => ?_) (fun hd => ?_)
  · rw [if_pos hd] at hK
    exact Ret_nil.2 (hK w h (Keep.refl _ _))
  have hd : D.dead = false := hd
  rw [if_neg (by simp [hd])] at hK
  refine LdV_has (v := .int .u32 D.key) h.cells rfl (OpI_int.2 ?_)
  refine DoQ_of (v := .int .u32 (max D.key ep)) (fun d => ?_) (OpI_int.2 ?_)
  · exact run_max _ _ _ _ _ _
  refine StV_of h.cells (by show 2 < 4; decide) rfl ?_
  exact Ret_nil.2 (hK _ (h.cel (D' := { D with key := max D.key ep }) rfl) (Keep.one _ _ _))
/-- what Hurt does -/
def hurtD (D : Dsk) (at_ : Int) : Dsk :=
  if 0 ≤ at_ ∧ at_ < (D.secs.length : Int) then if D.dead = true then D else { D with secs := D.secs.set at_.toNat { D.secs.getD at_.toNat sct0 with good := false } } else D
theorem d_Hurt (h : DiskAt w m b r D) {at_ : Int} (hK : ∀ e w', DiskAt w' m b r (hurtD D at_) → Keep (fun k => k = r) w w' → R (.int .i64 e) w') :
    CallV Tryz.prog 100 #[.pointer (some ⟨b, 0, none⟩), .int .i64 at_] w R := by
  apply C_disk_Disk_Hurt
  unfold F_disk_Disk_Hurt
  unfold hurtD at hK
  refine d_in h (OpB_bool.2 ?_)
  refine Cb_of (fun hc => ?_) (fun hc => ?_)
  · have hc : ¬ (0 ≤ at_ ∧ at_ < (D.secs.length : Int)) := by
      rw [Bool.not_eq_true', decide_eq_false_iff_not] at hc
      exact hc
    rw [if_neg hc] at hK
    exact Ret_nil.2 (hK _ w h (Keep.refl _ _))
  have hin : 0 ≤ at_ ∧ at_ < (D.secs.length : Int) := by simpa using hc
  rw [if_pos hin] at hK
  refine LdV_has (v := .bool D.dead) h.cells rfl (OpB_bool.2 ?_)
  refine Cb_of (fun hd => ?_) (fun hd => ?_)
  · rw [if_pos hd] at hK
    exact Ret_nil.2 (hK _ w h (Keep.refl _ _))
  have hd : D.dead = false := hd
  rw [if_neg (by simp [hd])] at hK
  refine LdV_has (v := .slice (some ⟨r, 0, none⟩) D.secs.length D.secs.length) h.cells rfl (OpS_slice.2 ?_)
  have hget : D.secs[at_.toNat]? = some (D.secs.getD at_.toNat sct0) := by
    have := getD_at (xs := D.secs) (i := at_.toNat) (by omega) sct0
    rwa [Int.toNat_natCast] at this
  generalize D.secs.getD at_.toNat sct0 = x at *
  refine h.row.stF (i := at_) (n := 18) (t := 17) (x := x) (y := { x with good := false }) (v := .bool false) rfl hin.1 hget (by decide) rfl rfl fun w' ho k _ => ?_
  have k' : Keep (fun k => k = r) w w' := k.mono fun k hk => by
    injection hk with hk
    injection hk with hk
    exact hk.symm
  have hl : (D.secs.set at_.toNat { x with good := false }).length = D.secs.length := by simp
  refine Ret_nil.2 (hK _ w' ⟨?_, ?_⟩ k')
  · have := k'.has h.cells h.ne
    unfold diskC at this ⊢
    rw [hl]
    exact this
  · rw [hl]
    exact ho
end disk

/-! ### a cell of a set -/
def cellD (D : Dsk) (at_ : Int) : Option Sec :=
  if D.dead = true then none else if (D.secs.getD at_.toNat sct0).good = false then none
  else if (D.secs.getD at_.toNat sct0).cel.sum = sumS at_ (D.secs.getD at_.toNat sct0).cel.data then some (D.secs.getD at_.toNat sct0).cel.data else none
def cellV (pw : Pow) (C : Option Sec) : Value :=
  if pw.on = false then .tuple #[.agg (secV (sec [])), .bool false, .int .i64 4]
  else .tuple #[.agg (secV (C.getD (sec []))), .bool C.isSome, .int .i64 0]
def CelT (b1 b2 b5 : Nat) (n2 : Int) (w : World) (R : Value → World → Prop) : Prop :=
  Cb (n2 == 4) (DoQ Tryz.prog (Instr.build 37 #[]) (At w) fun v7 => OpA 16 v7 fun cs1 => StA 16 b2 0 cs1 w fun w => LdA 16 b2 0 (At w) fun cs2 => Ret [] (R (.tuple #[.agg cs2, .bool false, .int .i64 n2]) w))
  (Cb (n2 != 0) (DoQ Tryz.prog (Instr.build 37 #[]) (At w) fun v8 => OpA 16 v8 fun cs3 => StA 16 b2 0 cs3 w fun w => LdA 16 b2 0 (At w) fun cs4 => Ret [] (R (.tuple #[.agg cs4, .bool false, .int .i64 0]) w))
  (LdV b1 1 (At w) fun v9 => OpI .i64 v9 fun n3 => LdA 17 b5 0 (At w) fun cs5 => CallV Tryz.prog 176 #[.int .i64 n3, .agg cs5] w fun v10 w => OpB v10 fun g => Cb (!g) (DoQ Tryz.prog (Instr.build 37 #[]) (At w) fun v11 => OpA 16 v11 fun cs6 => StA 16 b2 0 cs6 w fun w => LdA 16 b2 0 (At w) fun cs7 => Ret [] (R (.tuple #[.agg cs7, .bool false, .int .i64 0]) w))
  (LdA 16 b5 0 (At w) fun cs8 => StA 16 b2 0 cs8 w fun w => LdA 16 b2 0 (At w) fun cs9 => Ret [] (R (.tuple #[.agg cs9, .bool true, .int .i64 0]) w))))
theorem celT {w : World} {b1 b2 b5 : Nat} {x : Plc} {c : Cel} {n : Int} {R : Value → World → Prop} {S : Nat → Prop} {w0 : World} (k0 : Keep S w0 w) (hS : S b2) (h1 : Has w b1 (.cells (plcV x) 84 (0, 0))) (h2 : Has w b2 (.cells (secV (sec [])) 37 (0, 0))) (h5 : Has w b5 (.cells (celV c) 86 (0, 0))) (hc : CelOk c)
    (hK : ∀ w', Keep S w0 w' → R (if n = 4 then .tuple #[.agg (secV (sec [])), .bool false, .int .i64 4] else if n ≠ 0 then .tuple #[.agg (secV (sec [])), .bool false, .int .i64 0] else if c.sum = sumS x.at_ c.data then .tuple #[.agg (secV c.data), .bool true, .int .i64 0] else .tuple #[.agg (secV (sec [])), .bool false, .int .i64 0]) w') : CelT b1 b2 b5 n w R := by
  unfold CelT
  have fin : ∀ (f : Sec) (g : Bool) (e : Int) (w1 : World), Has w1 b2 (.cells (secV (sec [])) 37 (0, 0)) → Keep S w0 w1 → (∀ w', Keep S w0 w' → R (.tuple #[.agg (secV f), .bool g, .int .i64 e]) w') → StA 16 b2 0 (secV f) w1 fun w => LdA 16 b2 0 (At w) fun cs2 => Ret [] (R (.tuple #[.agg cs2, .bool g, .int .i64 e]) w) := by
    intro f g e w1 hb k hr
    refine StA_all hb rfl rfl (one_secV f) ?_
    refine LdA_all (hb.upd_same _) rfl ?_
    exact Ret_nil.2 (hr _ (k.upd (fun _ => hS) _))
  have bad : ∀ (e : Int) (w1 : World), Has w1 b2 (.cells (secV (sec [])) 37 (0, 0)) → Keep S w0 w1 → (∀ w', Keep S w0 w' → R (.tuple #[.agg (secV (sec [])), .bool false, .int .i64 e]) w') → DoQ Tryz.prog (Instr.build 37 #[]) (At w1) fun v7 => OpA 16 v7 fun cs1 => StA 16 b2 0 cs1 w1 fun w => LdA 16 b2 0 (At w) fun cs2 => Ret [] (R (.tuple #[.agg cs2, .bool false, .int .i64 e]) w) := by
    intro e w1 hb k hr
    exact DoQ_of (fun d => bld_sec0 _) (OpA_agg.2 ⟨rfl, fin _ _ _ _ hb k hr⟩)
  refine Cb_of (fun h => ?_) (fun h => ?_)
  · have h : n = 4 := by simpa using h
    rw [h]
    exact bad 4 w h2 k0 fun w' k => by have := hK w' k; rwa [if_pos h] at this
  have h4 : n ≠ 4 := by simpa using h
  refine Cb_of (fun h => ?_) (fun h => ?_)
  · have h : n ≠ 0 := by simpa using h
    exact bad 0 w h2 k0 fun w' k => by have := hK w' k; rwa [if_neg h4, if_pos h] at this
  have h0 : n = 0 := by simpa using h
  refine LdV_has (v := .int .i64 x.at_) h1 rfl (OpI_int.2 ?_)
  refine LdA_all h5 rfl ?_
  refine s_Good hc fun w1 k1 => OpB_bool.2 ?_
  have k01 := k0.trans (k1.mono fun _ h => h.elim)
  have h21 := k1.has h2 (by simp)
  refine Cb_of (fun h => ?_) (fun h => ?_)
  · have h : ¬ c.sum = sumS x.at_ c.data := by simpa using h
    exact bad 0 w1 h21 k01 fun w' k => by have := hK w' k; rwa [if_neg h4, if_neg (by simp [h0]), if_neg h] at this
  · have h : c.sum = sumS x.at_ c.data := by simpa using h
    refine LdA_has (cs := secV c.data) (k1.has h5 (by simp)) (by show 0 + 16 ≤ 17; decide) (ext_cel c) ?_
    exact fin _ _ _ w1 h21 k01 fun w' k => by have := hK w' k; rwa [if_neg h4, if_neg (by simp [h0]), if_pos h] at this
theorem sec0_ok' : SecOk (sec []) := sec_ok (by simp)
def DskOk (D : Dsk) : Prop := (∀ x ∈ D.secs, CelOk x.cel) ∧ 0 ≤ D.key ∧ D.key ≤ 4294967295
theorem sct0_ok : CelOk sct0.cel := ⟨sec0_ok', by decide, by decide⟩
theorem DskOk.get {D : Dsk} (h : DskOk D) (i : Nat) : CelOk (D.secs.getD i sct0).cel := by
  rw [List.getD_eq_getElem?_getD]
  cases hx : D.secs[i]? with
  | none => exact sct0_ok
  | some x => exact h.1 x (List.mem_of_getElem? hx)
theorem readD_cell {pw : Pow} {D : Dsk} {at_ : Int} (hin : 0 ≤ at_ ∧ at_ < (D.secs.length : Int)) : (if (readD pw D at_).2 = 4 then Value.tuple #[.agg (secV (sec [])), .bool false, .int .i64 4] else if (readD pw D at_).2 ≠ 0 then .tuple #[.agg (secV (sec [])), .bool false, .int .i64 0] else if (readD pw D at_).1.sum = sumS at_ (readD pw D at_).1.data then .tuple #[.agg (secV (readD pw D at_).1.data), .bool true, .int .i64 0] else .tuple #[.agg (secV (sec [])), .bool false, .int .i64 0]) = cellV pw (cellD D at_) := by
  have hn : ¬ ¬ (0 ≤ at_ ∧ at_ < (D.secs.length : Int)) := by simpa using hin
  unfold cellV cellD
  by_cases hp : pw.on = false
  · have hr : readD pw D at_ = (cel0, 4) := by unfold readD; rw [if_neg hn, if_pos hp]
    rw [hr, if_pos hp, if_pos rfl]
  · rw [if_neg hp]
    by_cases hd : D.dead = true
    · have hr : readD pw D at_ = (cel0, 5) := by unfold readD; rw [if_neg hn, if_neg hp, if_pos hd]
      rw [hr, if_pos hd, if_neg (by decide), if_pos (by decide)]
      rfl
    · rw [if_neg hd]
      by_cases hg : (D.secs.getD at_.toNat sct0).good = false
      · have hr : readD pw D at_ = (cel0, 7) := by unfold readD; rw [if_neg hn, if_neg hp, if_neg hd, if_pos hg]
        rw [hr, if_pos hg, if_neg (by decide), if_pos (by decide)]
        rfl
      · have hr : readD pw D at_ = ((D.secs.getD at_.toNat sct0).cel, 0) := by unfold readD; rw [if_neg hn, if_neg hp, if_neg hd, if_neg hg]
        rw [hr, if_neg hg, if_neg (show ¬ (0 : Int) = 4 by decide), if_neg (show ¬ (0 : Int) ≠ 0 by decide)]
        by_cases hs : (D.secs.getD at_.toNat sct0).cel.sum = sumS at_ (D.secs.getD at_.toNat sct0).cel.data
        · rw [if_pos hs, if_pos hs]; rfl
        · rw [if_neg hs, if_neg hs]; rfl
theorem readD_ok {pw : Pow} {D : Dsk} {at_ : Int} (h : DskOk D) : CelOk (readD pw D at_).1 := by
  unfold readD
  split
  · exact sct0_ok
  · split
    · exact sct0_ok
    · split
      · exact sct0_ok
      · split
        · exact sct0_ok
        · exact h.get _
section calls
variable {w : World} {q : SB} {s : SS} {R : Value → World → Prop}
theorem st_cell (h : SetAt w q s) {p : Option Addr} {l c : Nat} (hsl : SlL dLay w p l (q.bks.map Prod.fst)) {x : Plc} (hxd : 0 ≤ x.dk ∧ x.dk < q.g.d) (hxa : 0 ≤ x.at_ ∧ x.at_ < q.g.c * q.g.s) (hok : ∀ D ∈ s.ds, DskOk D)
    (hK : ∀ w', Keep (fun _ => False) w w' → R (cellV s.pw (cellD (s.ds.getD x.dk.toNat dsk0) x.at_)) w') : CallV Tryz.prog 106 #[.agg (setV q.g p l c), .agg (plcV x)] w R := by
  apply C_stripe_cell
  unfold F_stripe_cell
  refine alc_fresh fun w1 hb1 k1 z1 => ?_
  refine alc_fresh fun w2 hb2 k2 z2 => ?_
  refine alc_fresh fun w3 hb3 k3 z3 => ?_
  rw [zc_sec] at hb3
  have hs3 := (k2.trans k3).has hb1 (by simp)
  have hp3 := k3.has hb2 (by simp)
  have k03 := (k1.trans k2).trans k3
  have hz : w.heap.size ≤ w2.heap.size := by omega
  have hz1 : w.heap.size < w2.heap.size := by omega
  have hz2 : w1.heap.size < w2.heap.size := by omega
  generalize hB2 : w2.heap.size = b2 at *
  generalize w1.heap.size = b1 at *
  generalize hB : w.heap.size = b at *
  intro d
  have kd := Keep.drew (fun _ => False) w3 d
  have h4 := h.keep0 (k03.trans kd)
  have hsl4 := hsl.keepB (k03.trans kd) (by simp)
  have hs4 := hs3.dr d
  have hp4 := hp3.dr d
  have hc4 := hb3.dr d
  have k04 := k03.trans kd
  generalize w3.dr d = w4 at *
  obtain ⟨S, hS⟩ : ∃ S : World → Prop, S = fun w' => Has w' b (.cells (setV q.g p l c) 51 (0, 0)) ∧ Has w' b1 (.cells (plcV x) 84 (0, 0)) ∧ SlL dLay w' p l (q.bks.map Prod.fst) := ⟨_, rfl⟩
  have hSw : ∀ w', Keep (fun k => k = b2) w4 w' → S w' := fun w' k => by
    rw [hS]
    exact ⟨k.has hs4 (by omega), k.has hp4 (by omega), hsl.keepB ((k04.mono fun _ h => h.elim).trans k) fun i hi e => by rw [hB] at hi; omega⟩
  have hS1 : ∀ w', S w' → Has w' b (.cells (setV q.g p l c) 51 (0, 0)) := fun w' hw => by rw [hS] at hw; exact hw.1
  have hS2 : ∀ w', S w' → Has w' b1 (.cells (plcV x) 84 (0, 0)) := fun w' hw => by rw [hS] at hw; exact hw.2.1
  have hS3 : ∀ w', S w' → SlL dLay w' p l (q.bks.map Prod.fst) := fun w' hw => by rw [hS] at hw; exact hw.2.2
  have hS0 : S w4 := hSw w4 (Keep.refl _ _)
  refine ⟨S, hS0, ?_⟩
  refine LdV_of (v := .slice p l c) (fun w' hw => ⟨_, _, _, hS1 w' hw, rfl⟩) (OpS_slice.2 ?_)
  refine LdV_of (v := .int .i64 x.dk) (fun w' hw => ⟨_, _, _, hS2 w' hw, rfl⟩) (OpI_int.2 ?_)
  obtain ⟨bd, r, D, hbk, hD, hda, hdl⟩ := h4.get (i := x.dk.toNat) (by have := h4.num; omega)
  have hDg : s.ds.getD x.dk.toNat dsk0 = D := by rw [List.getD_eq_getElem?_getD, hD]; rfl
  have hDok : DskOk D := hok D (List.mem_of_getElem? hD)
  rw [hDg] at hK
  refine SlL.ldSd (S := S) (w0 := w4) hS0 hS3 (i := x.dk) (x := bd) (n := 1) (v := .pointer (some ⟨bd, 0, none⟩)) rfl hxd.1 (by rw [List.getElem?_map, hbk]; rfl) rfl ?_
  refine OpN_some.2 ?_
  refine LdV_of (v := .int .i64 x.at_) (fun w' hw => ⟨_, _, _, hS2 w' hw, rfl⟩) (OpI_int.2 ?_)
  have hxl : 0 ≤ x.at_ ∧ x.at_ < (D.secs.length : Int) := by rw [hdl]; exact hxa
  have hrc := readD_cell (pw := s.pw) (D := D) (at_ := x.at_) hxl
  have hro := readD_ok (pw := s.pw) (D := D) (at_ := x.at_) hDok
  have hz4 : b2 < w4.heap.size := hc4.lt
  have hfin : ∀ w', Keep (fun k => k = b2) w4 w' → Keep (fun _ => False) w w' := fun w' k => k04.trans' k fun i hi e => by rw [hB] at hi; omega
  -- the tail, in whatever order
  have tail : ∀ (w5 : World) (b5 : Nat), Keep (fun _ => False) w4 w5 → b5 ≠ b2 → b5 ≠ b → b5 ≠ b1 → w4.heap.size ≤ b5 → Has w5 b5 (.cells (celV (readD s.pw D x.at_).1) 86 (0, 0)) → CelT b1 b2 b5 (readD s.pw D x.at_).2 w5 R := by
    intro w5 b5 k5 _ _ _ _ hc5
    refine celT (S := fun k => k = b2) (w0 := w4) (k5.mono fun _ h => h.elim) rfl (k5.has hp4 (by simp)) (k5.has hc4 (by simp)) hc5 hro fun w' k' => ?_
    rw [hrc]
    exact hK w' (hfin w' k')
  have keepF : ∀ {w5 : World}, Keep (fun _ => False) w4 w5 → S w5 := fun k => hSw _ (k.mono fun _ h => h.elim)
  refine ⟨?_, ?_⟩
  · refine d_Read hda h4.main fun w5 k5 => ?_
    refine T2_mk.2 (OpA_agg.2 ⟨rfl, OpI_int.2 ⟨keepF k5, ?_⟩⟩)
    refine alc_fresh fun w6 hb6 k6 z6 => ?_
    refine ⟨keepF (k5.trans k6), ?_⟩
    rw [zc_cel] at hb6
    have hz5 := k5.size
    have hz6 : w4.heap.size ≤ w5.heap.size := hz5
    refine StA_all hb6 rfl rfl (one_celV _) ?_
    have k47 : Keep (fun _ => False) w4 (w6.upd w5.heap.size (.cells (celV (readD s.pw D x.at_).1) 86 (0, 0))) := (Keep.refl (fun _ => False) w4).trans' (((k5.trans k6).mono fun _ h => h.elim).upd (S := fun k => k = w5.heap.size) (fun _ => rfl) _) fun i hi e => by omega
    refine ⟨keepF k47, ?_⟩
    exact tail _ w5.heap.size k47 (by omega) (by have := hs4.lt; omega) (by have := hp4.lt; omega) hz6 (hb6.upd_same _)
  · refine alc_fresh fun w6 hb6 k6 z6 => ?_
    refine ⟨keepF k6, ?_⟩
    rw [zc_cel] at hb6
    refine d_Read (hda.keep k6 (by simp) (by simp)) (h4.keep0 k6).main fun w5 k5 => ?_
    have hb5 := k5.has hb6 (by simp)
    refine T2_mk.2 (OpA_agg.2 ⟨rfl, OpI_int.2 ⟨keepF (k6.trans k5), ?_⟩⟩)
    refine StA_all hb5 rfl rfl (one_celV _) ?_
    have k47 : Keep (fun _ => False) w4 (w5.upd w4.heap.size (.cells (celV (readD s.pw D x.at_).1) 86 (0, 0))) := (Keep.refl (fun _ => False) w4).trans' (((k6.trans k5).mono fun _ h => h.elim).upd (S := fun k => k = w4.heap.size) (fun _ => rfl) _) fun i hi e => by omega
    refine ⟨keepF k47, ?_⟩
    exact tail _ w4.heap.size k47 (by omega) (by have := hs4.lt; omega) (by have := hp4.lt; omega) (Nat.le_refl _) (hb5.upd_same _)
end calls
end Go.Proofs
