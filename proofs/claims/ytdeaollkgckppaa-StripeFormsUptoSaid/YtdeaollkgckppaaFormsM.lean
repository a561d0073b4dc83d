/-
  FORMS AND SETS THAT ARE REFUSED: the calls of stripe at them.
-/
import Derived.Test.YtdeaollkgckppaaOpenM
import Derived.Test.YtdeaollkgckppaaFForms9
namespace Go.Proofs
open Go Go.Ev Go.RowKit
set_option linter.unusedSimpArgs false
set_option linter.unusedVariables false
set_option maxRecDepth 100000

section form
variable {w : World} {g : Geo} {R : Value → World → Prop}
theorem not_form (h : ¬ GeoOk g) (h1 : ¬ g.d < 4) (h2 : ¬ g.d > 32) (h3 : ¬ g.c < 1) (h4 : ¬ g.c > 8) (h5 : ¬ g.s < 1) (h6 : ¬ g.s > 64) : False := h ⟨⟨by omega, by omega⟩, ⟨by omega, by omega⟩, ⟨by omega, by omega⟩⟩
theorem l_CheckN (h : ¬ GeoOk g) (hK : ∀ w', Keep (fun _ => False) w w' → R (.int .i64 1) w') : CallV Try.prog 80 #[.agg (geoV g)] w R := by
  apply C_layout_Check
  unfold F_layout_Check
  refine alc_fresh fun w1 hb k1 z1 => ?_
  have fin : Ret [] (R (.int .i64 1) w1) := Ret_nil.2 (hK w1 k1)
  refine LdV_has (v := .int .i64 g.d) hb rfl (OpI_int.2 (Cb_of (fun _ => fin) fun h1 => ?_))
  refine LdV_has (v := .int .i64 g.d) hb rfl (OpI_int.2 (Cb_of (fun _ => fin) fun h2 => ?_))
  refine LdV_has (v := .int .i64 g.c) hb rfl (OpI_int.2 (Cb_of (fun _ => fin) fun h3 => ?_))
  refine LdV_has (v := .int .i64 g.c) hb rfl (OpI_int.2 (Cb_of (fun _ => fin) fun h4 => ?_))
  refine LdV_has (v := .int .i64 g.s) hb rfl (OpI_int.2 (Cb_of (fun _ => fin) fun h5 => ?_))
  refine LdV_has (v := .int .i64 g.s) hb rfl (OpI_int.2 (Cb_of (fun _ => fin) fun h6 => ?_))
  exact (not_form h (of_decide_eq_false h1) (of_decide_eq_false h2) (of_decide_eq_false h3) (of_decide_eq_false h4) (of_decide_eq_false h5) (of_decide_eq_false h6)).elim
theorem r3_CheckN (h : ¬ GeoOk g) (hK : ∀ w', Keep (fun _ => False) w w' → R (.int .i64 1) w') : CallV Try.prog 32 #[.agg (geoV g)] w R := by
  apply C_ravelinref03_Check
  unfold F_ravelinref03_Check
  refine alc_fresh fun w1 hb k1 z1 => ?_
  have fin : Ret [] (R (.int .i64 1) w1) := Ret_nil.2 (hK w1 k1)
  refine LdV_has (v := .int .i64 g.d) hb rfl (OpI_int.2 (Cb_of (fun _ => fin) fun h1 => ?_))
  refine LdV_has (v := .int .i64 g.d) hb rfl (OpI_int.2 (Cb_of (fun _ => fin) fun h2 => ?_))
  refine LdV_has (v := .int .i64 g.c) hb rfl (OpI_int.2 (Cb_of (fun _ => fin) fun h3 => ?_))
  refine LdV_has (v := .int .i64 g.c) hb rfl (OpI_int.2 (Cb_of (fun _ => fin) fun h4 => ?_))
  refine LdV_has (v := .int .i64 g.s) hb rfl (OpI_int.2 (Cb_of (fun _ => fin) fun h5 => ?_))
  refine LdV_has (v := .int .i64 g.s) hb rfl (OpI_int.2 (Cb_of (fun _ => fin) fun h6 => ?_))
  exact (not_form h (of_decide_eq_false h1) (of_decide_eq_false h2) (of_decide_eq_false h3) (of_decide_eq_false h4) (of_decide_eq_false h5) (of_decide_eq_false h6)).elim
theorem l_SizeN (h : ¬ GeoOk g) (hK : ∀ w', Keep (fun _ => False) w w' → R (.tuple #[.int .i64 0, .int .i64 1]) w') : CallV Try.prog 59 #[.agg (geoV g)] w R := by
  apply C_layout_Size
  unfold F_layout_Size
  refine alc_fresh fun w1 hb k1 z1 => ?_
  refine LdA_all hb rfl ?_
  refine l_CheckN h fun w2 k2 => OpI_int.2 ((Cb_true (q := _)).2 (Ret_nil.2 (hK w2 (k1.trans k2))))
def geo0 : Geo := ⟨0, 0, 0⟩
theorem zc_set : (zc Try.prog 29) = setV geo0 none 0 0 := by kernel_rfl
theorem bld_set0 (w : World) : (Instr.build 29 #[]).run Try.prog w = .ok (.agg (setV geo0 none 0 0)) w := run_build _ _ _ _ (by kernel_rfl)
theorem st_NewN {m : Nat} (h : ¬ GeoOk g) (hK : ∀ w', Keep (fun _ => False) w w' → R (.tuple #[.agg (setV geo0 none 0 0), .int .i64 1]) w') : CallV Try.prog 31 #[.agg (geoV g), .pointer (some ⟨m, 0, none⟩)] w R := by
  apply C_stripe_New
  unfold F_stripe_New
  refine alc_fresh fun w1 hb1 k1 z1 => ?_
  refine alc_fresh fun w2 hb2 k2 z2 => ?_
  refine LdA_all (k2.has hb1 (by simp)) rfl ?_
  refine l_SizeN h fun w3 k3 => T2_mk.2 (OpI_int.2 (OpI_int.2 ((Cb_true (q := _)).2 ?_)))
  have hb3 := k3.has hb2 (by simp)
  refine DoQ_of (fun _ => bld_set0 _) (OpA_agg.2 ⟨rfl, ?_⟩)
  refine StA_all hb3 rfl (by rw [zc_set]; rfl) (one_setV _ _ _ _) ?_
  refine LdA_all (hb3.upd_same _) rfl (Ret_nil.2 (hK _ ?_))
  exact ((k1.trans k2).trans k3).trans' ((Keep.refl (fun k => k = w1.heap.size) _).upd (fun _ => rfl) _) fun i hi e => by omega
theorem st_NewNil {e : Int} (he : (GeoOk g ∧ e = 2) ∨ (¬ GeoOk g ∧ e = 1)) (hK : ∀ w', Keep (fun _ => False) w w' → R (.tuple #[.agg (setV geo0 none 0 0), .int .i64 e]) w') : CallV Try.prog 31 #[.agg (geoV g), .pointer none] w R := by
  apply C_NewNil
  unfold F_NewNil
  refine alc_fresh fun w1 hb1 k1 z1 => ?_
  refine alc_fresh fun w2 hb2 k2 z2 => ?_
  refine LdA_all (k2.has hb1 (by simp)) rfl ?_
  have fin : ∀ (w3 : World), Keep (fun _ => False) w2 w3 → DoQ Try.prog (Instr.build 29 #[]) (At w3) fun v4 => OpA 4 v4 fun cs3 => StA 4 w1.heap.size 0 cs3 w3 fun w => LdA 4 w1.heap.size 0 (At w) fun cs4 => Ret [] (R (.tuple #[.agg cs4, .int .i64 e]) w) := by
    intro w3 k3
    have hb3 := k3.has hb2 (by simp)
    refine DoQ_of (fun _ => bld_set0 _) (OpA_agg.2 ⟨rfl, ?_⟩)
    refine StA_all hb3 rfl (by rw [zc_set]; rfl) (one_setV _ _ _ _) ?_
    refine LdA_all (hb3.upd_same _) rfl (Ret_nil.2 ?_)
    exact hK _ (((k1.trans k2).trans k3).trans' ((Keep.refl (fun k => k = w1.heap.size) _).upd (fun _ => rfl) _) fun i hi e => by omega)
  rcases he with ⟨h, rfl⟩ | ⟨h, rfl⟩
  · refine l_Size h fun w3 k3 => T2_mk.2 (OpI_int.2 (OpI_int.2 ((Cb_false (p := _)).2 ?_)))
    exact fin w3 k3
  · refine l_SizeN h fun w3 k3 => T2_mk.2 (OpI_int.2 (OpI_int.2 ((Cb_true (q := _)).2 ?_)))
    exact fin w3 k3
end form

/-! ### rows of disks that are not sound -/
def oLay : Lay (Option Nat) := ⟨1, fun o => [.pointer (o.map fun b => ⟨b, 0, none⟩)], fun _ => rfl, fun y v hv => by rw [List.mem_singleton.1 hv]; rfl, by decide⟩
theorem o_rows (xs : List Nat) : oLay.rows (xs.map some) = dLay.rows xs := by
  unfold Lay.rows
  rw [List.flatMap_map]
  rfl
theorem own_o {w : World} {base : Nat} {e : TypeId} {p : Option Addr} {l c : Nat} {xs : List Nat} (h : OwnL dLay w base e p l c xs) : OwnL oLay w base e p l c (xs.map some) := by
  show Own w base e 1 p l c (oLay.rows (xs.map some))
  rw [o_rows]
  exact h
def BadOs (os : List (Option Nat)) : Prop := (∃ j : Nat, os[j]? = some none) ∨ ∃ j' j : Nat, j' < j ∧ j < os.length ∧ os[j']? = os[j]?
theorem equalIn_ptrS {P : Program} (d : Nat) {t e : TypeId} {j : TypeInfo} {a : Nat} {w : World} (hp : P.underlying t = some (.pointer e)) (hte : P.info? e = some j) (hsz : j.size ≠ 0) :
    (Op.equalIn (d + 1) t (.pointer (some ⟨a, 0, none⟩)) (.pointer (some ⟨a, 0, none⟩))).run P w = .ok true w := by
  have hs := run_sameAddr_same (P := P) (w := w) (⟨a, 0, none⟩ : Addr)
  simp [Op.equalIn, run_underlying hp, typeInfo, sizeOf, hte, hsz, hs]
theorem eql_ptrS {a : Nat} {w : World} :
    (binOp .eql 59 (.pointer (some ⟨a, 0, none⟩)) (.pointer (some ⟨a, 0, none⟩))).run Try.prog w = .ok (.bool true) w := by
  have hm : (Try.prog.info? 132).map (·.size) = some 4 := by kernel_rfl
  cases hj : Try.prog.info? 132 with
  | none => rw [hj] at hm; cases hm
  | some j =>
    rw [hj] at hm
    have hz : j.size = 4 := Option.some.inj hm
    have := equalIn_ptrS (P := Try.prog) 9999 (t := 59) (e := 132) (a := a) (w := w) (by kernel_rfl) hj (by rw [hz]; decide)
    simp only [binOp]
    simp [Op.equal, Op.maxDepth, this]
theorem EqB_ptrS {a : Nat} {w : World} {x y : Operand} {K : Bool → Prop} (hK : K true) :
    EqB Try.prog .eql 59 x y (.pointer (some ⟨a, 0, none⟩)) (.pointer (some ⟨a, 0, none⟩)) (At w) K := by
  refine ⟨true, fun w' hw => ?_, hK⟩
  obtain ⟨d, rfl⟩ := hw
  have hg : Try.prog.eqGuardType Try.prog.depth 59 = false := by kernel_rfl
  have := eql_ptrS (a := a) (w := w.dr d)
  simp only [eqGuard, Sem.run_bind, run_program, hg, Bool.not_false, if_true, Result.andThen_ok, this]
  try simp [Sem.run_bind, Sem.run_pure, run_program, hg, this]
section bad
variable {w : World} {q : SB} {s : SS} {R : Value → World → Prop}
theorem st_CheckO (h : SetAt w q s) {p : Option Addr} {l c : Nat} {os : List (Option Nat)} (hsl : SlL oLay w p l os) (hlc : l ≤ c) (hlen : (l : Int) = q.g.d) (hin : ∀ b, some b ∈ os → b ∈ q.bks.map Prod.fst) (hbad : BadOs os) (hK : ∀ w', Keep (fun _ => False) w w' → R (.int .i64 1) w') : CallV Try.prog 33 #[.agg (setV q.g p l c)] w R := by
  apply C_CheckN
  unfold F_CheckN
  have hlo := hsl.1
  have hgd := h.geo.d
  refine alc_fresh fun w1 hb1 k1 z1 => ?_
  refine LdA_has (cs := geoV q.g) hb1 (by show 0 + 3 ≤ 4; decide) rfl ?_
  refine l_Size h.geo fun w2 k2 => ?_
  refine T2_mk.2 (OpI_int.2 (OpI_int.2 ((Cb_false (p := _)).2 ?_)))
  have hb2 := k2.has hb1 (by simp)
  refine LdV_has (v := .slice p l c) hb2 rfl (OpS_slice.2 ?_)
  refine LdV_has (v := .int .i64 q.g.d) hb2 rfl (OpI_int.2 ?_)
  have e1 : (((l : Nat) : Int) != q.g.d) = false := by rw [hlen]; simp
  rw [e1]
  refine (Cb_false (p := _)).2 ?_
  refine LdV_has (v := .slice p l c) hb2 rfl (OpS_slice.2 ?_)
  have k02 := k1.trans k2
  refine LoopC_of (σ := Int × Unit) (fun st w' => ∃ i : Nat, st.1 = (i : Int) ∧ i ≤ l ∧ (∀ j : Nat, j < i → os[j]? ≠ some none) ∧ (∀ j' j : Nat, j' < j → j < i → os[j']? ≠ os[j]?) ∧ Keep (fun _ => False) w2 w') (fun st _ => (l - st.1).toNat) ⟨0, rfl, by omega, fun j hj => by omega, fun j' j _ hj => by omega, Keep.refl _ _⟩ ?_
  rintro _ ⟨i, u⟩ w3 ⟨i', hi, hil, hnn, hnd, k3⟩
  simp only at hi ⊢
  subst hi
  have k03 := k02.trans k3
  have h3 := h.keep0 k03
  have hsl3 := hsl.keepB k03 (by simp)
  have hb3 := k3.has hb2 (by simp)
  refine Cb_of (fun hc => ?_) (fun hc => ?_)
  · have hc : i' < l := by
      have : (i' : Int) < (l : Int) := by simpa using hc
      omega
    obtain ⟨o, ho⟩ : ∃ o, os[i']? = some o := ⟨_, List.getElem?_eq_getElem (by omega)⟩
    refine hsl3.ld0 (i := (i' : Int)) (n := 1) (x := o) (v := .pointer (o.map fun b => ⟨b, 0, none⟩)) rfl (by omega) (by rw [Int.toNat_natCast]; exact ho) rfl ?_
    cases o with
    | none => exact OpP_none.2 (Ret_nil.2 (hK w3 k03))
    | some b =>
      have getB : ∀ b, some b ∈ os → ∃ r D, DiskAt w3 q.m b r D ∧ (D.secs.length : Int) = q.g.c * q.g.s := fun b hb => by
        obtain ⟨n, hn⟩ := List.getElem?_of_mem (hin b hb)
        rw [List.getElem?_map] at hn
        have hlt : n < s.ds.length := by
          rw [← h.len]
          refine Classical.byContradiction fun hx => ?_
          rw [List.getElem?_eq_none (by omega)] at hn
          cases hn
        obtain ⟨b', r, D, hbk, hD, hda, hdl⟩ := h3.get (i := n) hlt
        rw [hbk] at hn
        cases hn
        exact ⟨r, D, hda, hdl⟩
      obtain ⟨r, D, hda, hdl⟩ := getB b (List.mem_of_getElem? ho)
      refine OpP_some.2 ?_
      refine d_Size hda ?_
      refine OpI_int.2 ?_
      have e2 : (((D.secs.length : Nat) : Int) != q.g.c * q.g.s) = false := by rw [hdl]; simp
      rw [e2]
      refine (Cb_false (p := _)).2 ?_
      refine LdV_has (v := .slice p l c) hb3 rfl (OpS_slice.2 ?_)
      refine Slc_hiN (hi := i') (by omega) ?_
      have hsub := hsl3.sub (lo := 0) (hi := i') (m := c) (by omega) (by omega) (by omega)
      rw [List.drop_zero] at hsub
      have e3 : IntKind.wrap .i64 ((i' : Int) + 1) = ((i' + 1 : Nat) : Int) := by
        rw [wrapI (by omega) (by omega)]; omega
      refine LoopC_of (σ := Int × Unit) (fun st w' => ∃ j : Nat, st.1 = (j : Int) ∧ j ≤ i' ∧ (∀ j' : Nat, j' < j → os[j']? ≠ os[i']?) ∧ w' = w3) (fun st _ => (i' - st.1).toNat) ⟨0, rfl, by omega, fun j hj => by omega, rfl⟩ ?_
      rintro _ ⟨j, u⟩ w4 ⟨j', hj, hjl, hne, hw⟩
      simp only at hj ⊢
      subst hj
      rw [hw]
      clear hw
      refine Cb_of (fun hc2 => ?_) (fun hc2 => ?_)
      · have hc2 : j' < i' := by
          have : (j' : Int) < ((i' - 0 : Nat) : Int) := by simpa using hc2
          omega
        obtain ⟨o2, ho2⟩ : ∃ o, os[j']? = some o := ⟨_, List.getElem?_eq_getElem (by omega)⟩
        cases o2 with
        | none => exact absurd ho2 (hnn j' hc2)
        | some b2 =>
          refine hsub.ld0 (i := (j' : Int)) (n := 1) (x := some b2) (v := .pointer (some ⟨b2, 0, none⟩)) rfl (by omega) (by rw [Int.toNat_natCast, List.getElem?_take, if_pos hc2, ho2]) rfl (OpN_some.2 ?_)
          by_cases hbb : b2 = b
          · subst hbb
            exact EqB_ptrS ((Cb_true (q := _)).2 (Ret_nil.2 (hK w3 k03)))
          · obtain ⟨r2, D2, hda2, hdl2⟩ := getB b2 (List.mem_of_getElem? ho2)
            refine EqB_ptrD hbb hda2.cells hda.cells ?_
            refine (Cb_false (p := _)).2 ?_
            have e4 : IntKind.wrap .i64 ((j' : Int) + 1) = ((j' + 1 : Nat) : Int) := by
              rw [wrapI (by omega) (by omega)]; omega
            refine ⟨_, by show ((i' : Int) - IntKind.wrap .i64 ((j' : Int) + 1)).toNat < ((i' : Int) - (j' : Int)).toNat; rw [e4]; omega, ⟨j' + 1, e4, by omega, fun j hj => ?_, rfl⟩, rfl⟩
            by_cases e : j = j'
            · subst e
              rw [ho2, ho]
              intro h
              cases h
              exact hbb rfl
            · exact hne j (by omega)
      · have hc2 : ¬ (j' : Int) < ((i' - 0 : Nat) : Int) := by simpa using hc2
        refine ⟨_, by show ((l : Int) - IntKind.wrap .i64 ((i' : Int) + 1)).toNat < ((l : Int) - (i' : Int)).toNat; rw [e3]; omega, ⟨i' + 1, e3, by omega, fun j hj => ?_, fun j1 j2 h12 hj => ?_, k3⟩, rfl⟩
        · by_cases e : j = i'
          · subst e; rw [ho]; intro h; cases h
          · exact hnn j (by omega)
        · by_cases e : j2 = i'
          · subst e; exact hne j1 (by omega)
          · exact hnd j1 j2 h12 (by omega)
  · exfalso
    have hc : ¬ (i' : Int) < (l : Int) := by simpa using hc
    have : i' = os.length := by omega
    rcases hbad with ⟨j, hj⟩ | ⟨j', j, h1, h2, h3⟩
    · exact hnn j (by rw [this]; exact (List.getElem?_eq_some_iff.1 hj).1) hj
    · exact hnd j' j h1 (by omega) h3
/-- a row of the wrong length -/
theorem st_CheckL {g : Geo} (hg : GeoOk g) {p : Option Addr} {l c : Nat} (hl : ¬ (l : Int) = g.d) (hK : ∀ w', Keep (fun _ => False) w w' → R (.int .i64 1) w') : CallV Try.prog 33 #[.agg (setV g p l c)] w R := by
  apply C_stripe_Check
  unfold F_stripe_Check
  refine alc_fresh fun w1 hb1 k1 z1 => ?_
  refine LdA_has (cs := geoV g) hb1 (by show 0 + 3 ≤ 4; decide) rfl ?_
  refine l_Size hg fun w2 k2 => ?_
  refine T2_mk.2 (OpI_int.2 (OpI_int.2 ((Cb_false (p := _)).2 ?_)))
  have hb2 := k2.has hb1 (by simp)
  refine LdV_has (v := .slice p l c) hb2 rfl (OpS_slice.2 ?_)
  refine LdV_has (v := .int .i64 g.d) hb2 rfl (OpI_int.2 ?_)
  rw [show (((l : Nat) : Int) != g.d) = true by simpa using hl]
  exact (Cb_true (q := _)).2 (Ret_nil.2 (hK w2 (k1.trans k2)))

/-! ### what the calls say at a set that Check refuses -/
def Refs (w : World) (cs : Array Value) : Prop := ∀ (w' : World) (R : Value → World → Prop), Keep (fun _ => False) w w' → (∀ w'', Keep (fun _ => False) w' w'' → R (.int .i64 1) w'') → CallV Try.prog 33 #[.agg cs] w' R
theorem Refs.keep0 {w w' : World} {cs : Array Value} (h : Refs w cs) (k : Keep (fun _ => False) w w') : Refs w' cs := fun w1 R k1 hK => h w1 R (k.trans k1) hK
variable {g : Geo} {p : Option Addr} {l c : Nat}
theorem zc_secN : (zc Try.prog 23) = secV (sec []) := by kernel_rfl
theorem rf_Read (h : Refs w (setV g p l c)) {lba : Int} (hK : ∀ w', Keep (fun _ => False) w w' → R (.tuple #[.agg (secV (sec [])), .int .i64 1]) w') : CallV Try.prog 25 #[.agg (setV g p l c), .int .i64 lba] w R := by
  apply C_stripe_Read
  unfold F_stripe_Read
  refine alc_fresh fun w1 hb1 k1 z1 => ?_
  refine alc_fresh fun w2 hb2 k2 z2 => ?_
  refine LdA_all (k2.has hb1 (by simp)) rfl ?_
  refine h _ _ (k1.trans k2) fun w3 k3 => OpI_int.2 ((Cb_true (q := _)).2 ?_)
  have hb3 := k3.has hb2 (by simp)
  refine DoQ_of (fun _ => bld_sec0 _) (OpA_agg.2 ⟨rfl, ?_⟩)
  refine StA_all hb3 rfl (by rw [zc_secN]; rfl) (one_secV _) ?_
  refine LdA_all (hb3.upd_same _) rfl (Ret_nil.2 (hK _ ?_))
  exact ((k1.trans k2).trans k3).trans' ((Keep.refl (fun k => k = w1.heap.size) _).upd (fun _ => rfl) _) fun i hi e => by omega
theorem rf_Row (h : Refs w (setV g p l c)) {st off : Int} (hK : ∀ w', Keep (fun _ => False) w w' → R (.tuple #[.slice none 0 0, .slice none 0 0, .int .i64 1]) w') : CallV Try.prog 23 #[.agg (setV g p l c), .int .i64 st, .int .i64 off] w R := by
  apply C_stripe_Row
  unfold F_stripe_Row
  refine alc_fresh fun w1 hb1 k1 z1 => ?_
  refine LdA_all hb1 rfl ?_
  exact h _ _ k1 fun w3 k3 => OpI_int.2 ((Cb_true (q := _)).2 (Ret_nil.2 (hK _ (k1.trans k3))))
theorem rf_Plan (h : Refs w (setV g p l c)) {lba : Int} {data : Array Value} (hK : ∀ w', Keep (fun _ => False) w w' → R (.tuple #[.slice none 0 0, .int .i64 1]) w') : CallV Try.prog 17 #[.agg (setV g p l c), .int .i64 lba, .agg data] w R := by
  apply C_stripe_Plan
  unfold F_stripe_Plan
  refine alc_fresh fun w1 hb1 k1 z1 => ?_
  refine alc_fresh fun w2 hb2 k2 z2 => ?_
  refine LdA_all (k2.has hb1 (by simp)) rfl ?_
  exact h _ _ (k1.trans k2) fun w3 k3 => OpI_int.2 ((Cb_true (q := _)).2 (Ret_nil.2 (hK _ ((k1.trans k2).trans k3))))
theorem rf_Apply (h : Refs w (setV g p l c)) {pp : Option Addr} {pl pc : Nat} {e : Int} (hK : ∀ w', Keep (fun _ => False) w w' → R (.int .i64 1) w') : CallV Try.prog 18 #[.agg (setV g p l c), .slice pp pl pc, .int .u32 e] w R := by
  apply C_stripe_Apply
  unfold F_stripe_Apply
  refine alc_fresh fun w1 hb1 k1 z1 => ?_
  refine LdA_all hb1 rfl ?_
  exact h _ _ k1 fun w3 k3 => OpI_int.2 ((Cb_true (q := _)).2 (Ret_nil.2 (hK _ (k1.trans k3))))
theorem rf_Fence (h : Refs w (setV g p l c)) {e : Int} (hK : ∀ w', Keep (fun _ => False) w w' → R (.int .i64 1) w') : CallV Try.prog 28 #[.agg (setV g p l c), .int .u32 e] w R := by
  apply C_stripe_Fence
  unfold F_stripe_Fence
  refine alc_fresh fun w1 hb1 k1 z1 => ?_
  refine LdA_all hb1 rfl ?_
  exact h _ _ k1 fun w3 k3 => OpI_int.2 ((Cb_true (q := _)).2 (Ret_nil.2 (hK _ (k1.trans k3))))
theorem rf_Key (h : Refs w (setV g p l c)) (hK : ∀ w', Keep (fun _ => False) w w' → R (.int .u32 0) w') : CallV Try.prog 29 #[.agg (setV g p l c)] w R := by
  apply C_stripe_Key
  unfold F_stripe_Key
  refine alc_fresh fun w1 hb1 k1 z1 => ?_
  refine LdA_all hb1 rfl ?_
  exact h _ _ k1 fun w3 k3 => OpI_int.2 ((Cb_true (q := _)).2 (Ret_nil.2 (hK _ (k1.trans k3))))
end bad
end Go.Proofs
