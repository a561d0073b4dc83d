import Derived.Test.YthhimblbnnafkaaGreatRowM

/-
  A SET: Plan, the plain part.
-/
namespace Go.Proofs
open Go Go.Ev
set_option linter.unusedSimpArgs false
set_option linter.unusedVariables false
set_option maxRecDepth 100000

/-- a row with a column written, P and Q anew -/
def rowW (row : List Sec) (col : Nat) (data : Sec) : List Sec :=
  let D := ((row.set col data).take (row.length - 2)).map some
  (row.set col data).take (row.length - 2) ++ [sumP D, sumQ D]
def planK (g : Geo) (s : SS) (st off : Int) (row : List Sec) (k : Int) : Option PutS :=
  if (s.ds.getD (plcP g st off k).dk.toNat dsk0).dead = true then none
  else some ⟨plcP g st off k, ⟨row.getD k.toNat (sec []), sumS (plcP g st off k).at_ (row.getD k.toNat (sec []))⟩⟩
def planL (g : Geo) (s : SS) (st off : Int) (row : List Sec) (ks : List Int) : List PutS := ks.filterMap (planK g s st off row)
/-- what Plan answers -/
def planS (g : Geo) (s : SS) (lba : Int) (data : Sec) : List PutS × Int :=
  let x := spotP g lba
  let Cs := colsS g s x.1 x.2.2
  if s.pw.on = false then ([], 4)
  else if lostN Cs ≤ 2 then (planL g s x.1 x.2.2 (rowW (rowR Cs) x.2.1.toNat data) [x.2.1, g.d - 2, g.d - 1], 0) else ([], 8)
theorem set_two {α : Type} {r : List α} {n : Nat} (h : r.length = n) (h2 : 2 ≤ n) (a b : α) : (r.set (n - 2) a).set (n - 1) b = r.take (n - 2) ++ [a, b] := by
  apply List.ext_getElem?
  intro i
  by_cases h1 : i < n - 2
  · rw [List.getElem?_set_ne (by omega), List.getElem?_set_ne (by omega), List.getElem?_append_left (by simp; omega), List.getElem?_take, if_pos h1]
  · rw [List.getElem?_append_right (by simp; omega), List.length_take, Nat.min_eq_left (by omega)]
    by_cases h3 : i = n - 2
    · subst h3
      rw [List.getElem?_set_ne (by omega), List.getElem?_set_self (by omega), Nat.sub_self]; rfl
    · by_cases h4 : i = n - 1
      · subst h4
        rw [List.getElem?_set_self (by simp; omega), show n - 1 - (n - 2) = 1 by omega]; rfl
      · rw [List.getElem?_eq_none (by simp; omega), List.getElem?_eq_none (by simp; omega)]
theorem len_rowW {row : List Sec} {col : Nat} {data : Sec} (h : 2 ≤ row.length) : (rowW row col data).length = row.length := by
  unfold rowW; simp; omega
theorem rec_ok {Cs : List (Option Sec)} {Pc Qc : Option Sec} (h : ∀ C ∈ Cs, ColOk C) (hp : ColOk Pc) (hq : ColOk Qc) : SecOk (recP Cs Pc Qc) ∧ SecOk (recQ Cs Pc Qc) := by
  have hf := fixC_ok (Pc := Pc) (Qc := Qc) h hp hq
  constructor
  · unfold recP
    cases Pc with
    | none => exact sumI_ok (fun _ => by omega) hf _
    | some f => exact hp
  · unfold recQ
    cases Qc with
    | none => exact sumI_ok expN_lt hf _
    | some f => exact hq
theorem rowPc_ok {Cs : List (Option Sec)} (h : ∀ C ∈ Cs, ColOk C) (i : Nat) : ColOk (Cs.getD i none) := by
  rw [List.getD_eq_getElem?_getD]
  cases hx : Cs[i]? with
  | none => trivial
  | some x => exact h x (List.mem_of_getElem? hx)
theorem rowR_ok {Cs : List (Option Sec)} (h : ∀ C ∈ Cs, ColOk C) : ∀ f ∈ rowR Cs, SecOk f := by
  intro f hf
  unfold rowR at hf
  have hD : ∀ C ∈ rowD Cs, ColOk C := fun C hC => h C (List.mem_of_mem_take hC)
  have hr := rec_ok (Pc := rowPc Cs) (Qc := rowQc Cs) hD (rowPc_ok h _) (rowPc_ok h _)
  have hfx := fixC_ok (Pc := rowPc Cs) (Qc := rowQc Cs) hD (rowPc_ok h _) (rowPc_ok h _)
  rcases List.mem_append.1 hf with hf | hf
  · obtain ⟨C, hC, rfl⟩ := List.mem_map.1 hf
    have := hfx C hC
    cases C with
    | none => exact sec0_ok
    | some f => exact this
  · simp only [List.mem_cons, List.not_mem_nil, or_false] at hf
    rcases hf with rfl | rfl
    · exact hr.1
    · exact hr.2
theorem map_some_ok {D : List Sec} (h : ∀ f ∈ D, SecOk f) : ∀ C ∈ D.map some, ColOk C := by
  intro C hC
  obtain ⟨f, hf, rfl⟩ := List.mem_map.1 hC
  exact h f hf
theorem rowW_ok {row : List Sec} {col : Nat} {data : Sec} (h : ∀ f ∈ row, SecOk f) (hd : SecOk data) : ∀ f ∈ rowW row col data, SecOk f := by
  intro f hf
  have hr : ∀ f ∈ row.set col data, SecOk f := fun f hf => by
    rcases mem_set hf with rfl | hf
    · exact hd
    · exact h f hf
  have ht : ∀ C ∈ ((row.set col data).take (row.length - 2)).map some, ColOk C := map_some_ok fun f hf => hr f (List.mem_of_mem_take hf)
  unfold rowW at hf
  rcases List.mem_append.1 hf with hf | hf
  · exact hr f (List.mem_of_mem_take hf)
  · simp only [List.mem_cons, List.not_mem_nil, or_false] at hf
    rcases hf with rfl | rfl
    · exact sumI_ok (fun _ => by omega) ht _
    · exact sumI_ok expN_lt ht _
theorem lost_some (D : List Sec) : lostN (D.map some) = 0 := by
  unfold lostN
  induction D with
  | nil => rfl
  | cons x D ih => simp

/-! ### memory -/
theorem SlL.ldAS {α : Type} {L : Lay α} {S : World → Prop} {w0 : World} {p : Option Addr} {l : Nat} {xs : List α} (h0 : S w0) (h : ∀ w', S w' → SlL L w' p l xs) {i : Int} {x : α} {n : Nat} (hn : L.size = n) (hi0 : 0 ≤ i) (hi : xs[i.toNat]? = some x)
    {K : Array Value → Prop} (hK : K (L.row x).toArray) : IdxS p l i n fun b o => LdA n b o S K := by
  subst hn
  obtain ⟨b, o, hp, _⟩ := (h w0 h0).2 _ x hi
  have hlt := (List.getElem?_eq_some_iff.1 hi).1
  have hl := (h w0 h0).1
  refine ⟨b, o, hp, hi0, by omega, (L.row x).toArray, by simp [L.len], ?_, hK⟩
  intro w' hw j hj
  obtain ⟨b', o', hp', hc⟩ := (h w' hw).2 _ x hi
  rw [hp] at hp'
  cases hp'
  rw [hc j hj]
  simp
theorem puLayT : LayT Tryz.prog puLay 75 88 40 := ⟨by kernel_rfl, ⟨(Tryz.prog.info? 88).get (by kernel_rfl), ((Tryz.prog.info? 88).get (by kernel_rfl)).zero.get (by kernel_rfl), by kernel_rfl, by kernel_rfl, by kernel_rfl, by kernel_rfl, by kernel_rfl⟩⟩
theorem bsl_pu1 (x : PutS) (w : World) : (Instr.buildSlice 75 1 #[(0, .agg (putSV x))]).run Tryz.prog w = .ok (.slice (some ⟨w.heap.size, 0, none⟩) 1 1) (w.alloc (.cells (putSV x) 88)) :=
  run_buildSlice w 75 88 1 _ (putSV x) ((Tryz.prog.info? 88).get (by kernel_rfl)) (((Tryz.prog.info? 88).get (by kernel_rfl)).zero.get (by kernel_rfl)) (by kernel_rfl) (by kernel_rfl) (by kernel_rfl) (by decide +kernel) (by decide +kernel) (by kernel_rfl)
theorem bld_put (x : PutS) (w : World) : (Instr.build 88 #[(0, .agg (plcV x.plc)), (1, .agg (celV x.cel))]).run Tryz.prog w = .ok (.agg (putSV x)) w := run_build _ _ _ _ (by kernel_rfl)
theorem bsl_n3 (x y z : Int) (w : World) : (Instr.buildSlice 69 3 #[(0, .int .i64 x), (1, .int .i64 y), (2, .int .i64 z)]).run Tryz.prog w = .ok (.slice (some ⟨w.heap.size, 0, none⟩) 3 3) (w.alloc (.cells #[.int .i64 x, .int .i64 y, .int .i64 z] 3)) :=
  run_buildSlice w 69 3 3 _ #[.int .i64 x, .int .i64 y, .int .i64 z] ((Tryz.prog.info? 3).get (by kernel_rfl)) (((Tryz.prog.info? 3).get (by kernel_rfl)).zero.get (by kernel_rfl)) (by kernel_rfl) (by kernel_rfl) (by kernel_rfl) (by decide +kernel) (by decide +kernel) (by kernel_rfl)
theorem slc16 (a : Addr) : slcP 1 0 16 (some a) = some a := by
  unfold slcP
  simp [Addr.add]
/-- a sector in a row of sectors, as a column -/
theorem sec_col {w : World} {b l : Nat} {rows : List Sec} (h : SlL secLay w (some ⟨b, 0, none⟩) l rows) {k : Nat} {f : Sec} (hk : rows[k]? = some f) : ColAt w (some ⟨b, 0 + k * 16, none⟩, 16, 16) (some f) := by
  refine ⟨⟨b, 0 + k * 16, rfl⟩, rfl, Nat.le_refl _, rfl, fun i x hi => ⟨b, 0 + k * 16, rfl, fun j hj => ?_⟩⟩
  have hj : j = 0 := by have : j < 1 := hj; omega
  subst hj
  obtain ⟨b', o', e, hc⟩ := h.2 k f hk
  cases e
  have hi16 : i < 16 := (List.getElem?_eq_some_iff.1 hi).1
  have := hc i hi16
  have e1 : 0 + k * 16 + i * byLay.size + 0 = 0 + k * secLay.size + i := by show 0 + k * 16 + i * 1 + 0 = 0 + k * 16 + i; omega
  rw [e1, this]
  have e : (secLay.row f) = (secB f).map fun y => Value.int .u8 y := rfl
  rw [e, List.getElem?_map, hi]; rfl
def hdrs (b n : Nat) : List (Option Addr × Nat × Nat) := (List.range n).map fun k => (some ⟨b, 0 + k * 16, none⟩, 16, 16)
theorem hdrs_succ (b n : Nat) : hdrs b (n + 1) = hdrs b n ++ [(some ⟨b, 0 + n * 16, none⟩, 16, 16)] := by unfold hdrs; rw [List.range_succ, List.map_append]; rfl
theorem len_hdrs (b n : Nat) : (hdrs b n).length = n := by simp [hdrs]
end Go.Proofs

/-
  A SET: Plan, the walk.
-/
namespace Go.Proofs
open Go Go.Ev
set_option linter.unusedSimpArgs false
set_option linter.unusedVariables false
set_option maxRecDepth 100000

/-- the end of Plan: the cells of a row that are to be written -/
def PlanEnd (b b2 : Nat) (p : Option Addr) (l : Nat) (p6 : Option Addr) (l7 : Nat) (p7 : Option Addr) (l8 : Nat) (w : World) (R : Value → World → Prop) : Prop :=
  LoopC (σ := (Option Addr × Nat × Nat) × Int × Unit) (fun _ s2 w K2 => Cb (decide (s2.2.1 < ((l8 : Nat) : Int))) (IdxS p7 l8 s2.2.1 1 fun b10 o6 => LdV b10 o6 (At w)
  fun v25 => OpI .i64 v25 fun n11 => IdxS p6 l7 n11 2 fun b11 o7 => LdA 2 b11 o7 (At w) fun cs9 => Alc 84 (zc Tryz.prog 84) w fun b12 w => StA 2 b12 0 cs9 w fun w => LdV b 3
  (At w) fun v26 => OpS v26 fun p8 l9 c8 => LdV b12 0 (At w) fun v27 => OpI .i64 v27 fun n12 => IdxS p8 l9 n12 1 fun b13 o8 => LdV b13 o8 (At w) fun v28 => OpN v28 fun b14
  o9 => CallV Tryz.prog 87 #[.pointer (some ⟨b14, o9, none⟩)] w fun v29 w => OpB v29 fun g => Cb g (HeldR w fun S w => LdA 2 b12 0 S fun cs10 => LdV b12 1 S fun v30 => OpI
  .i64 v30 fun n13 => IdxS p l n11 16 fun b15 o10 => LdA 16 b15 o10 S fun cs11 => CallV Tryz.prog 116 #[.int .i64 n13, .agg cs11] w fun v31 w => OpA 17 v31 fun cs12 => Hld (S
  w) (DoQ Tryz.prog (Instr.build 88 #[(0, .agg cs10), (1, .agg cs12)]) S fun v32 => OpA 19 v32 fun cs13 => DoV Tryz.prog (Instr.buildSlice 75 1 #[(0, .agg cs13)]) w fun v33 w
  => OpS v33 fun p9 l10 c9 => Hld (S w) (DoV Tryz.prog (Builtin.append_ #[75, 75] 75 #[.slice s2.1.1 s2.1.2.1 s2.1.2.2, .slice p9 l10 c9]) w fun v34 w => OpS v34 fun p10 l11
  c10 => Hld (S w) (K2 ((p10, l11, c10), (IntKind.wrap .i64 (s2.2.1 + 1), ())) w)))) (K2 ((s2.1.1, s2.1.2.1, s2.1.2.2), (IntKind.wrap .i64 (s2.2.1 + 1), ())) w)) (Ret [] (R
  (.tuple #[.slice s2.1.1 s2.1.2.1 s2.1.2.2, .int .i64 0]) w))) ((none, 0, 0), (0, ())) w
section calls
variable {w : World} {q : SB} {s : SS} {R : Value → World → Prop}
theorem planEnd (h : SetAt w q s) {b b2 : Nat} {dp : Option Addr} {dl dc : Nat} (hsl : SlL dLay w dp dl (q.bks.map Prod.fst)) {p p6 : Option Addr} {cp cp6 : Nat} {base : Nat} {row : List Sec} {bk : Nat} {ks : List Int} {st off : Int} (hst : 0 ≤ st ∧ st < q.g.s) (hof : 0 ≤ off ∧ off < q.g.c) {n : Nat} (hn : q.g.d.toNat = n)
    (hb : Has w b (.cells (setV q.g dp dl dc) 51 (0, 0))) (o1 : OwnL secLay w base 37 p n cp row) (o2 : OwnL plLay w base 84 p6 n cp6 (rowP q.g st off n)) (o3 : OwnL nLay w base 3 (some ⟨bk, 0, none⟩) ks.length ks.length ks) (hks : ∀ k ∈ ks, 0 ≤ k ∧ k < (n : Int)) (hkl : ks.length ≤ 100)
    (hK : ∀ p' c' w', OwnL puLay w' w.heap.size 88 p' (planL q.g s st off row ks).length c' (planL q.g s st off row ks) → Keep (fun _ => False) w w' → R (.tuple #[.slice p' (planL q.g s st off row ks).length c', .int .i64 0]) w') : PlanEnd b b2 p n p6 n (some ⟨bk, 0, none⟩) ks.length w R := by
  unfold PlanEnd
  have hgd := h.geo.d
  have hrl := o1.length
  have s1 := o1.sl
  have s2 := o2.sl
  have s3 := o3.sl
  refine LoopC_of (σ := (Option Addr × Nat × Nat) × Int × Unit) (fun st' w' => ∃ j : Nat, st'.2.1 = (j : Int) ∧ j ≤ ks.length ∧ OwnL puLay w' w.heap.size 88 st'.1.1 st'.1.2.1 st'.1.2.2 (planL q.g s st off row (ks.take j)) ∧ Keep (fun _ => False) w w') (fun st' _ => (ks.length - st'.2.1).toNat)
    ⟨0, rfl, by omega, OwnL.nil, Keep.refl _ _⟩ ?_
  rintro _ ⟨⟨pa, la, ca⟩, i, u⟩ w1 ⟨j, hi, hj, oa, k1⟩
  simp only at hi oa ⊢
  subst hi
  refine Cb_of (fun hc => ?_) (fun hc => ?_)
  · have hc : j < ks.length := by
      have : (j : Int) < (ks.length : Int) := by simpa using hc
      omega
    have ek : IntKind.wrap .i64 ((j : Int) + 1) = ((j + 1 : Nat) : Int) := by rw [wrapI (by omega) (by omega)]; omega
    obtain ⟨k, hk⟩ : ∃ k, ks[j]? = some k := ⟨_, List.getElem?_eq_getElem hc⟩
    have hkr := hks k (List.mem_of_getElem? hk)
    have hpk : planL q.g s st off row (ks.take (j + 1)) = planL q.g s st off row (ks.take j) ++ (planK q.g s st off row k).toList := by
      unfold planL
      rw [List.take_add_one, hk, List.filterMap_append]
      congr 1
    refine (s3.keepB k1 (by simp)).ld0 (i := (j : Int)) (n := 1) (x := k) (v := .int .i64 k) rfl (by omega) (by rw [Int.toNat_natCast]; exact hk) rfl (OpI_int.2 ?_)
    have hpl : (rowP q.g st off n)[k.toNat]? = some (plcP q.g st off k) := by
      unfold rowP
      rw [List.getElem?_map, List.getElem?_range (by omega)]
      show some (plcP q.g st off ((k.toNat : Nat) : Int)) = _
      rw [show ((k.toNat : Nat) : Int) = k by omega]
    refine (s2.keepB k1 (by simp)).ldA (i := k) (n := 2) (x := plcP q.g st off k) rfl hkr.1 hpl ?_
    refine copy_of (by rw [zc_plc]; rfl) rfl (fun v hv => plLay.one _ v (by simpa using hv)) fun w2 hb2 k2 z2 => ?_
    have hb2 : Has w2 w1.heap.size (.cells (plcV (plcP q.g st off k)) 84 (0, 0)) := hb2
    have k02 := k1.trans k2
    refine LdV_has (v := .slice dp dl dc) (k02.has hb (by simp)) rfl (OpS_slice.2 ?_)
    refine LdV_has (v := .int .i64 (plcP q.g st off k).dk) hb2 rfl (OpI_int.2 ?_)
    obtain ⟨pk1, pk2⟩ := plcP_ok h.geo hst hof k
    have h2 := h.keep0 k02
    obtain ⟨bd, r, D, hbk, hD, hda, hdl⟩ := h2.get (i := (plcP q.g st off k).dk.toNat) (by have := h2.num; omega)
    have hDg : s.ds.getD (plcP q.g st off k).dk.toNat dsk0 = D := by rw [List.getD_eq_getElem?_getD, hD]; rfl
    refine (hsl.keepB k02 (by simp)).ld0 (i := (plcP q.g st off k).dk) (n := 1) (x := bd) (v := .pointer (some ⟨bd, 0, none⟩)) rfl pk1.1 (by rw [List.getElem?_map, hbk]; rfl) rfl (OpN_some.2 ?_)
    refine d_Alive hda (OpB_bool.2 ?_)
    have hpK : planK q.g s st off row k = if D.dead = true then none else some ⟨plcP q.g st off k, ⟨row.getD k.toNat (sec []), sumS (plcP q.g st off k).at_ (row.getD k.toNat (sec []))⟩⟩ := by unfold planK; rw [hDg]
    refine Cb_of (fun hal => ?_) (fun hal => ?_)
    · have hal : D.dead = false := by simpa using hal
      rw [if_neg (by simp [hal])] at hpK
      obtain ⟨f, hf⟩ : ∃ f, row[k.toNat]? = some f := ⟨_, List.getElem?_eq_getElem (by omega)⟩
      have hfd : row.getD k.toNat (sec []) = f := by rw [List.getD_eq_getElem?_getD, hf]; rfl
      rw [hfd] at hpK
      generalize hpc : plcP q.g st off k = pc at *
      intro d
      have kd := Keep.drew (fun _ => False) w2 d
      have k0d := k02.trans kd
      have hb2d := hb2.dr d
      have oad := (oa.keep k2 (by simp)).keep kd (by simp)
      generalize w2.dr d = w3 at *
      refine ⟨fun w' => Has w' w1.heap.size (.cells (plcV pc) 84 (0, 0)) ∧ SlL secLay w' p n row, ⟨hb2d, s1.keepB k0d (by simp)⟩, ?_⟩
      refine LdA_of (cs := plcV pc) rfl (fun w' hw => ⟨_, _, _, hw.1, Nat.le_refl 2, rfl⟩) ?_
      refine LdV_of (v := .int .i64 pc.at_) (fun w' hw => ⟨_, _, _, hw.1, rfl⟩) (OpI_int.2 ?_)
      refine SlL.ldAS (S := fun w' => Has w' w1.heap.size (.cells (plcV pc) 84 (0, 0)) ∧ SlL secLay w' p n row) (w0 := w3) ⟨hb2d, s1.keepB k0d (by simp)⟩ (fun w' hw => hw.2) (i := k) (x := f) (n := 16) rfl hkr.1 hf ?_
      have e16 : (secLay.row f).toArray = secV f := by show ((secV f).toList).toArray = secV f; simp
      rw [e16]
      refine s_Seal fun w4 k4 => OpA_agg.2 ⟨rfl, ?_⟩
      have hS : ∀ {w' : World}, Keep (fun _ => False) w3 w' → Has w' w1.heap.size (.cells (plcV pc) 84 (0, 0)) ∧ SlL secLay w' p n row := fun k' => ⟨k'.has hb2d (by simp), s1.keepB (k0d.trans k') (by simp)⟩
      refine ⟨hS k4, ?_⟩
      refine ⟨.agg (putSV ⟨pc, ⟨f, sumS pc.at_ f⟩⟩), fun w' _ => bld_put ⟨pc, ⟨f, sumS pc.at_ f⟩⟩ w', OpA_agg.2 ⟨rfl, ?_⟩⟩
      refine ⟨_, _, bsl_pu1 _ w4, OpS_slice.2 ?_⟩
      have k5 := Keep.new (fun _ => False) w4 (.cells (putSV ⟨pc, ⟨f, sumS pc.at_ f⟩⟩) 88)
      have hb5 := Has.new w4 (.cells (putSV ⟨pc, ⟨f, sumS pc.at_ f⟩⟩) 88)
      generalize w4.alloc (.cells (putSV ⟨pc, ⟨f, sumS pc.at_ f⟩⟩) 88) = w5 at *
      refine ⟨hS (k4.trans k5), ?_⟩
      have oa5 := (oad.keep k4 (by simp)).keep k5 (by simp)
      have hla := oa5.length
      have hlb : (planL q.g s st off row (ks.take j)).length ≤ 100 := by
        refine Nat.le_trans (List.length_filterMap_le _ _) ?_
        rw [List.length_take]; omega
      have k05 := (k0d.trans k4).trans k5
      have z5 := k05.size
      obtain ⟨p6', c6, w6, hr6, o6, k6, _⟩ := run_appendF1 puLayT oa5 (y := ⟨pc, ⟨f, sumS pc.at_ f⟩⟩) hb5 rfl (ty := 75) (by omega) (by simp only [maxLen]; omega) (by omega) (c2 := 1)
      refine ⟨_, _, hr6, OpS_slice.2 ?_⟩
      have k06 : Keep (fun _ => False) w w6 := k05.trans' k6 fun i hi e => by have := (oa5.lt e).1; omega
      have hb6 : Has w6 w1.heap.size (.cells (plcV pc) 84 (0, 0)) := k6.has ((k4.trans k5).has hb2d (by simp)) (OwnL.neH oa5 ((k4.trans k5).has hb2d (by simp)) (by decide))
      refine ⟨⟨hb6, s1.keepB k06 (by simp)⟩, ?_⟩
      refine ⟨_, by show ((ks.length : Int) - IntKind.wrap .i64 ((j : Int) + 1)).toNat < ((ks.length : Int) - (j : Int)).toNat; rw [ek]; omega, ⟨j + 1, ek, by omega, ?_, k06⟩, rfl⟩
      rw [hpk, hpK]
      exact o6
    · have hal : D.dead = true := by simpa using hal
      rw [if_pos hal] at hpK
      refine ⟨_, by show ((ks.length : Int) - IntKind.wrap .i64 ((j : Int) + 1)).toNat < ((ks.length : Int) - (j : Int)).toNat; rw [ek]; omega, ⟨j + 1, ek, by omega, ?_, k02⟩, rfl⟩
      rw [hpk, hpK]
      show OwnL puLay w2 w.heap.size 88 pa la ca (planL q.g s st off row (ks.take j) ++ [])
      rw [List.append_nil]
      exact oa.keep k2 (by simp)
  · have hc : j = ks.length := by
      have : ¬ (j : Int) < (ks.length : Int) := by simpa using hc
      omega
    subst hc
    rw [List.take_length] at oa
    have hla := oa.length
    subst hla
    exact Ret_nil.2 (hK pa ca w1 oa k1)
end calls
end Go.Proofs

/-
  A SET: Plan, the whole.
-/
namespace Go.Proofs
open Go Go.Ev
set_option linter.unusedSimpArgs false
set_option linter.unusedVariables false
set_option maxRecDepth 100000

/-- the middle of Plan: P and Q anew -/
def PlanMid (b b2 : Nat) (p : Option Addr) (l c : Nat) (w : World) (R : Value → World → Prop) : Prop :=
  LoopC (σ := (Option Addr × Nat × Nat) × Int × Unit) (fun _ s1 w K1 => Cb (decide (s1.2.1 < IntKind.wrap .i64 (((l : Nat) :
  Int) - 2))) (IdxS p l s1.2.1 16 fun b5 o1 => Slc 16 16 none none none fun l2 h m => DoV Tryz.prog (Instr.buildSlice 187 1 #[(0, .slice (slcP 1 l2 m (some ⟨b5, o1, none⟩))
  (h - l2) (m - l2))]) w fun v12 w => OpS v12 fun p2 l3 c2 => DoV Tryz.prog (Builtin.append_ #[187, 187] 187 #[.slice s1.1.1 s1.1.2.1 s1.1.2.2, .slice p2 l3 c2]) w fun v13 w
  => OpS v13 fun p3 l4 c3 => K1 ((p3, l4, c3), (IntKind.wrap .i64 (s1.2.1 + 1), ())) w) (CallV Tryz.prog 115 #[.slice s1.1.1 s1.1.2.1 s1.1.2.2] w fun v14 w => T3 v14 fun v15
  v16 v17 => OpS v15 fun p4 l5 c4 => OpS v16 fun p5 l6 c5 => OpI .i64 v17 fun n6 => HeldR w fun S w => SlArr p4 l5 16 fun b6 o2 => LdA 16 b6 o2 (At w) fun cs6 => SlArr p5 l6
  16 fun b7 o3 => LdA 16 b7 o3 (At w) fun cs7 => IdxS p l (IntKind.wrap .i64 (((l : Nat) : Int) - 2)) 16 fun b8 o4 => StA 16 b8 o4 cs6 w fun w => Hld (S w) (IdxS p l
  (IntKind.wrap .i64 ((IntKind.wrap .i64 (((l : Nat) : Int) - 2)) + 1)) 16 fun b9 o5 => StA 16 b9 o5 cs7 w fun w => Hld (S w) (LdA 3 b 0 (At w) fun cs8 => LdV b2 0 (At w)
  fun v18 => OpI .i64 v18 fun n7 => LdV b2 2 (At w) fun v19 => OpI .i64 v19 fun n8 => CallV Tryz.prog 109 #[.agg cs8, .int .i64 n7, .int .i64 n8] w fun v20 w => T2 v20 fun v21
  v22 => OpS v21 fun p6 l7 c6 => OpI .i64 v22 fun n9 => LdV b2 1 (At w) fun v23 => OpI .i64 v23 fun n10 => DoV Tryz.prog (Instr.buildSlice 69 3 #[(0, .int .i64 n10), (1, .int
  .i64 (IntKind.wrap .i64 (((l : Nat) : Int) - 2))), (2, .int .i64 (IntKind.wrap .i64 ((IntKind.wrap .i64 (((l : Nat) : Int) - 2)) + 1)))]) w fun v24 w => OpS v24 fun p7 l8
  c7 => PlanEnd b b2 p l p6 l7 p7 l8 w R)))) ((none, 0, 0), (0, ())) w
section calls
variable {w : World} {q : SB} {s : SS} {R : Value → World → Prop}
theorem planMid (h : SetAt w q s) {b b2 : Nat} {dp : Option Addr} {dl dc : Nat} (hsl : SlL dLay w dp dl (q.bks.map Prod.fst)) {p : Option Addr} {base n c : Nat} {row : List Sec} {x : Int × Int × Int} (hst : 0 ≤ x.1 ∧ x.1 < q.g.s) (hof : 0 ≤ x.2.2 ∧ x.2.2 < q.g.c) (hco : 0 ≤ x.2.1 ∧ x.2.1 < q.g.d - 2) (hn : q.g.d.toNat = n)
    (hb : Has w b (.cells (setV q.g dp dl dc) 51 (0, 0))) (hb2 : Has w b2 (.cells (spotV x) 177 (0, 0))) (o1 : OwnL secLay w base 37 p n c row) (hrok : ∀ f ∈ row, SecOk f) (hbase : base ≤ w.heap.size) (hsl' : ∀ w', Keep (fun k => p = some ⟨k, 0, none⟩) w w' → SlL dLay w' dp dl (q.bks.map Prod.fst))
    (hK : ∀ p' c' w', OwnL puLay w' base 88 p' (planL q.g s x.1 x.2.2 (row.take (n - 2) ++ [sumP ((row.take (n - 2)).map some), sumQ ((row.take (n - 2)).map some)]) [x.2.1, q.g.d - 2, q.g.d - 1]).length c' (planL q.g s x.1 x.2.2 (row.take (n - 2) ++ [sumP ((row.take (n - 2)).map some), sumQ ((row.take (n - 2)).map some)]) [x.2.1, q.g.d - 2, q.g.d - 1]) → Keep (fun k => p = some ⟨k, 0, none⟩) w w' → R (.tuple #[.slice p' (planL q.g s x.1 x.2.2 (row.take (n - 2) ++ [sumP ((row.take (n - 2)).map some), sumQ ((row.take (n - 2)).map some)]) [x.2.1, q.g.d - 2, q.g.d - 1]).length c', .int .i64 0]) w') : PlanMid b b2 p n c w R := by
  unfold PlanMid
  have hgd := h.geo.d
  have hrl := o1.length
  have e2 : IntKind.wrap .i64 (((n : Nat) : Int) - 2) = ((n - 2 : Nat) : Int) := by rw [wrapI (by omega) (by omega)]; omega
  have e1 : IntKind.wrap .i64 (((n - 2 : Nat) : Int) + 1) = ((n - 1 : Nat) : Int) := by rw [wrapI (by omega) (by omega)]; omega
  rw [e2, e1]
  obtain ⟨bc, cur, hp, hbc, hhas, _⟩ := o1.cells (by omega)
  subst hp
  refine LoopC_of (σ := (Option Addr × Nat × Nat) × Int × Unit) (fun st' w' => ∃ k : Nat, st'.2.1 = (k : Int) ∧ k ≤ n - 2 ∧ st'.1.2.1 = k ∧ OwnL hLay w' w.heap.size 22 st'.1.1 k st'.1.2.2 (hdrs bc k) ∧ Keep (fun _ => False) w w') (fun st' _ => ((n - 2 : Nat) - st'.2.1).toNat)
    ⟨0, rfl, by omega, rfl, OwnL.nil, Keep.refl _ _⟩ ?_
  rintro _ ⟨⟨pa, la, ca⟩, i, u⟩ w1 ⟨k, hi, hk, hlk, oa, k1⟩
  simp only at hi hlk oa ⊢
  subst hi hlk
  have z1 := k1.size
  refine Cb_of (fun hc => ?_) (fun hc => ?_)
  · have hc : la < n - 2 := by
      have : (la : Int) < ((n - 2 : Nat) : Int) := by simpa using hc
      omega
    have ek : IntKind.wrap .i64 ((la : Int) + 1) = ((la + 1 : Nat) : Int) := by rw [wrapI (by omega) (by omega)]; omega
    refine ⟨bc, 0, rfl, by omega, by omega, ?_⟩
    refine Slc_all (by omega) ?_
    rw [slc16, Int.toNat_natCast]
    refine ⟨_, _, bsl_h1 _ _ _ w1, OpS_slice.2 ?_⟩
    have k2 := Keep.new (fun _ => False) w1 (.cells #[.slice (some ⟨bc, 0 + la * 16, none⟩) (16 - 0) (16 - 0)] 22)
    have hb2 := Has.new w1 (.cells #[.slice (some ⟨bc, 0 + la * 16, none⟩) (16 - 0) (16 - 0)] 22)
    generalize w1.alloc (.cells #[.slice (some ⟨bc, 0 + la * 16, none⟩) (16 - 0) (16 - 0)] 22) = w2 at *
    have z2 := k2.size
    obtain ⟨p3, c3, w3, hr3, o3, k3, _⟩ := run_appendF1 hLayT (oa.keep k2 (by simp)) (y := (some ⟨bc, 0 + la * 16, none⟩, 16, 16)) hb2 rfl (ty := 187) (by omega) (by simp only [maxLen]; omega) (by omega) (c2 := 1)
    refine ⟨_, _, hr3, OpS_slice.2 ?_⟩
    refine ⟨_, by show (((n - 2 : Nat) : Int) - IntKind.wrap .i64 ((la : Int) + 1)).toNat < (((n - 2 : Nat) : Int) - (la : Int)).toNat; rw [ek]; omega, ⟨la + 1, ek, by omega, rfl, by rw [hdrs_succ]; exact o3, (k1.trans k2).trans' k3 fun i hi e => by have := (oa.lt e).1; omega⟩, rfl⟩
  · have hc : la = n - 2 := by
      have : ¬ (la : Int) < ((n - 2 : Nat) : Int) := by simpa using hc
      omega
    subst hc
    have o11 := o1.keep k1 (by simp)
    have hcols : Cols w1 pa (n - 2) (hdrs bc (n - 2)) ((row.take (n - 2)).map some) := by
      refine ⟨oa.sl, by rw [len_hdrs, List.length_map, List.length_take]; omega, fun i h C h1 h2 => ?_, map_some_ok fun f hf => hrok f (List.mem_of_mem_take hf)⟩
      have hi : i < n - 2 := by have := (List.getElem?_eq_some_iff.1 h1).1; rwa [len_hdrs] at this
      unfold hdrs at h1
      rw [List.getElem?_map, List.getElem?_range hi] at h1
      cases h1
      rw [List.getElem?_map, List.getElem?_take, if_pos hi] at h2
      obtain ⟨f, hf⟩ : ∃ f, row[i]? = some f := ⟨_, List.getElem?_eq_getElem (by omega)⟩
      rw [hf] at h2
      cases h2
      exact sec_col o11.sl hf
    refine p_Encode hcols (by omega) (by omega) (lost_some _) fun bp bq w2 hne hbp hbq op oq k2 => ?_
    refine ⟨_, _, _, rfl, OpS_slice.2 (OpS_slice.2 (OpI_int.2 ?_))⟩
    generalize sumP ((row.take (n - 2)).map some) = P at *
    generalize sumQ ((row.take (n - 2)).map some) = Q at *
    intro d
    have kd := Keep.drew (fun _ => False) w2 d
    refine ⟨fun _ => True, trivial, ?_⟩
    have k02 := (k1.trans k2).trans kd
    have o12 := o1.keep k02 (by simp)
    have opd := op.keep kd (by simp)
    have oqd := oq.keep kd (by simp)
    have hbd := k02.has hb (by simp)
    have hb2d := k02.has hb2 (by simp)
    generalize w2.dr d = w3 at *
    refine ldSec opd.sl ⟨_, _, rfl⟩ ?_
    refine ldSec oqd.sl ⟨_, _, rfl⟩ ?_
    refine o12.stA (i := ((n - 2 : Nat) : Int)) (n := 16) rfl (by omega) (by omega) P (by show secV P = ((secV P).toList).toArray; simp) fun w4 o4 k4 z4 => ⟨trivial, ?_⟩
    refine o4.stA (i := ((n - 1 : Nat) : Int)) (n := 16) rfl (by omega) (by omega) Q (by show secV Q = ((secV Q).toList).toArray; simp) fun w5 o5 k5 z5 => ⟨trivial, ?_⟩
    rw [Int.toNat_natCast, Int.toNat_natCast, set_two hrl.symm (by omega)] at o5
    have k35 := k4.trans k5
    have hb3 := k35.has hbd (OwnL.neH o12 hbd (by decide))
    have hb23 := k35.has hb2d (OwnL.neH o12 hb2d (by decide))
    have k05 : Keep (fun k => (some (⟨bc, 0, none⟩ : Addr)) = some ⟨k, 0, none⟩) w w5 := (k02.mono fun _ h => h.elim).trans k35
    have hsf : ∀ i, SFoot q i → ¬ (some (⟨bc, 0, none⟩ : Addr)) = some ⟨i, 0, none⟩ := by
      intro i hi e
      cases e
      exact h.typ hhas (by decide) (by decide) (by decide) hi
    have h5 := h.keep k05 hsf
    refine LdA_has (cs := geoV q.g) hb3 (by show 0 + 3 ≤ 4; decide) rfl ?_
    refine LdV_has (v := .int .i64 x.1) hb23 rfl (OpI_int.2 ?_)
    refine LdV_has (v := .int .i64 x.2.2) hb23 rfl (OpI_int.2 ?_)
    refine l_Row h.geo hst hof fun p6 c6 w6 o6 k6 => ?_
    refine T2_mk.2 (OpS_slice.2 (OpI_int.2 ?_))
    have hb26 := k6.has hb23 (by simp)
    refine LdV_has (v := .int .i64 x.2.1) hb26 rfl (OpI_int.2 ?_)
    refine ⟨_, _, bsl_n3 _ _ _ w6, OpS_slice.2 ?_⟩
    have k7 := Keep.new (fun _ => False) w6 (.cells #[.int .i64 x.2.1, .int .i64 ((n - 2 : Nat) : Int), .int .i64 ((n - 1 : Nat) : Int)] 3)
    have hb7 := Has.new w6 (.cells #[.int .i64 x.2.1, .int .i64 ((n - 2 : Nat) : Int), .int .i64 ((n - 1 : Nat) : Int)] 3)
    generalize hw7 : w6.alloc (.cells #[.int .i64 x.2.1, .int .i64 ((n - 2 : Nat) : Int), .int .i64 ((n - 1 : Nat) : Int)] 3) = w7 at *
    have o7 : OwnL nLay w7 0 3 (some ⟨w6.heap.size, 0, none⟩) 3 3 [x.2.1, ((n - 2 : Nat) : Int), ((n - 1 : Nat) : Int)] := OwnL.mk (xs := [x.2.1, ((n - 2 : Nat) : Int), ((n - 1 : Nat) : Int)]) (Nat.zero_le _) hb7 (by simp [maxLen]) rfl
    have k57 := k6.trans k7
    have k07 : Keep (fun k => (some (⟨bc, 0, none⟩ : Addr)) = some ⟨k, 0, none⟩) w w7 := k05.trans (k57.mono fun _ h => h.elim)
    rw [hn] at o6 ⊢
    have hks : [x.2.1, q.g.d - 2, q.g.d - 1] = [x.2.1, ((n - 2 : Nat) : Int), ((n - 1 : Nat) : Int)] := by
      rw [show ((n - 2 : Nat) : Int) = q.g.d - 2 by omega, show ((n - 1 : Nat) : Int) = q.g.d - 1 by omega]
    rw [hks] at hK
    have z7 := k07.size
    refine planEnd (h.keep k07 hsf) (hsl' w7 k07) hst hof hn (k57.has hb3 (by simp)) ((o5.rebase (Nat.zero_le _)).keep k57 (by simp)) ((o6.rebase (Nat.zero_le _)).keep k7 (by simp)) o7 ?_ (by simp) fun p' c' w8 o8 k8 => ?_
    · intro k hk
      simp only [List.mem_cons, List.not_mem_nil, or_false] at hk
      rcases hk with rfl | rfl | rfl
      · omega
      · omega
      · omega
    · exact hK p' c' w8 (o8.rebase (by omega)) (k07.trans (k8.mono fun _ h => h.elim))
theorem st_Plan (h : SetAt w q s) {p : Option Addr} {l c : Nat} (hsl : SlL dLay w p l (q.bks.map Prod.fst)) (hlc : l ≤ c) (hok : ∀ D ∈ s.ds, DskOk D) {lba : Int} (h0 : 0 ≤ lba) (h1 : lba < (q.g.d - 2) * q.g.c * q.g.s) {data : Sec} (hdata : SecOk data)
    (hK : ∀ p' c' w', OwnL puLay w' w.heap.size 88 p' (planS q.g s lba data).1.length c' (planS q.g s lba data).1 → Keep (fun _ => False) w w' → R (.tuple #[.slice p' (planS q.g s lba data).1.length c', .int .i64 (planS q.g s lba data).2]) w') : CallV Tryz.prog 35 #[.agg (setV q.g p l c), .int .i64 lba, .agg (secV data)] w R := by
  apply C_stripe_Plan
  unfold F_stripe_Plan
  obtain ⟨pst, pco, pof⟩ := spotP_ok h.geo h0 h1
  have hgd := h.geo.d
  unfold planS at hK
  generalize hx : spotP q.g lba = x at *
  simp only at hK
  refine alc_fresh fun w1 hb1 k1 z1 => ?_
  refine alc_fresh fun w2 hb2 k2 z2 => ?_
  have hs2 := k2.has hb1 (by simp)
  have k02 := k1.trans k2
  refine LdA_all hs2 rfl ?_
  refine st_Check (h.keep0 k02) (hsl.keepB k02 (by simp)) hlc fun w3 k3 => ?_
  refine OpI_int.2 ((Cb_false (p := _)).2 ?_)
  refine LdA_has (cs := geoV q.g) (k3.has hs2 (by simp)) (by show 0 + 3 ≤ 4; decide) rfl ?_
  refine l_Map h.geo h0 h1 fun w4 k4 => ?_
  rw [hx]
  refine ⟨_, _, _, rfl, OpA_agg.2 ⟨rfl, OpA_agg.2 ⟨rfl, OpI_int.2 ?_⟩⟩⟩
  refine alc_fresh fun w5 hb5 k5 z5 => ?_
  refine alc_fresh fun w6 hb6 k6 z6 => ?_
  have hb56 := k6.has hb5 (by simp)
  have k26 := ((k3.trans k4).trans k5).trans k6
  have z26 : w2.heap.size ≤ w4.heap.size := (k3.trans k4).size
  have z02 := k02.size
  refine StA_all hb56 rfl (by rw [zc_spot]; rfl) (one_spotV x) ?_
  have hb7 := hb56.upd_same (.cells (spotV x) 177 (0, 0))
  have hb6' : Has (w6.upd w4.heap.size (.cells (spotV x) 177 (0, 0))) w5.heap.size (.cells (zc Tryz.prog 84) 84 (0, 0)) := Has.upd hb6 (by omega)
  have k27 : Keep (fun _ => False) w2 (w6.upd w4.heap.size (.cells (spotV x) 177 (0, 0))) := (Keep.refl (fun _ => False) w2).trans' ((k26.mono fun _ h => h.elim).upd (S := fun k => k = w4.heap.size) (fun _ => rfl) _) fun i hi e => by omega
  refine StA_all hb6' rfl (by rw [zc_plc]; rfl) (one_plcV _) ?_
  have hb78 : Has ((w6.upd w4.heap.size (.cells (spotV x) 177 (0, 0))).upd w5.heap.size (.cells (plcV (plcP q.g x.1 x.2.2 x.2.1)) 84 (0, 0))) w4.heap.size (.cells (spotV x) 177 (0, 0)) := Has.upd hb7 (by omega)
  have k28 : Keep (fun _ => False) w2 ((w6.upd w4.heap.size (.cells (spotV x) 177 (0, 0))).upd w5.heap.size (.cells (plcV (plcP q.g x.1 x.2.2 x.2.1)) 84 (0, 0))) := (Keep.refl (fun _ => False) w2).trans' ((k27.mono fun _ h => h.elim).upd (S := fun k => k = w5.heap.size) (fun _ => rfl) _) fun i hi e => by omega
  generalize (w6.upd w4.heap.size (.cells (spotV x) 177 (0, 0))).upd w5.heap.size (.cells (plcV (plcP q.g x.1 x.2.2 x.2.1)) 84 (0, 0)) = w8 at *
  have k08 := k02.trans k28
  have hs8 := k28.has hs2 (by simp)
  have hr8 := k28.has hb2 (by simp)
  have hbr : w.heap.size ≤ w1.heap.size := by omega
  generalize w1.heap.size = br at *
  generalize w4.heap.size = bs at *
  refine (Cb_false (p := _)).2 ?_
  refine LdA_all hs8 rfl ?_
  refine LdV_has (v := .int .i64 x.1) hb78 rfl (OpI_int.2 ?_)
  refine LdV_has (v := .int .i64 x.2.2) hb78 rfl (OpI_int.2 ?_)
  refine st_Row (h.keep0 k08) (hsl.keepB k08 (by simp)) hlc hok pst pof ?_ ?_ ?_
  · intro hp w9 k9
    rw [if_pos hp] at hK
    exact ⟨_, _, _, rfl, OpS_slice.2 (OpS_slice.2 (OpI_int.2 ((Cb_true (q := _)).2 (Ret_nil.2 (hK none 0 w9 OwnL.nil (k08.trans k9))))))⟩
  · intro hp hl w9 k9
    rw [if_neg (by simp [hp]), if_neg hl] at hK
    exact ⟨_, _, _, rfl, OpS_slice.2 (OpS_slice.2 (OpI_int.2 ((Cb_true (q := _)).2 (Ret_nil.2 (hK none 0 w9 OwnL.nil (k08.trans k9))))))⟩
  · intro hp hl p' c' lp ll lc w9 o9 on9 k9
    rw [if_neg (by simp [hp]), if_pos hl] at hK
    refine ⟨_, _, _, rfl, OpS_slice.2 (OpS_slice.2 (OpI_int.2 ((Cb_false (p := _)).2 ?_)))⟩
    have k09 := k08.trans k9
    have z9 := k09.size
    refine LdV_has (v := .int .i64 x.2.1) (k9.has hb78 (by simp)) rfl (OpI_int.2 ?_)
    refine LdA_all (k9.has hr8 (by simp)) rfl ?_
    have o9 := o9.rebase (show w.heap.size ≤ w8.heap.size from k08.size)
    have hlen : (rowR (colsS q.g s x.1 x.2.2)).length = q.g.d.toNat := by rw [len_rowR (by rw [len_colsS]; omega), len_colsS]
    have hrok := rowR_ok (colsS_ok (g := q.g) (st := x.1) (off := x.2.2) hok)
    generalize rowR (colsS q.g s x.1 x.2.2) = row at *
    refine o9.stA (i := x.2.1) (n := 16) rfl pco.1 (by omega) data (by show secV data = ((secV data).toList).toArray; simp) fun w10 o10 k10 z10 => ?_
    have ks9 := k9.has hs8 (by simp)
    have kt9 := k9.has hb78 (by simp)
    have k010 : Keep (fun _ => False) w w10 := k09.trans' k10 fun i hi e => by have := (o9.lt e).1; omega
    have z10' := k010.size
    have hrow : rowW row x.2.1.toNat data = (row.set x.2.1.toNat data).take (q.g.d.toNat - 2) ++ [sumP (((row.set x.2.1.toNat data).take (q.g.d.toNat - 2)).map some), sumQ (((row.set x.2.1.toNat data).take (q.g.d.toNat - 2)).map some)] := by unfold rowW; rw [hlen]
    rw [hrow] at hK
    refine planMid (base := w.heap.size) (h.keep0 k010) (hsl.keepB k010 (by simp)) pst pof pco rfl (k10.has ks9 (OwnL.neH o9 ks9 (by decide))) (k10.has kt9 (OwnL.neH o9 kt9 (by decide))) o10 (fun f hf => ?_) (by omega) (fun w' k' => ?_) fun p3 c3 w11 o11 k11 => ?_
    · rcases mem_set hf with rfl | hf
      · exact hdata
      · exact hrok f hf
    · exact hsl.keepB (k010.trans' k' fun i hi e => by have := (o10.lt e).1; omega) (by simp)
    · exact hK p3 c3 w11 o11 (k010.trans' k11 fun i hi e => by have := (o10.lt e).1; omega)
end calls
end Go.Proofs

/-
  A SET: Key and Fence.
-/
namespace Go.Proofs
open Go Go.Ev
set_option linter.unusedSimpArgs false
set_option linter.unusedVariables false
set_option maxRecDepth 100000

def keyL (k : Int) (l : List Dsk) : Int := l.foldl (fun k D => if D.dead = true then k else max k D.key) k
def keyS (s : SS) : Int := keyL 0 s.ds
/-- what Fence answers, and the set behind it -/
def fenceS (s : SS) (ep : Int) : Int × SS :=
  if s.pw.on = false then (4, s) else (0, ⟨s.ds.map fun D => (fenceD s.pw D ep).2, s.pw⟩)
theorem fenceD_len (pw : Pow) (D : Dsk) (ep : Int) : (fenceD pw D ep).2.secs = D.secs := by
  unfold fenceD
  split
  · rfl
  · split <;> rfl
theorem max_rng {a b : Int} (h1 : 0 ≤ a ∧ a ≤ 4294967295) (h2 : 0 ≤ b ∧ b ≤ 4294967295) : 0 ≤ max a b ∧ max a b ≤ 4294967295 := by omega
theorem fenceD_ok {pw : Pow} {D : Dsk} {ep : Int} (h : DskOk D) (hep : 0 ≤ ep ∧ ep ≤ 4294967295) : DskOk (fenceD pw D ep).2 := by
  refine ⟨by rw [fenceD_len]; exact h.1, ?_⟩
  unfold fenceD
  split
  · exact h.2
  · split
    · exact h.2
    · exact max_rng h.2 hep
section calls
variable {w : World} {q : SB} {s : SS} {R : Value → World → Prop}
theorem st_Key (h : SetAt w q s) {p : Option Addr} {l c : Nat} (hsl : SlL dLay w p l (q.bks.map Prod.fst)) (hlc : l ≤ c)
    (hK : ∀ w', Keep (fun _ => False) w w' → R (.int .u32 (keyS s)) w') : CallV Tryz.prog 42 #[.agg (setV q.g p l c)] w R := by
  apply C_stripe_Key
  unfold F_stripe_Key
  have hll : l = s.ds.length := by have := hsl.1; rw [List.length_map, h.len] at this; exact this
  have hgd := h.geo.d
  have hnum := h.num
  refine alc_fresh fun w1 hb1 k1 z1 => ?_
  refine LdA_all hb1 rfl ?_
  refine st_Check (h.keep0 k1) (hsl.keepB k1 (by simp)) hlc fun w2 k2 => ?_
  refine OpI_int.2 ((Cb_false (p := _)).2 ?_)
  have k02 := k1.trans k2
  refine LdV_has (v := .slice p l c) (k2.has hb1 (by simp)) rfl (OpS_slice.2 ?_)
  refine LoopC_of (σ := Int × Int × Unit) (fun st w' => ∃ i : Nat, st.2.1 = (i : Int) ∧ i ≤ l ∧ st.1 = keyL 0 (s.ds.take i) ∧ Keep (fun _ => False) w w') (fun st _ => (l - st.2.1).toNat) ⟨0, rfl, by omega, rfl, k02⟩ ?_
  rintro _ ⟨m, i, u⟩ w3 ⟨i', hi, hil, hm, k3⟩
  simp only at hi hm ⊢
  subst hi hm
  have h3 := h.keep0 k3
  refine Cb_of (fun hc => ?_) (fun hc => ?_)
  · have hc : i' < l := by
      have : (i' : Int) < (l : Int) := by simpa using hc
      omega
    have ek : IntKind.wrap .i64 ((i' : Int) + 1) = ((i' + 1 : Nat) : Int) := by rw [wrapI (by omega) (by omega)]; omega
    obtain ⟨b, r, D, hbk, hD, hda, hdl⟩ := h3.get (i := i') (by omega)
    refine (hsl.keepB k3 (by simp)).ld0 (i := (i' : Int)) (n := 1) (x := b) (v := .pointer (some ⟨b, 0, none⟩)) rfl (by omega) (by rw [Int.toNat_natCast, List.getElem?_map, hbk]; rfl) rfl (OpN_some.2 ?_)
    have hst : keyL 0 (s.ds.take (i' + 1)) = if D.dead = true then keyL 0 (s.ds.take i') else max (keyL 0 (s.ds.take i')) D.key := by
      unfold keyL
      rw [List.take_add_one, hD, List.foldl_append]; rfl
    refine d_Alive hda (OpB_bool.2 ?_)
    refine Cb_of (fun hal => ?_) (fun hal => ?_)
    · have hal : D.dead = false := by simpa using hal
      rw [if_neg (by simp [hal])] at hst
      refine d_Key hda (OpI_int.2 ?_)
      refine DoQ_of (v := .int .u32 (max (keyL 0 (s.ds.take i')) D.key)) (fun d => run_max _ _ _ _ _ _) (OpI_int.2 ?_)
      exact ⟨_, by show ((l : Int) - IntKind.wrap .i64 ((i' : Int) + 1)).toNat < ((l : Int) - (i' : Int)).toNat; rw [ek]; omega, ⟨i' + 1, ek, by omega, hst.symm, k3⟩, rfl⟩
    · have hal : D.dead = true := by simpa using hal
      rw [if_pos hal] at hst
      exact ⟨_, by show ((l : Int) - IntKind.wrap .i64 ((i' : Int) + 1)).toNat < ((l : Int) - (i' : Int)).toNat; rw [ek]; omega, ⟨i' + 1, ek, by omega, hst.symm, k3⟩, rfl⟩
  · have hc : i' = l := by
      have : ¬ (i' : Int) < (l : Int) := by simpa using hc
      omega
    rw [List.take_of_length_le (by omega)]
    exact Ret_nil.2 (hK w3 k3)
theorem st_Fence (h : SetAt w q s) {p : Option Addr} {l c : Nat} (hsl : SlL dLay w p l (q.bks.map Prod.fst)) (hlc : l ≤ c) (hpf : ∀ b o, p = some ⟨b, o, none⟩ → ¬ SFoot q b) (hok : ∀ D ∈ s.ds, DskOk D) {ep : Int} (hep : 0 ≤ ep ∧ ep ≤ 4294967295)
    (hK : ∀ w', SetAt w' q (fenceS s ep).2 → Keep (SFoot q) w w' → R (.int .i64 (fenceS s ep).1) w') : CallV Tryz.prog 40 #[.agg (setV q.g p l c), .int .u32 ep] w R := by
  apply C_stripe_Fence
  unfold F_stripe_Fence
  have hll : l = s.ds.length := by have := hsl.1; rw [List.length_map, h.len] at this; exact this
  have hgd := h.geo.d
  have hnum := h.num
  refine alc_fresh fun w1 hb1 k1 z1 => ?_
  refine LdA_all hb1 rfl ?_
  refine st_Check (h.keep0 k1) (hsl.keepB k1 (by simp)) hlc fun w2 k2 => ?_
  refine OpI_int.2 ((Cb_false (p := _)).2 ?_)
  have k02 := k1.trans k2
  refine LdV_has (v := .slice p l c) (k2.has hb1 (by simp)) rfl (OpS_slice.2 ?_)
  unfold fenceS at hK
  refine LoopC_of (σ := Int × Unit) (fun st w' => ∃ i : Nat, st.1 = (i : Int) ∧ i ≤ l ∧ (0 < i → s.pw.on = true) ∧ SetAt w' q ⟨(s.ds.take i).map (fun D => (fenceD s.pw D ep).2) ++ s.ds.drop i, s.pw⟩ ∧ Keep (SFoot q) w w') (fun st _ => (l - st.1).toNat) ⟨0, rfl, by omega, fun h => absurd h (by omega), h.keep0 k02, k02.mono fun _ h => h.elim⟩ ?_
  rintro _ ⟨i, u⟩ w3 ⟨i', hi, hil, hon, h3, k3⟩
  simp only at hi ⊢
  subst hi
  refine Cb_of (fun hc => ?_) (fun hc => ?_)
  · have hc : i' < l := by
      have : (i' : Int) < (l : Int) := by simpa using hc
      omega
    have ek : IntKind.wrap .i64 ((i' : Int) + 1) = ((i' + 1 : Nat) : Int) := by rw [wrapI (by omega) (by omega)]; omega
    have hlm : ((s.ds.take i').map (fun D => (fenceD s.pw D ep).2)).length = i' := by rw [List.length_map, List.length_take]; omega
    obtain ⟨b, r, D, hbk, hD, hda, hdl⟩ := h3.get (i := i') (by show i' < ((s.ds.take i').map (fun D => (fenceD s.pw D ep).2) ++ s.ds.drop i').length; rw [List.length_append, hlm, List.length_drop]; omega)
    have hD : ((s.ds.take i').map (fun D => (fenceD s.pw D ep).2) ++ s.ds.drop i')[i']? = some D := hD
    rw [List.getElem?_append_right (by omega), hlm, Nat.sub_self, List.getElem?_drop, Nat.add_zero] at hD
    have hDok := hok D (List.mem_of_getElem? hD)
    refine (hsl.keep k3 hpf).ld0 (i := (i' : Int)) (n := 1) (x := b) (v := .pointer (some ⟨b, 0, none⟩)) rfl (by omega) (by rw [Int.toNat_natCast, List.getElem?_map, hbk]; rfl) rfl (OpN_some.2 ?_)
    have hdo := d_Fence (R := fun v w' => v = .int .i64 (fenceD s.pw D ep).1 ∧ DiskAt w' q.m b r (fenceD s.pw D ep).2 ∧ Keep (fun k => k = b) w3 w') hda h3.main hDok.2 hep (fun w4 hd4 k4 => ⟨rfl, hd4, k4⟩)
    refine hdo.mono fun v w4 hv => ?_
    obtain ⟨rfl, hd4, k4⟩ := hv
    refine OpI_int.2 ?_
    have hbm : b ≠ q.m := (hda.nem h3.main).1
    have kf : Keep (SFoot q) w3 w4 := k4.mono fun k hk => Or.inr (Or.inl (by rw [hk]; exact List.mem_map.2 ⟨(b, r), List.mem_of_getElem? hbk, rfl⟩))
    have hm4 : MaAt w4 q.m s.pw := k4.has h3.main (fun e => hbm e.symm)
    have h4 := h3.upd hbk (k4.mono fun k hk => Or.inr (Or.inl hk)) hd4 (by rw [fenceD_len]; exact hdl) hm4
    by_cases hp : s.pw.on = false
    · have e4 : (fenceD s.pw D ep).1 = 4 := by unfold fenceD; rw [if_pos hp]
      have e5 : (fenceD s.pw D ep).2 = D := by unfold fenceD; rw [if_pos hp]
      rw [e4]
      rw [if_pos hp] at hK
      refine (Cb_true (q := _)).2 (Ret_nil.2 (hK w4 ?_ (k3.trans kf)))
      have h0 : i' = 0 := by
        refine Classical.byContradiction fun hne => ?_
        have := hon (by omega)
        rw [hp] at this
        cases this
      subst h0
      have : SS.mk (((s.ds.take 0).map (fun D => (fenceD s.pw D ep).2) ++ s.ds.drop 0).set 0 (fenceD s.pw D ep).2) s.pw = s := by
        rw [e5, List.take_zero, List.map_nil, List.nil_append, List.drop_zero]
        have : s.ds.set 0 D = s.ds := by
          apply List.ext_getElem?
          intro i
          by_cases h : 0 = i
          · subst h; rw [List.getElem?_set_self (by omega), hD]
          · rw [List.getElem?_set_ne h]
        rw [this]
      rw [this] at h4
      exact h4
    · have e4 : ((fenceD s.pw D ep).1 == 4) = false := by
        unfold fenceD
        rw [if_neg hp]
        split <;> rfl
      rw [e4]
      refine (Cb_false (p := _)).2 ?_
      refine ⟨_, by show ((l : Int) - IntKind.wrap .i64 ((i' : Int) + 1)).toNat < ((l : Int) - (i' : Int)).toNat; rw [ek]; omega, ⟨i' + 1, ek, by omega, fun _ => by simpa using hp, ?_, k3.trans kf⟩, rfl⟩
      have : ((s.ds.take i').map (fun D => (fenceD s.pw D ep).2) ++ s.ds.drop i').set i' (fenceD s.pw D ep).2 = (s.ds.take (i' + 1)).map (fun D => (fenceD s.pw D ep).2) ++ s.ds.drop (i' + 1) := by
        rw [List.set_append_right _ _ (by omega), hlm, Nat.sub_self, List.drop_eq_getElem_cons (by omega), List.set_cons_zero, List.take_add_one, hD, List.map_append, List.append_assoc]
        rfl
      rw [← this]
      exact h4
  · have hc : i' = l := by
      have : ¬ (i' : Int) < (l : Int) := by simpa using hc
      omega
    have hp := hon (by omega)
    rw [if_neg (by simp [hp])] at hK
    rw [List.take_of_length_le (by omega), List.drop_of_length_le (by omega), List.append_nil] at h3
    exact Ret_nil.2 (hK w3 h3 k3)
end calls
end Go.Proofs
