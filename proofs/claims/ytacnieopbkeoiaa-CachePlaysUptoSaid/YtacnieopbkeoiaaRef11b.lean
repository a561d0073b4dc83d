/-
  The document's cache, on: Put, Clean, Get.
-/
import Derived.Test.YtacnieopbkeoiaaRef11
namespace Go.Proofs
open Go Go.Ev Go.RowKit
set_option linter.unusedSimpArgs false
set_option linter.unusedVariables false
set_option maxRecDepth 100000

/-- what the document's Put answers -/
def putR (room : Int) (rs : List Rec) (lba ver : Int) : Int :=
  if lba < 0 ∨ 2147483647 < lba then 2 else
  match idxR rs lba with
  | some i => if ver ≤ (rs.getD i default).ver then 2 else 0
  | none => if room ≤ (rs.length : Int) then 9 else 0
/-- ... and what it leaves -/
def outR (rs : List Rec) (lba : Int) : List Rec := match idxR rs lba with
  | some i => rs.eraseIdx i
  | none => rs
def cleanR (rs : List Rec) (lba ver : Int) : Int := match idxR rs lba with
  | some i => if ver < (rs.getD i default).ver then 12 else 0
  | none => 10

def getRV (rs : List Rec) (lba : Int) : Value := match idxR rs lba with
  | some i => .tuple #[.agg (secV (rs.getD i default).data), .int .u64 (rs.getD i default).ver, .int .i64 0]
  | none => .tuple #[.agg (secV (sec [])), .int .u64 0, .int .i64 10]

section calls
variable {cs : Array Value} {room lba : Int} {rs : List Rec} {w : World} {R : Value → World → Prop}
theorem put_end {w0 : World} {b b1 b2 : Nat} {p : Option Addr} {l c : Nat} {rs1 : List Rec} {f : Sec} {ver : Int} (hle : rs1.length ≤ 1000000) (l0 : w0.heap.size ≤ b) (l2 : w0.heap.size ≤ b2) (hne : b ≠ b2) (k0 : Keep (fun _ => False) w0 w)
    (hb : Has w b (.cells (rcaV room p l c) 57 (0, 0))) (hs : SlT recLay w 42 p l c rs1) (hb1 : Has w b1 (.cells (secV f) 31 (0, 0)))
    (hb2 : Has w b2 (.cells (zc Try.prog 57) 57 (0, 0)))
    (hK : ∀ cs' w' rs', rs'.Perm (rs1 ++ [⟨1, ver, lba, f⟩]) → ByVer rs' → RCa w' cs' room rs' → Keep (fun _ => False) w0 w' → R (.tuple #[.int .i64 0, .agg cs']) w') :
    DoV Try.prog (Instr.buildSlice 37 0 #[]) w fun v6 w => OpS v6 fun p2 l2 c3 => LdV b 1 (At w) fun v7 => OpS v7 fun p3 l3 c4 => DoV Try.prog (Builtin.append_ #[37, 37] 37 #[.slice p2 l2 c3, .slice p3 l3 c4]) w fun v8 w => OpS v8 fun p4 l4 c5 =>
      LdA 16 b1 0 (At w) fun cs9 => DoQ Try.prog (Instr.build 42 #[(0, .int .i64 1), (1, .int .u64 ver), (2, .int .i64 lba), (3, .agg cs9)]) (At w) fun v9 => OpA 19 v9 fun cs10 =>
      DoV Try.prog (Instr.buildSlice 37 1 #[(0, .agg cs10)]) w fun v10 w => OpS v10 fun p5 l5 c6 => DoV Try.prog (Builtin.append_ #[37, 37] 37 #[.slice p4 l4 c5, .slice p5 l5 c6]) w fun v11 w => OpS v11 fun p6 l6 c7 =>
      HeldR w fun S w => LdV b 0 S fun v12 => OpI .i64 v12 fun n3 => CallV Try.prog 43 #[.slice p6 l6 c7] w fun v13 w => OpS v13 fun p7 l7 c8 => Hld (S w) (DoQ Try.prog (Instr.build 57 #[(0, .int .i64 n3), (1, .slice p7 l7 c8)]) (At w) fun v14 => OpA 2 v14 fun cs11 =>
        StA 2 b2 0 cs11 w fun w => Hld (S w) (LdA 2 b2 0 (At w) fun cs12 => Ret [] (R (.tuple #[.int .i64 0, .agg cs12]) w))) := by
  have hlen := hs.len
  refine ⟨_, _, bsl_none w, ?_⟩
  simp only [OpS_slice]
  have k3 := Keep.new (fun _ => False) w (.cells #[] 42)
  have ho : OwnL recLay (w.alloc (.cells #[] 42)) w.heap.size 42 (some ⟨w.heap.size, 0, none⟩) 0 0 [] := OwnL.new (L := recLay) (xs := []) (by simp) rfl
  refine LdV_has (v := .slice p l c) (k3.has hb (by simp)) rfl ?_
  simp only [OpS_slice]
  obtain ⟨p4, c4, w4, hr4, ho4, k4⟩ := run_appendL recT ho (hs.keepB k3 (by simp)).sl (c2 := c) (ty := 37) (by omega) (by simp [maxLen]; omega) (by have := k3.size; omega)
  refine ⟨_, _, hr4, ?_⟩
  simp only [OpS_slice]
  simp only [Nat.zero_add, List.nil_append] at ho4 ⊢
  have k24 : Keep (fun _ => False) w w4 := k3.trans' k4 (fun x hx hp => by simp only [Option.some.injEq, Addr.mk.injEq] at hp; omega)
  refine LdA_all (k24.has hb1 (by simp)) rfl ?_
  refine DoQ_of (fun d => bld_rec _ _ _ _ _) ?_
  simp only [OpA_agg]
  refine ⟨rfl, _, _, bsl_rec _ w4, ?_⟩
  simp only [OpS_slice]
  have k5 := Keep.new (fun _ => False) w4 (.cells (recV ⟨1, ver, lba, f⟩) 42)
  obtain ⟨p6, c6, w6, hr6, ho6, k6⟩ := run_appendL1 recT (ho4.keep k5 (by simp)) (Has.new w4 (.cells (recV ⟨1, ver, lba, f⟩) 42)) (y := ⟨1, ver, lba, f⟩) rfl (ty := 37) (c2 := 1) (by omega) (by simp [maxLen]; omega) (by have := k24.size; have := k5.size; omega)
  refine ⟨_, _, hr6, ?_⟩
  simp only [OpS_slice]
  have k26 : Keep (fun _ => False) w w6 := (k24.trans k5).trans' k6 (fun x hx hp => by have := (ho4.lt hp).1; omega)
  intro d
  have kd := Keep.drew (fun _ => False) w6 d
  have hb6 := k26.has hb (by simp)
  have hb26 := k26.has hb2 (by simp)
  refine ⟨fun w' => Has w' b (.cells (rcaV room p l c) 57 (0, 0)), hb6, ?_⟩
  refine LdV_of (v := .int .i64 room) (fun w' hw => ⟨_, _, _, hw, rfl⟩) ?_
  simp only [OpI_int]
  refine ref_Sorted (ho6.keep kd (by simp)).sl (by omega) fun p7 l7 c7 rs' w7 hp hbv ho7 k7 => ?_
  simp only [OpS_slice]
  have k27 := (k26.trans kd).trans k7
  refine ⟨k27.has hb (by simp), DoQ_of (fun d => bld_ca _ _ _ _ _) ?_⟩
  simp only [OpA_agg]
  have hb27 := k27.has hb2 (by simp)
  refine ⟨rfl, StA_all hb27 rfl zc_ca (rca_one _ _ _ _) ?_⟩
  have k8 := Keep.one w7 b2 (.cells (rcaV room p7 l7 c7) 57)
  refine ⟨k8.has (k27.has hb (by simp)) hne, ?_⟩
  refine LdA_all (hb27.upd_same _) rfl ?_
  simp only [Ret_nil]
  refine hK _ _ rs' hp hbv ⟨p7, l7, c7, rfl, (SlT.of ho7).keepB k8 fun k cur hk e => ?_⟩ ((k0.trans k27).trans' k8 (fun x hx e => by omega))
  subst e
  have := hk.inj hb27
  simp only [Obj.cells.injEq] at this
  exact absurd this.2.1 (by decide)

theorem ref_Put {f : Sec} {ver : Int} (h : RCa w cs room rs) (hle : rs.length ≤ 100000)
    (h0 : ∀ cs' w', putR room rs lba ver ≠ 0 → RCa w' cs' room rs → Keep (fun _ => False) w w' → R (.tuple #[.int .i64 (putR room rs lba ver), .agg cs']) w')
    (hK : ∀ cs' w' rs', putR room rs lba ver = 0 → rs'.Perm (outR rs lba ++ [⟨1, ver, lba, f⟩]) → ByVer rs' → RCa w' cs' room rs' → Keep (fun _ => False) w w' → R (.tuple #[.int .i64 0, .agg cs']) w') :
    CallV Try.prog 27 #[.agg cs, .int .i64 lba, .agg (secV f), .int .u64 ver] w R := by
  apply C_ravelinref11_Put
  unfold F_ravelinref11_Put
  obtain ⟨p, l, c, rfl, hs⟩ := id h
  have hlen := hs.len
  refine one_new fun b w1 lb hb k1 => ?_
  refine one_new fun b1 w2 lb1 hb1 k2 => ?_
  refine one_new fun b2 w3 lb2 hb2 k3 => ?_
  have k13 := (k1.trans k2).trans k3
  have hb3 := k3.has (k2.has hb (by simp)) (by simp)
  have hb13 := k3.has hb1 (by simp)
  have hne : b ≠ b2 := by have := (k2.has hb (by simp)).lt; omega
  have l0b : w.heap.size ≤ b2 := by have := (k1.trans k2).size; omega
  clear hb hb1 k1 k2 k3
  refine ⟨rfl, rfl, ?_⟩
  have same : ∀ {w4 : World} (x : Int), putR room rs lba ver = x → x ≠ 0 → Has w4 b (.cells (rcaV room p l c) 57 (0, 0)) → Has w4 b2 (.cells (zc Try.prog 57) 57 (0, 0)) → Keep (fun _ => False) w w4 →
      Dr1 w4 fun w => LdA 2 b 0 (At w) fun cs => StA 2 b2 0 cs w fun w => LdA 2 b2 0 (At w) fun cs' => Ret [] (R (.tuple #[.int .i64 x, .agg cs']) w) := by
    intro w4 x e hx hb hb2 k
    subst e
    exact ret_copy hb hb2 rfl zc_ca (rca_one _ _ _ _) fun w5 k5 => have k' := k.trans' k5 (fun k hk e => by omega); h0 _ w5 hx (h.keep k') k'
  refine Cb_of (fun hc => ?_) (fun hc => ?_)
  · have hr : lba < 0 ∨ 2147483647 < lba := by
      by_cases h1 : lba < 0
      · exact Or.inl h1
      · simp [h1] at hc; exact Or.inr hc
    exact same 2 (by simp [putR, hr]) (by decide) hb3 hb2 k13
  have hr : ¬ (lba < 0 ∨ 2147483647 < lba) := by
    by_cases h1 : lba < 0
    · simp [h1] at hc
    · simp [h1] at hc; omega
  refine LdA_all hb3 rfl ?_
  refine ref_Find (h.keep k13) fun w4 k4 => ?_
  simp only [OpI_int]
  have k14 := k13.trans k4
  have hb4 := k4.has hb3 (by simp)
  have hb14 := k4.has hb13 (by simp)
  have hb24 := k4.has hb2 (by simp)
  have hs4 := hs.keepB k14 (by simp)
  cases hi : idxR rs lba with
  | some i =>
    obtain ⟨r, hir, hrl⟩ := idx_some hi
    have hil := (List.getElem?_eq_some_iff.1 hir).1
    have hgd : rs.getD i default = r := by simp [List.getD, hir]
    have e0 : decide (idxI (some i) ≥ 0) = true := decide_eq_true (by show (i : Int) ≥ 0; omega)
    have e1 : decide (idxI (some i) < 0) = false := decide_eq_false (by show ¬ (i : Int) < 0; omega)
    rw [e0, e1]
    simp only [Cb_true, Cb_false]
    have g : rs[(idxI (some i)).toNat]? = some r := by simpa [idxI] using hir
    refine LdV_has (v := .slice p l c) hb4 rfl ?_
    simp only [OpS_slice]
    refine hs4.ldF (t := 1) rfl (by simp [idxI]) g (v := .int .u64 r.ver) rfl ?_
    simp only [OpI_int]
    refine Cb_of (fun hv => ?_) (fun hv => ?_)
    · exact same 2 (by simp only [putR]; rw [if_neg hr, hi]; simp only; rw [hgd, if_pos (by simpa using hv)]) (by decide) hb4 hb24 k14
    have ep : putR room rs lba ver = 0 := by simp only [putR]; rw [if_neg hr, hi]; simp only; rw [hgd, if_neg (by simp only [decide_eq_false_iff_not] at hv; omega)]
    have eo : outR rs lba = rs.eraseIdx i := by simp only [outR, hi]
    rw [eo] at hK
    refine LdA_all hb4 rfl ?_
    refine ref_without (i := i) hil (by omega) (h.keep k14) fun cs5 w5 hr5 k5 => ?_
    simp only [OpA_agg]
    have hb5 := k5.has hb4 (by simp)
    have hb15 := k5.has hb14 (by simp)
    have hb25 := k5.has hb24 (by simp)
    have k15 := k14.trans k5
    obtain ⟨p5, l5, c5, rfl, hs5⟩ := id hr5
    refine ⟨rfl, StA_all hb5 rfl rfl (rca_one _ _ _ _) ?_⟩
    have k6 := Keep.one w5 b (.cells (rcaV room p5 l5 c5) 57)
    have nb : ∀ k cur, Has w5 k (.cells cur 42 (0, 0)) → ¬ k = b := fun k cur hk e => by
      subst e
      have := hk.inj hb5
      simp only [Obj.cells.injEq] at this
      exact absurd this.2.1 (by decide)
    exact put_end (rs1 := rs.eraseIdx i) (by have := List.length_eraseIdx_le rs i; omega) lb l0b hne (k15.trans' k6 (fun x hx e => by omega)) (hb5.upd_same _) (hs5.keepB k6 nb)
      (k6.has hb15 (fun e => by subst e; have := hb15.inj hb5; simp only [Obj.cells.injEq] at this; exact absurd this.2.1 (by decide))) (k6.has hb25 (fun e => hne e.symm)) fun cs' w' rs' h1 h2 h3 h4 => hK cs' w' rs' ep h1 h2 h3 h4
  | none =>
    have e0 : decide (idxI none ≥ 0) = false := rfl
    have e1 : decide (idxI none < 0) = true := rfl
    rw [e0, e1]
    simp only [Cb_true, Cb_false]
    refine LdV_has (v := .slice p l c) hb4 rfl ?_
    simp only [OpS_slice]
    refine LdV_has (v := .int .i64 room) hb4 rfl ?_
    simp only [OpI_int]
    refine Cb_of (fun hv => ?_) (fun hv => ?_)
    · exact same 9 (by simp only [putR]; rw [if_neg hr, hi]; simp only; rw [if_pos (by rw [← hlen]; simpa using hv)]) (by decide) hb4 hb24 k14
    have ep : putR room rs lba ver = 0 := by simp only [putR]; rw [if_neg hr, hi]; simp only; rw [if_neg (by rw [← hlen]; simp only [decide_eq_false_iff_not] at hv; omega)]
    have eo : outR rs lba = rs := by simp only [outR, hi]
    rw [eo] at hK
    exact put_end (rs1 := rs) (by omega) lb l0b hne k14 hb4 hs4 hb14 hb24 fun cs' w' rs' h1 h2 h3 h4 => hK cs' w' rs' ep h1 h2 h3 h4

theorem ref_Clean {ver : Int} (h : RCa w cs room rs) (hle : rs.length ≤ 100000)
    (h0 : ∀ cs' w', cleanR rs lba ver ≠ 0 → RCa w' cs' room rs → Keep (fun _ => False) w w' → R (.tuple #[.int .i64 (cleanR rs lba ver), .agg cs']) w')
    (hK : ∀ cs' w', cleanR rs lba ver = 0 → RCa w' cs' room (outR rs lba) → Keep (fun _ => False) w w' → R (.tuple #[.int .i64 0, .agg cs']) w') :
    CallV Try.prog 29 #[.agg cs, .int .i64 lba, .int .u64 ver] w R := by
  apply C_ravelinref11_Clean
  unfold F_ravelinref11_Clean
  obtain ⟨p, l, c, rfl, hs⟩ := id h
  have hlen := hs.len
  refine one_new fun b w1 lb hb k1 => ?_
  refine one_new fun b2 w3 lb2 hb2 k3 => ?_
  have k13 := k1.trans k3
  have hb3 := k3.has hb (by simp)
  have hne : b ≠ b2 := by have := hb.lt; omega
  have l0b : w.heap.size ≤ b2 := by have := k1.size; omega
  clear hb k1 k3
  have same : ∀ {w4 : World} (x : Int), cleanR rs lba ver = x → x ≠ 0 → Has w4 b (.cells (rcaV room p l c) 57 (0, 0)) → Has w4 b2 (.cells (zc Try.prog 57) 57 (0, 0)) → Keep (fun _ => False) w w4 →
      Dr1 w4 fun w => LdA 2 b 0 (At w) fun cs => StA 2 b2 0 cs w fun w => LdA 2 b2 0 (At w) fun cs' => Ret [] (R (.tuple #[.int .i64 x, .agg cs']) w) := by
    intro w4 x e hx hb hb2 k
    subst e
    exact ret_copy hb hb2 rfl zc_ca (rca_one _ _ _ _) fun w5 k5 => have k' := k.trans' k5 (fun k hk e => by omega); h0 _ w5 hx (h.keep k') k'
  refine LdA_all hb3 rfl ?_
  refine ref_Find (h.keep k13) fun w4 k4 => ?_
  simp only [OpI_int]
  have k14 := k13.trans k4
  have hb4 := k4.has hb3 (by simp)
  have hb24 := k4.has hb2 (by simp)
  have hs4 := hs.keepB k14 (by simp)
  cases hi : idxR rs lba with
  | some i =>
    obtain ⟨r, hir, hrl⟩ := idx_some hi
    have hil := (List.getElem?_eq_some_iff.1 hir).1
    have hgd : rs.getD i default = r := by simp [List.getD, hir]
    have e1 : decide (idxI (some i) < 0) = false := decide_eq_false (by show ¬ (i : Int) < 0; omega)
    rw [e1]
    simp only [Cb_false]
    have g : rs[(idxI (some i)).toNat]? = some r := by simpa [idxI] using hir
    refine LdV_has (v := .slice p l c) hb4 rfl ?_
    simp only [OpS_slice]
    refine hs4.ldF (t := 1) rfl (by simp [idxI]) g (v := .int .u64 r.ver) rfl ?_
    simp only [OpI_int]
    refine Cb_of (fun hv => ?_) (fun hv => ?_)
    · exact same 12 (by simp only [cleanR, hi]; rw [hgd, if_pos (by simpa using hv)]) (by decide) hb4 hb24 k14
    have ep : cleanR rs lba ver = 0 := by simp only [cleanR, hi]; rw [hgd, if_neg (by simp only [decide_eq_false_iff_not] at hv; omega)]
    have eo : outR rs lba = rs.eraseIdx i := by simp only [outR, hi]
    rw [eo] at hK
    refine LdA_all hb4 rfl ?_
    refine ref_without (i := i) hil (by omega) (h.keep k14) fun cs5 w5 hr5 k5 => ?_
    simp only [OpA_agg]
    have hb25 := k5.has hb24 (by simp)
    have k15 := k14.trans k5
    refine ⟨hr5.size, ret_put hb25 hr5.size zc_ca hr5.one fun w6 k6 => hK _ w6 ep (hr5.keepB k6 fun k cur hk e => ?_) (k15.trans' k6 (fun x hx e => by omega))⟩
    subst e
    have := hk.inj hb25
    simp only [Obj.cells.injEq] at this
    exact absurd this.2.1 (by decide)
  | none =>
    have e1 : decide (idxI none < 0) = true := rfl
    rw [e1, Cb_true]
    exact same 10 (by simp only [cleanR, hi]) (by decide) hb4 hb24 k14

theorem ref_Get (h : RCa w cs room rs) (hle : rs.length ≤ 100000)
    (hK : ∀ w', Keep (fun _ => False) w w' → R (getRV rs lba) w') :
    CallV Try.prog 30 #[.agg cs, .int .i64 lba] w R := by
  apply C_ravelinref11_Get
  unfold F_ravelinref11_Get
  unfold getRV at hK
  obtain ⟨p, l, c, rfl, hs⟩ := id h
  have hlen := hs.len
  refine one_new fun b w1 lb hb k1 => ?_
  refine one_new fun b2 w3 lb2 hb2 k3 => ?_
  have k13 := k1.trans k3
  have hb3 := k3.has hb (by simp)
  have hne : b ≠ b2 := by have := hb.lt; omega
  have l0b : w.heap.size ≤ b2 := by have := k1.size; omega
  clear hb k1 k3
  refine LdA_all hb3 rfl ?_
  refine ref_Find (h.keep k13) fun w4 k4 => ?_
  simp only [OpI_int]
  have k14 := k13.trans k4
  have hb4 := k4.has hb3 (by simp)
  have hb24 := k4.has hb2 (by simp)
  have hs4 := hs.keepB k14 (by simp)
  cases hi : idxR rs lba with
  | some i =>
    rw [hi] at hK
    obtain ⟨r, hir, hrl⟩ := idx_some hi
    have hil := (List.getElem?_eq_some_iff.1 hir).1
    have hgd : rs.getD i default = r := by simp [List.getD, hir]
    simp only [hgd] at hK
    have e1 : decide (idxI (some i) < 0) = false := decide_eq_false (by show ¬ (i : Int) < 0; omega)
    rw [e1, Cb_false]
    have g : rs[(idxI (some i)).toNat]? = some r := by simpa [idxI] using hir
    intro d
    have kd := Keep.drew (fun _ => False) w4 d
    have hs5 := hs4.keepB kd (by simp)
    obtain ⟨bb, oo, hpp, hcc⟩ := hs5.sl.2 _ r g
    refine ⟨fun w' => Has w' b (.cells (rcaV room p l c) 57 (0, 0)) ∧ w'.cell? ⟨bb, oo + (idxI (some i)).toNat * 19 + 1, none⟩ = some (.int .u64 r.ver), ⟨hb4, hcc 1 (by decide)⟩, ?_⟩
    refine LdV_has (v := .slice p l c) (hb4.dr d) rfl ?_
    simp only [OpS_slice]
    have hin : (idxI (some i)) < (l : Int) := by simp [idxI]; omega
    refine ⟨bb, oo, hpp, by simp [idxI], hin, secV r.data, rfl, ?_, ?_⟩
    · rintro w' ⟨d2, rfl⟩ j hj
      have := hcc (3 + j) (by show 3 + j < 19; omega)
      rw [show oo + (idxI (some i)).toNat * 19 + 3 + j = oo + (idxI (some i)).toNat * recLay.size + (3 + j) by show _ = oo + _ * 19 + (3 + j); omega]
      rw [show ((w4.dr d).dr d2).cell? ⟨bb, oo + (idxI (some i)).toNat * recLay.size + (3 + j), none⟩ = (w4.dr d).cell? ⟨bb, oo + (idxI (some i)).toNat * recLay.size + (3 + j), none⟩ from rfl, this]
      show (recL r)[3 + j]? = (secV r.data)[j]?
      simp only [recL, secV, List.getElem?_toArray]
      rw [show 3 + j = j + 3 by omega]
      rfl
    refine LdV_of (v := .slice p l c) (fun w' hw => ⟨_, _, _, hw.1, rfl⟩) ?_
    simp only [OpS_slice]
    refine ⟨bb, oo, hpp, by simp [idxI], hin, .int .u64 r.ver, fun w' hw => hw.2, ?_⟩
    simp only [OpI_int]
    refine StA_all (hb24.dr d) rfl (by rw [zc_sec]; rfl) (one_secV _) ?_
    have k6 := Keep.one (w4.dr d) b2 (.cells (secV r.data) 31)
    refine ⟨⟨k6.has (hb4.dr d) hne, ?_⟩, ?_⟩
    · refine cell_keep k6 (hcc 1 (by decide)) fun e => ?_
      obtain ⟨cur, hcur⟩ := hs5.ty _ hpp
      have hbb := hb24.dr d
      have e' : bb = b2 := e
      subst e'
      have := hcur.inj hbb
      simp only [Obj.cells.injEq] at this
      exact absurd this.2.1 (by decide)
    · refine LdA_all ((hb24.dr d).upd_same _) rfl ?_
      simp only [Ret_nil]
      exact hK _ ((k14.dr d).trans' k6 (fun x hx e => by omega))
  | none =>
    rw [hi] at hK
    have e1 : decide (idxI none < 0) = true := rfl
    rw [e1, Cb_true]
    refine DoQ_of (fun d => bld_sec0 _) ?_
    simp only [OpA_agg]
    exact ⟨rfl, ret_put hb24 rfl (by rw [zc_sec]; rfl) (one_secV _) fun w6 k6 => hK w6 (k14.trans' k6 (fun x hx e => by omega))⟩
end calls
end Go.Proofs
