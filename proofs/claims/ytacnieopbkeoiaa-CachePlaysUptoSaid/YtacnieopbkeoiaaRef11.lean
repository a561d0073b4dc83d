/-
  The document's cache: what each of its calls answers, over its list of records.
-/
import Derived.Test.YtacnieopbkeoiaaSorted
import Derived.Test.YtacnieopbkeoiaaFRef11
namespace Go.Proofs
open Go Go.Ev Go.RowKit
set_option linter.unusedSimpArgs false
set_option linter.unusedVariables false
set_option maxRecDepth 100000

def rcaV (room : Int) (p : Option Addr) (l c : Nat) : Array Value := #[.int .i64 room, .slice p l c]
def RCa (w : World) (cs : Array Value) (room : Int) (rs : List Rec) : Prop := ∃ p l c, cs = rcaV room p l c ∧ SlT recLay w 42 p l c rs
theorem RCa.keepB {S : Nat → Prop} {w w' : World} {cs : Array Value} {room : Int} {rs : List Rec} (h : RCa w cs room rs) (hk : Keep S w w') (hS : ∀ k cur, Has w k (.cells cur 42 (0, 0)) → ¬ S k) : RCa w' cs room rs := by
  obtain ⟨p, l, c, h1, h2⟩ := h
  exact ⟨p, l, c, h1, h2.keepB hk hS⟩
theorem RCa.keep {w w' : World} {cs : Array Value} {room : Int} {rs : List Rec} (h : RCa w cs room rs) (hk : Keep (fun _ => False) w w') : RCa w' cs room rs := h.keepB hk (by simp)
theorem RCa.size {w : World} {cs : Array Value} {room : Int} {rs : List Rec} (h : RCa w cs room rs) : cs.size = 2 := by obtain ⟨p, l, c, rfl, _⟩ := h; rfl
theorem rca_one (room : Int) (p : Option Addr) (l c : Nat) : ∀ v ∈ (rcaV room p l c).toList, oneV v = true := by
  intro v hv
  simp only [rcaV, List.mem_cons, List.not_mem_nil, or_false] at hv
  rcases hv with rfl | rfl <;> rfl
theorem RCa.one {w : World} {cs : Array Value} {room : Int} {rs : List Rec} (h : RCa w cs room rs) : ∀ v ∈ cs.toList, oneV v = true := by
  obtain ⟨p, l, c, rfl, _⟩ := h
  exact rca_one _ _ _ _
theorem zc_ca : (zc Try.prog 57).size = 2 := by kernel_rfl
theorem bld_ca (room : Int) (p : Option Addr) (l c : Nat) (w : World) : (Instr.build 57 #[(0, .int .i64 room), (1, .slice p l c)]).run Try.prog w = .ok (.agg (rcaV room p l c)) w := run_build _ _ _ _ (by kernel_rfl)
theorem one_new {t : TypeId} {cs : Array Value} {w : World} {K : Nat → World → Prop}
    (hK : ∀ b w', w.heap.size ≤ b → Has w' b (.cells cs t (0, 0)) → Keep (fun _ => False) w w' → K b w') : Alc t cs w fun b w => K b w := by
  rw [Alc_iff]
  exact hK _ _ (Nat.le_refl _) (Has.new _ _) (Keep.new _ _ _)
/-- a value is copied out, and the call ends -/
theorem ret_copy {t : TypeId} {n b b1 : Nat} {cs c0 : Array Value} {w : World} {K : Array Value → World → Prop} (hb : Has w b (.cells cs t (0, 0))) (hb1 : Has w b1 (.cells c0 t (0, 0))) (hs : cs.size = n) (h0 : c0.size = n) (h1 : ∀ v ∈ cs.toList, oneV v = true)
    (hK : ∀ w', Keep (fun k => k = b1) w w' → K cs w') : Dr1 w fun w => LdA n b 0 (At w) fun cs => StA n b1 0 cs w fun w => LdA n b1 0 (At w) fun cs' => Ret [] (K cs' w) := by
  intro d _
  refine LdA_all (hb.dr d) hs ?_
  refine StA_all (hb1.dr d) hs h0 h1 ?_
  refine LdA_all ((hb1.dr d).upd_same _) hs ?_
  rw [Ret_nil]
  exact hK _ (((Keep.refl (fun k => k = b1) w).dr d).upd (fun _ => rfl) _)
/-- a value is stored, loaded again, and the call ends -/
theorem ret_put {t : TypeId} {n b1 : Nat} {cs c0 : Array Value} {w : World} {K : Array Value → World → Prop} (hb1 : Has w b1 (.cells c0 t (0, 0))) (hs : cs.size = n) (h0 : c0.size = n) (h1 : ∀ v ∈ cs.toList, oneV v = true)
    (hK : ∀ w', Keep (fun k => k = b1) w w' → K cs w') : StA n b1 0 cs w fun w => LdA n b1 0 (At w) fun cs' => Ret [] (K cs' w) := by
  refine StA_all hb1 hs h0 h1 ?_
  refine LdA_all (hb1.upd_same _) hs ?_
  rw [Ret_nil]
  exact hK _ (Keep.one w b1 _)

def idxR (rs : List Rec) (lba : Int) : Option Nat := rs.findIdx? fun r => r.lba == lba
def idxI : Option Nat → Int
  | some i => i
  | none => -1
theorem idx_some {rs : List Rec} {lba : Int} {i : Nat} (h : idxR rs lba = some i) : ∃ r, rs[i]? = some r ∧ r.lba = lba := by
  unfold idxR at h
  rw [List.findIdx?_eq_some_iff_getElem] at h
  obtain ⟨hi, h1, _⟩ := h
  exact ⟨rs[i], by simp [hi], by simpa using h1⟩
theorem idx_none {rs : List Rec} {lba : Int} (h : idxR rs lba = none) : ∀ r ∈ rs, r.lba ≠ lba := by
  unfold idxR at h
  rw [List.findIdx?_eq_none_iff] at h
  intro r hr e
  have := h r hr
  simp [e] at this
theorem idx_of {rs : List Rec} {lba : Int} {i : Nat} {r : Rec} (hi : rs[i]? = some r) (hl : r.lba = lba) (hno : ∀ j q, j < i → rs[j]? = some q → q.lba ≠ lba) : idxR rs lba = some i := by
  unfold idxR
  rw [List.findIdx?_eq_some_iff_getElem]
  obtain ⟨hlt, hge⟩ := List.getElem?_eq_some_iff.1 hi
  refine ⟨hlt, by rw [hge]; simpa using hl, fun j hj => ?_⟩
  have := hno j rs[j] hj (by simp [show j < rs.length by omega])
  simpa using this

section calls
variable {cs : Array Value} {room lba : Int} {rs : List Rec} {w : World} {R : Value → World → Prop}
theorem ref_Find (h : RCa w cs room rs) (hK : ∀ w', Keep (fun _ => False) w w' → R (.int .i64 (idxI (idxR rs lba))) w') : CallV Try.prog 44 #[.agg cs, .int .i64 lba] w R := by
  apply C_ravelinref11_Find
  unfold F_ravelinref11_Find
  obtain ⟨p, l, c, rfl, hs⟩ := h
  refine one_new fun b w1 lb hb k1 => ?_
  have hs1 := hs.keepB k1 (by simp)
  have hlen := hs.len
  have hmax : l ≤ 9223372036854775807 := by have := hs.cap; simp only [maxLen] at this; omega
  refine LoopC_of (σ := Int × Unit) (fun s w' => w' = w1 ∧ ∃ j : Nat, s.1 = j ∧ j ≤ l ∧ ∀ i q, i < j → rs[i]? = some q → q.lba ≠ lba) (fun s _ => (l - s.1).toNat) ⟨rfl, 0, rfl, by omega, fun i q hi => by omega⟩ ?_
  intro _ s w2 hI
  obtain ⟨i, u⟩ := s
  obtain ⟨rfl, j, hj, hjl, hno⟩ := hI
  simp only at hj ⊢
  subst hj
  refine LdV_has (v := .slice p l c) hb rfl ?_
  simp only [OpS_slice]
  refine Cb_of (fun hc => ?_) (fun hc => ?_)
  · have hj : j < l := by simp only [decide_eq_true_eq] at hc; omega
    have ew : IntKind.wrap .i64 ((j : Int) + 1) = ((j + 1 : Nat) : Int) := by rw [wrapI (by omega) (by omega)]; omega
    rw [ew]
    have g : rs[((j : Nat) : Int).toNat]? = some (rs[j]'(by omega)) := by rw [Int.toNat_natCast]; simp [show j < rs.length by omega]
    have g' : rs[j]? = some (rs[j]'(by omega)) := by simp [show j < rs.length by omega]
    refine LdV_has (v := .slice p l c) hb rfl ?_
    simp only [OpS_slice]
    refine hs1.ldF (t := 2) rfl (by omega) g (v := .int .i64 (rs[j]'(by omega)).lba) rfl ?_
    simp only [OpI_int]
    refine Cb_of (fun h1 => ?_) (fun h1 => ?_)
    · simp only [Ret_nil]
      have := hK w2 k1
      rw [idx_of g' (by simpa using h1) hno] at this
      exact this
    · exact ⟨_, by omega, ⟨trivial, j + 1, rfl, hj, fun i q hi hq => by
        rcases Nat.lt_succ_iff_lt_or_eq.1 hi with h | h
        · exact hno i q h hq
        · subst h; rw [g'] at hq; cases hq; simpa using h1⟩, rfl⟩
  · have hj : j = l := by simp only [decide_eq_false_iff_not] at hc; omega
    subst hj
    simp only [Ret_nil]
    have : idxR rs lba = none := by
      unfold idxR
      rw [List.findIdx?_eq_none_iff]
      intro r hr
      obtain ⟨i, hi⟩ := List.getElem?_of_mem hr
      have := hno i r (by have := (List.getElem?_eq_some_iff.1 hi).1; omega) hi
      simpa using this
    have h2 := hK w2 k1
    rw [this] at h2
    exact h2

theorem slcP_some {sz : Nat} {P : Program} {lo hi m : Nat} : True := trivial
theorem ref_without {i : Nat} (hi : i < rs.length) (hle : rs.length ≤ 1000000) (h : RCa w cs room rs) (hK : ∀ cs' w', RCa w' cs' room (rs.eraseIdx i) → Keep (fun _ => False) w w' → R (.agg cs') w') :
    CallV Try.prog 45 #[.agg cs, .int .i64 (i : Int)] w R := by
  apply C_ravelinref11_without
  unfold F_ravelinref11_without
  obtain ⟨p, l, c, rfl, hs⟩ := h
  have hlen := hs.len
  have hcap := hs.cap
  refine one_new fun b w1 lb hb k1 => ?_
  refine one_new fun b1 w2 lb1 hb1 k2 => ?_
  have k12 := k1.trans k2
  have hb2 := k2.has hb (by simp)
  have hne : b ≠ b1 := by have := hb.lt; omega
  refine ⟨_, _, bsl_none w2, ?_⟩
  simp only [OpS_slice]
  have k3 := Keep.new (fun _ => False) w2 (.cells #[] 42)
  have ho : OwnL recLay (w2.alloc (.cells #[] 42)) w2.heap.size 42 (some ⟨w2.heap.size, 0, none⟩) 0 0 [] := OwnL.new (L := recLay) (xs := []) (by simp) rfl
  have k13 := k12.trans k3
  refine LdV_has (v := .slice p l c) (k3.has hb2 (by simp)) rfl ?_
  simp only [OpS_slice]
  refine ⟨by simp, by simp, by simp; omega, by simp, ?_⟩
  simp only [Option.getD_none, Option.getD_some, Int.toNat_natCast, Int.toNat_zero, Nat.sub_zero]
  have hsub := (hs.keepB k13 (by simp)).sub (lo := 0) (hi := i) (m := c) (by omega) (by omega) (by omega) (Nat.le_refl _)
  obtain ⟨p4, c4, w4, hr4, ho4, k4⟩ := run_appendL recT ho hsub.sl (c2 := c) (ty := 37) (by omega) (by simp [maxLen]; omega) (by have := k3.size; omega)
  refine ⟨_, _, hr4, ?_⟩
  simp only [OpS_slice]
  simp only [Nat.sub_zero, Nat.zero_add, List.nil_append, List.drop_zero] at ho4 ⊢
  have k24 : Keep (fun _ => False) w2 w4 := k3.trans' k4 (fun x hx hp => by simp only [Option.some.injEq, Addr.mk.injEq] at hp; omega)
  have k14 := k12.trans k24
  have hb4 := k24.has hb2 (by simp)
  have hb14 := k24.has hb1 (by simp)
  intro d
  have kd := Keep.drew (fun _ => False) w4 d
  refine ⟨fun w' => Has w' b (.cells (rcaV room p l c) 57 (0, 0)), hb4, ?_⟩
  refine LdV_of (v := .int .i64 room) (fun w' hw => ⟨_, _, _, hw, rfl⟩) ?_
  simp only [OpI_int]
  refine LdV_of (v := .slice p l c) (fun w' hw => ⟨_, _, _, hw, rfl⟩) ?_
  simp only [OpS_slice]
  have ew : IntKind.wrap .i64 ((i : Int) + 1) = ((i + 1 : Nat) : Int) := by rw [wrapI (by omega) (by omega)]; omega
  rw [ew]
  refine ⟨by show (0 : Int) ≤ ((i + 1 : Nat) : Int); omega, by show ((i + 1 : Nat) : Int) ≤ ((l : Nat) : Int); omega, by show ((l : Nat) : Int) ≤ ((c : Nat) : Int); omega, Int.le_refl _, ?_⟩
  simp only [Option.getD_none, Option.getD_some, Int.toNat_natCast]
  have hsub2 := (hs.keepB (k14.trans kd) (by simp)).sub (lo := i + 1) (hi := l) (m := c) (by omega) (by omega) (by omega) (Nat.le_refl _)
  obtain ⟨p5, c5, w5, hr5, ho5, k5⟩ := run_appendL recT (ho4.keep kd (by simp)) hsub2.sl (c2 := c - (i + 1)) (ty := 37) (by omega) (by simp [maxLen]; omega) (by have := k24.size; simp; omega)
  refine ⟨_, _, hr5, ?_⟩
  simp only [OpS_slice]
  have nb : ∀ {k : Nat} {cs : Array Value}, Has w4 k (.cells cs 57 (0, 0)) → ¬ p4 = some ⟨k, 0, none⟩ := fun hk hp => by
    rcases Own.cases ho4 with ⟨h0, _⟩ | ⟨b'', cur, h0, _, hg, _⟩
    · rw [h0] at hp; cases hp
    · rw [h0] at hp; cases hp
      have := hg.inj hk
      simp only [Obj.cells.injEq] at this
      exact absurd this.2.1 (by decide)
  have hb5 := k5.has (hb4.dr d) (nb hb4)
  have hb15 := k5.has (hb14.dr d) (nb hb14)
  have k15 := (k14.trans kd).trans' k5 (fun x hx hp => by have := (ho4.lt hp).1; have := k12.size; omega)
  refine ⟨hb5, DoQ_of (fun d => bld_ca _ _ _ _ _) ?_⟩
  simp only [OpA_agg]
  refine ⟨rfl, ?_⟩
  have eer : rs.take i ++ (rs.take l).drop (i + 1) = rs.eraseIdx i := by rw [show rs.take l = rs from List.take_of_length_le (by omega), List.eraseIdx_eq_take_drop_succ]
  rw [eer] at ho5
  refine StA_all hb15 rfl zc_ca (rca_one _ _ _ _) ?_
  have k6 := Keep.one w5 b1 (.cells (rcaV room p5 (i + (l - (i + 1))) c5) 57)
  refine ⟨k6.has hb5 hne, ?_⟩
  refine LdA_all (hb15.upd_same _) rfl ?_
  simp only [Ret_nil]
  refine hK _ _ ⟨p5, _, c5, rfl, (SlT.of ho5).keepB k6 fun k cur hk e => ?_⟩ (k15.trans' k6 (fun x hx e => by have := k1.size; omega))
  subst e
  have := hk.inj hb15
  simp only [Obj.cells.injEq] at this
  exact absurd this.2.1 (by decide)
end calls
end Go.Proofs
