/-
  PARITY: add, sums, width, Encode.
-/
import Derived.Test.YthhimblbnnafkaaGreatConcB
import Derived.Test.YthhimblbnnafkaaGreatGfM
import Derived.Test.YthhimblbnnafkaaGreatDiskM
namespace Go.Proofs
open Go Go.Ev
set_option linter.unusedSimpArgs false
set_option linter.unusedVariables false
set_option maxRecDepth 100000

theorem get_secB (F : Sec) : ∀ {i : Nat} (h : i < 16), (secB F)[i]? = some (F ⟨i, h⟩)
  | 0, _ => rfl | 1, _ => rfl | 2, _ => rfl | 3, _ => rfl | 4, _ => rfl | 5, _ => rfl | 6, _ => rfl | 7, _ => rfl
  | 8, _ => rfl | 9, _ => rfl | 10, _ => rfl | 11, _ => rfl | 12, _ => rfl | 13, _ => rfl | 14, _ => rfl | 15, _ => rfl
  | n + 16, h => absurd h (by omega)
theorem len_secB (F : Sec) : (secB F).length = 16 := rfl
theorem secB_ext {xs : List Int} {F : Sec} (hl : xs.length = 16) (h : ∀ i (hi : i < 16), xs[i]? = some (F ⟨i, hi⟩)) : xs = secB F := by
  apply List.ext_getElem?
  intro i
  by_cases hi : i < 16
  · rw [h i hi, get_secB F hi]
  · rw [List.getElem?_eq_none (by omega), List.getElem?_eq_none (by rw [len_secB]; omega)]
theorem set_secB (F : Sec) (i : Nat) (v : Int) : (secB F).set i v = secB fun k => if k.val = i then v else F k := by
  refine secB_ext (by simp [len_secB]) fun j hj => ?_
  rw [List.getElem?_set]
  by_cases h : i = j
  · subst h
    rw [if_pos rfl, if_pos (by rw [len_secB]; exact hj)]
    simp
  · rw [if_neg h, get_secB F hj]
    simp only
    rw [if_neg (fun e => h e.symm)]

/-! ### plain -/
def xadd (g : Nat) (f y : Sec) : Sec := fun k => (((f k).toNat ^^^ gmN g (y k).toNat : Nat) : Int)
def xaddO (g : Nat) (f : Sec) : Option Sec → Sec
  | none => f
  | some y => xadd g f y
theorem nat_of {x : Int} (h : 0 ≤ x ∧ x ≤ 255) : x = ((x.toNat : Nat) : Int) ∧ x.toNat < 256 := by omega
theorem xadd_ok {g : Nat} {f y : Sec} (hg : g < 256) (hf : SecOk f) (hy : SecOk y) : SecOk (xadd g f y) := fun k => by
  have h1 := nat_of (hf k)
  have := xor_lt8 h1.2 (gmN_lt (b := (y k).toNat) hg)
  unfold xadd
  omega
def ColOk : Option Sec → Prop
  | none => True
  | some y => SecOk y
theorem xaddO_ok {g : Nat} {f : Sec} {C : Option Sec} (hg : g < 256) (hf : SecOk f) (hc : ColOk C) : SecOk (xaddO g f C) := by
  cases C with
  | none => exact hf
  | some y => exact xadd_ok hg hf hc
/-- the sum of the first k columns, each times its factor -/
def sumI (co : Nat → Nat) (Cs : List (Option Sec)) : Nat → Sec
  | 0 => sec []
  | k + 1 => xaddO (co k) (sumI co Cs k) (Cs.getD k none)
def sumP (Cs : List (Option Sec)) : Sec := sumI (fun _ => 1) Cs Cs.length
def sumQ (Cs : List (Option Sec)) : Sec := sumI expN Cs Cs.length
theorem sec0_ok : SecOk (sec []) := sec_ok (by simp)
theorem sumI_ok {co : Nat → Nat} {Cs : List (Option Sec)} (hco : ∀ i, co i < 256) (hc : ∀ C ∈ Cs, ColOk C) : ∀ k, SecOk (sumI co Cs k)
  | 0 => sec0_ok
  | k + 1 => xaddO_ok (hco k) (sumI_ok hco hc k) (by
      by_cases h : k < Cs.length
      · rw [List.getD_eq_getElem?_getD, List.getElem?_eq_getElem h]; exact hc _ (List.getElem_mem _)
      · rw [List.getD_eq_getElem?_getD, List.getElem?_eq_none (by omega)]; exact True.intro)
theorem expN_lt (i : Nat) : expN i < 256 := powN_lt (by omega)
def lostN (Cs : List (Option Sec)) : Nat := (Cs.filter Option.isNone).length
theorem lostN_append (a b : List (Option Sec)) : lostN (a ++ b) = lostN a + lostN b := by unfold lostN; rw [List.filter_append, List.length_append]
theorem lostN_le (Cs : List (Option Sec)) : lostN Cs ≤ Cs.length := List.length_filter_le _ _

theorem ColAt.keepB {w w' : World} {S : Nat → Prop} {h : Option Addr × Nat × Nat} : ∀ {C : Option Sec}, ColAt w h C → Keep S w w' → (∀ k, k < w.heap.size → ¬ S k) → ColAt w' h C
  | none, hc, _, _ => hc
  | some f, ⟨h1, h2, h3, h4⟩, k, hS => ⟨h1, h2, h3, h4.keepB k hS⟩
theorem SlL.blk_lt {α : Type} {L : Lay α} {w : World} {b o l : Nat} {xs : List α} (h : SlL L w (some ⟨b, o, none⟩) l xs) (h0 : 0 < l) : b < w.heap.size := by
  obtain ⟨b', o', hp, hc⟩ := h.2 0 (xs[0]'(by have := h.1; omega)) (List.getElem?_eq_getElem _)
  cases hp
  have := hc 0 L.pos
  refine Classical.byContradiction fun hn => ?_
  have hnone : w.heap[b]? = none := Array.getElem?_eq_none (by omega)
  unfold World.cell? at this
  have hs : ∃ v, (L.row (xs[0]'(by have := h.1; omega)))[0]? = some v := ⟨_, List.getElem?_eq_getElem (by rw [L.len]; exact L.pos)⟩
  obtain ⟨v, hv⟩ := hs
  simp_all
/-- the columns, as they lie in memory -/
structure Cols (w : World) (p : Option Addr) (l : Nat) (hs : List (Option Addr × Nat × Nat)) (Cs : List (Option Sec)) : Prop where
  sl : SlL hLay w p l hs
  len : hs.length = Cs.length
  at_ : ∀ (i : Nat) h C, hs[i]? = some h → Cs[i]? = some C → ColAt w h C
  ok : ∀ C ∈ Cs, ColOk C
theorem Cols.keepB {w w' : World} {S : Nat → Prop} {p : Option Addr} {l : Nat} {hs : List (Option Addr × Nat × Nat)} {Cs : List (Option Sec)} (h : Cols w p l hs Cs) (k : Keep S w w') (hS : ∀ k, k < w.heap.size → ¬ S k) : Cols w' p l hs Cs :=
  ⟨h.sl.keepB k hS, h.len, fun i hh C h1 h2 => (h.at_ i hh C h1 h2).keepB k hS, h.ok⟩
section calls
variable {w : World} {R : Value → World → Prop}
theorem p_add {base b c : Nat} {e : TypeId} {f : Sec} {g : Nat} {h : Option Addr × Nat × Nat} {C : Option Sec} (ho : OwnL byLay w base e (some ⟨b, 0, none⟩) 16 c (secB f)) (hf : SecOk f) (hc : ColAt w h C) (hok : ColOk C) (hg : g < 256) (hne : ∀ b' o, h.1 = some ⟨b', o, none⟩ → b' ≠ b)
    (hK : ∀ w', OwnL byLay w' base e (some ⟨b, 0, none⟩) 16 c (secB (xaddO g f C)) → Keep (fun k => k = b) w w' → R (.tuple #[]) w') :
    CallV Tryz.prog 183 #[.slice (some ⟨b, 0, none⟩) 16 c, .slice h.1 h.2.1 h.2.2, .int .u8 (g : Int)] w R := by
  apply C_parity_add
  unfold F_parity_add
  cases C with
  | none =>
    have hc : h = (none, 0, 0) := hc
    subst hc
    refine LoopC_of (σ := Int × Unit) (fun st w' => st.1 = 0 ∧ w' = w) (fun _ _ => 0) ⟨rfl, rfl⟩ ?_
    rintro _ ⟨i, u⟩ w1 ⟨hi, hw⟩
    simp only at hi ⊢
    subst hi
    rw [hw]
    exact (Cb_false (p := _)).2 (Ret_nil.2 (hK w ho (Keep.refl _ _)))
  | some y =>
    obtain ⟨⟨cb, co, hp⟩, hl, hcap, hs⟩ := hc
    obtain ⟨hp0, hl0, hc0⟩ := h
    simp only at hp hl hcap hs hne
    subst hp hl
    have hcb := hne cb co rfl
    have hy : SecOk y := hok
    refine LoopC_of (σ := Int × Unit) (fun st w' => ∃ i : Nat, st.1 = (i : Int) ∧ i ≤ 16 ∧ OwnL byLay w' base e (some ⟨b, 0, none⟩) 16 c (secB fun k => if k.val < i then xadd g f y k else f k) ∧ Keep (fun k => k = b) w w') (fun st _ => (16 - st.1).toNat)
      ⟨0, rfl, by omega, by simpa using ho, Keep.refl _ _⟩ ?_
    rintro _ ⟨i, u⟩ w1 ⟨i', hi, hil, o1, k1⟩
    simp only at hi ⊢
    subst hi
    refine Cb_of (fun hc => ?_) (fun hc => ?_)
    · have hc : i' < 16 := by
        have : (i' : Int) < ((16 : Nat) : Int) := by simpa using hc
        omega
      have s1 : SlL byLay w1 (some ⟨cb, co, none⟩) 16 (secB y) := hs.keep k1 fun b' o' hp => by cases hp; exact hcb
      refine s1.ld0 (i := (i' : Int)) (n := 1) (x := y ⟨i', hc⟩) (v := .int .u8 (y ⟨i', hc⟩)) rfl (by omega) (by rw [Int.toNat_natCast]; exact get_secB y hc) rfl (OpI_int.2 ?_)
      intro d _
      have kd := Keep.drew (fun _ => False) w1 d
      have o1d := o1.keep kd (by simp)
      have hget := get_secB (fun k => if k.val < i' then xadd g f y k else f k) hc
      simp only [Nat.lt_irrefl, if_false] at hget
      refine o1d.ld0 (i := (i' : Int)) (n := 1) (x := f ⟨i', hc⟩) (v := .int .u8 (f ⟨i', hc⟩)) rfl (by omega) (by rw [Int.toNat_natCast]; exact hget) rfl (OpI_int.2 ?_)
      have ny := nat_of (hy ⟨i', hc⟩)
      have nf := nat_of (hf ⟨i', hc⟩)
      have eM : CallS Tryz.prog 238 #[.int .u8 (g : Int), .int .u8 (y ⟨i', hc⟩)] (w1.dr d) = CallS Tryz.prog 238 #[.int .u8 (g : Int), .int .u8 (((y ⟨i', hc⟩).toNat : Nat) : Int)] (w1.dr d) := by rw [← ny.1]
      rw [eM]
      refine CallS_of (V := .int .u8 ((gmN g (y ⟨i', hc⟩).toNat : Nat) : Int)) (g_Mul hg ny.2 ⟨rfl, rfl⟩) ?_
      refine OpI_int.2 ?_
      have ex : ibits .xor .u8 (f ⟨i', hc⟩) ((gmN g (y ⟨i', hc⟩).toNat : Nat) : Int) = xadd g f y ⟨i', hc⟩ := by
        have := xor_u8 nf.2 (gmN_lt (b := (y ⟨i', hc⟩).toNat) hg)
        rw [← nf.1] at this
        exact this
      rw [ex]
      refine o1d.stF (i := (i' : Int)) (n := 1) (t := 0) (x := f ⟨i', hc⟩) (y := xadd g f y ⟨i', hc⟩) rfl (by omega) (by rw [Int.toNat_natCast]; exact hget) (by omega) rfl rfl fun w2 o2 k2 z2 => ?_
      rw [Int.toNat_natCast, set_secB] at o2
      have e5 : (fun k : Fin 16 => if k.val = i' then xadd g f y ⟨i', hc⟩ else if k.val < i' then xadd g f y k else f k) = fun k => if k.val < i' + 1 then xadd g f y k else f k := by
        funext k
        by_cases h1 : k.val = i'
        · rw [if_pos h1, if_pos (by omega)]
          have : k = ⟨i', hc⟩ := Fin.ext h1
          rw [this]
        · rw [if_neg h1]
          by_cases h2 : k.val < i'
          · rw [if_pos h2, if_pos (by omega)]
          · rw [if_neg h2, if_neg (by omega)]
      rw [e5] at o2
      have e3 : IntKind.wrap .i64 ((i' : Int) + 1) = ((i' + 1 : Nat) : Int) := by rw [wrapI (by omega) (by omega)]; omega
      refine ⟨_, by show (16 - IntKind.wrap .i64 ((i' : Int) + 1)).toNat < (16 - (i' : Int)).toNat; rw [e3]; omega, ⟨i' + 1, e3, by omega, o2, (k1.dr d).trans (k2.mono fun k hk => ?_)⟩, rfl⟩
      injection hk with hk
      injection hk with hk
      exact hk.symm
    · have hc : i' = 16 := by
        have : ¬ (i' : Int) < ((16 : Nat) : Int) := by simpa using hc
        omega
      subst hc
      have e : (fun k : Fin 16 => if k.val < 16 then xadd g f y k else f k) = xadd g f y := by
        funext k
        rw [if_pos k.isLt]
      rw [e] at o1
      exact Ret_nil.2 (hK w1 o1 k1)
theorem run_mk16 (w : World) : ∃ w', (Instr.makeSlice 22 (.int .i64 16) (.int .i64 16)).run Tryz.prog w = .ok (.slice (some ⟨w.heap.size, 0, none⟩) 16 16) w' ∧ OwnL byLay w' w.heap.size 5 (some ⟨w.heap.size, 0, none⟩) 16 16 (secB (sec [])) ∧ Keep (fun _ => False) w w' ∧ w'.heap.size = w.heap.size + 1 :=
  run_makeL (P := Tryz.prog) (L := byLay) (x0 := 0) (t := 22) (e := 5) (i := (Tryz.prog.info? 5).get (by kernel_rfl)) (z := ((Tryz.prog.info? 5).get (by kernel_rfl)).zero.get (by kernel_rfl)) w (by kernel_rfl) (by kernel_rfl) (by kernel_rfl) (by kernel_rfl) (by kernel_rfl) 16 (by decide) (by rw [show ((Tryz.prog.info? 5).get (by kernel_rfl)).bytes = 1 by kernel_rfl]; decide) (by decide)
/-- the sums' loop, as it is printed -/
def SumT (colsp : Option Addr) (colsl : Nat) (p : Option Addr) (l c : Nat) (p1 : Option Addr) (l1 c1 : Nat) (w : World) (R : Value → World → Prop) : Prop :=
  LoopC (σ := Int × Unit) (fun _ s1 w K1 => Cb (decide (s1.1 < ((colsl : Nat) : Int))) (IdxS colsp colsl s1.1
  1 fun b o => LdV b o (At w) fun v2 => OpS v2 fun p2 l2 c2 => CallV Tryz.prog 183 #[.slice p l c, .slice p2 l2 c2, .int .u8 1] w fun v3 w => CallV Tryz.prog 185 #[.int .i64
  s1.1] w fun v4 w => OpI .u8 v4 fun n1 => CallV Tryz.prog 183 #[.slice p1 l1 c1, .slice p2 l2 c2, .int .u8 n1] w fun v5 w => K1 (IntKind.wrap .i64 (s1.1 + 1), ()) w) (Ret []
  (R (.tuple #[.slice p l c, .slice p1 l1 c1]) w))) (0, ()) w
theorem sumT {w0 : World} {colsp : Option Addr} {colsl bp bq : Nat} {hs : List (Option Addr × Nat × Nat)} {Cs : List (Option Sec)} (hc : Cols w0 colsp colsl hs Cs) (hl : colsl ≤ 200) (k0 : Keep (fun _ => False) w0 w) (hbp : w0.heap.size ≤ bp) (hbq : w0.heap.size ≤ bq) (hne : bp ≠ bq)
    (hp : OwnL byLay w w0.heap.size 5 (some ⟨bp, 0, none⟩) 16 16 (secB (sec []))) (hq : OwnL byLay w w0.heap.size 5 (some ⟨bq, 0, none⟩) 16 16 (secB (sec [])))
    (hK : ∀ w', OwnL byLay w' w0.heap.size 5 (some ⟨bp, 0, none⟩) 16 16 (secB (sumP Cs)) → OwnL byLay w' w0.heap.size 5 (some ⟨bq, 0, none⟩) 16 16 (secB (sumQ Cs)) → Keep (fun _ => False) w0 w' → R (.tuple #[.slice (some ⟨bp, 0, none⟩) 16 16, .slice (some ⟨bq, 0, none⟩) 16 16]) w') :
    SumT colsp colsl (some ⟨bp, 0, none⟩) 16 16 (some ⟨bq, 0, none⟩) 16 16 w R := by
  unfold SumT
  have hlen := hc.sl.1
  have hlc := hc.len
  refine LoopC_of (σ := Int × Unit) (fun st w' => ∃ i : Nat, st.1 = (i : Int) ∧ i ≤ colsl ∧ OwnL byLay w' w0.heap.size 5 (some ⟨bp, 0, none⟩) 16 16 (secB (sumI (fun _ => 1) Cs i)) ∧ OwnL byLay w' w0.heap.size 5 (some ⟨bq, 0, none⟩) 16 16 (secB (sumI expN Cs i)) ∧ Keep (fun _ => False) w0 w') (fun st _ => (colsl - st.1).toNat)
    ⟨0, rfl, by omega, hp, hq, k0⟩ ?_
  rintro _ ⟨i, u⟩ w1 ⟨i', hi, hil, o1, o2, k1⟩
  simp only at hi ⊢
  subst hi
  refine Cb_of (fun hcc => ?_) (fun hcc => ?_)
  · have hcc : i' < colsl := by
      have : (i' : Int) < (colsl : Int) := by simpa using hcc
      omega
    obtain ⟨h, hh⟩ : ∃ h, hs[i']? = some h := ⟨_, List.getElem?_eq_getElem (by omega)⟩
    obtain ⟨C, hC⟩ : ∃ C, Cs[i']? = some C := ⟨_, List.getElem?_eq_getElem (by omega)⟩
    have hcat := hc.at_ i' h C hh hC
    have hcok := hc.ok C (List.mem_of_getElem? hC)
    have hblk : ∀ b' o, h.1 = some ⟨b', o, none⟩ → b' < w0.heap.size := by
      intro b' o hp
      cases C with
      | none =>
        have : h = (none, 0, 0) := hcat
        rw [this] at hp
        cases hp
      | some f =>
        obtain ⟨_, _, _, hs4⟩ := hcat
        rw [hp] at hs4
        exact SlL.blk_lt hs4 (by omega)
    have hg : Cs.getD i' none = C := by rw [List.getD_eq_getElem?_getD, hC]; rfl
    refine (hc.sl.keepB k1 (by simp)).ld0 (i := (i' : Int)) (n := 1) (x := h) (v := .slice h.1 h.2.1 h.2.2) rfl (by omega) (by simpa using hh) rfl (OpS_slice.2 ?_)
    refine p_add (g := 1) o1 (sumI_ok (fun _ => by omega) hc.ok i') (hcat.keepB k1 (by simp)) hcok (by omega) (fun b' o hp => by have := hblk b' o hp; omega) fun w2 o3 k2 => ?_
    refine g_Exp (by omega) (OpI_int.2 ?_)
    have k02 : Keep (fun _ => False) w0 w2 := k1.trans' k2 fun k hk e => by omega
    have o2' : OwnL byLay w2 w0.heap.size 5 (some ⟨bq, 0, none⟩) 16 16 (secB (sumI expN Cs i')) := o2.keep k2 fun k hk e => by
      injection hk with hk
      injection hk with hk
      omega
    refine p_add (g := expN i') o2' (sumI_ok expN_lt hc.ok i') (hcat.keepB k02 (by simp)) hcok (expN_lt i') (fun b' o hp => by have := hblk b' o hp; omega) fun w3 o4 k3 => ?_
    have o3' : OwnL byLay w3 w0.heap.size 5 (some ⟨bp, 0, none⟩) 16 16 (secB (xaddO 1 (sumI (fun _ => 1) Cs i') C)) := o3.keep k3 fun k hk e => by
      injection hk with hk
      injection hk with hk
      omega
    have e3 : IntKind.wrap .i64 ((i' : Int) + 1) = ((i' + 1 : Nat) : Int) := by rw [wrapI (by omega) (by omega)]; omega
    refine ⟨_, by show ((colsl : Int) - IntKind.wrap .i64 ((i' : Int) + 1)).toNat < ((colsl : Int) - (i' : Int)).toNat; rw [e3]; omega, ⟨i' + 1, e3, by omega, ?_, ?_, k02.trans' k3 fun k hk e => by omega⟩, rfl⟩
    · show OwnL byLay w3 _ _ _ 16 16 (secB (xaddO 1 (sumI (fun _ => 1) Cs i') (Cs.getD i' none)))
      rw [hg]; exact o3'
    · show OwnL byLay w3 _ _ _ 16 16 (secB (xaddO (expN i') (sumI expN Cs i') (Cs.getD i' none)))
      rw [hg]; exact o4
  · have hcc : i' = colsl := by
      have : ¬ (i' : Int) < (colsl : Int) := by simpa using hcc
      omega
    have e : i' = Cs.length := by omega
    rw [e] at o1 o2
    exact Ret_nil.2 (hK w1 o1 o2 k1)
theorem p_sums {colsp : Option Addr} {colsl colsc : Nat} {hs : List (Option Addr × Nat × Nat)} {Cs : List (Option Sec)} (hc : Cols w colsp colsl hs Cs) (hl : colsl ≤ 200)
    (hK : ∀ bp bq w', bp ≠ bq → w.heap.size ≤ bp → w.heap.size ≤ bq → OwnL byLay w' w.heap.size 5 (some ⟨bp, 0, none⟩) 16 16 (secB (sumP Cs)) → OwnL byLay w' w.heap.size 5 (some ⟨bq, 0, none⟩) 16 16 (secB (sumQ Cs)) → Keep (fun _ => False) w w' → R (.tuple #[.slice (some ⟨bp, 0, none⟩) 16 16, .slice (some ⟨bq, 0, none⟩) 16 16]) w') :
    CallV Tryz.prog 182 #[.slice colsp colsl colsc, .int .i64 16] w R := by
  apply C_parity_sums
  unfold F_parity_sums
  intro d
  have kd := Keep.drew (fun _ => False) w d
  refine ⟨fun _ => True, trivial, ?_, ?_⟩
  · obtain ⟨w1, hr1, o1, k1, z1⟩ := run_mk16 (w.dr d)
    refine ⟨_, _, hr1, OpS_slice.2 ⟨trivial, ?_⟩⟩
    obtain ⟨w2, hr2, o2, k2, z2⟩ := run_mk16 w1
    refine ⟨_, _, hr2, OpS_slice.2 ⟨trivial, ?_⟩⟩
    have z1 : w1.heap.size = w.heap.size + 1 := z1
    have e0 : (w.dr d).heap.size = w.heap.size := rfl
    rw [e0] at o1
    exact sumT hc hl ((kd.trans k1).trans k2) (by rw [e0]; omega) (by omega) (by rw [e0]; omega) (o1.keep k2 (by simp)) (o2.rebase (by omega)) fun w3 o3 o4 k3 => hK _ _ w3 (by rw [e0]; omega) (by rw [e0]; omega) (by omega) o3 o4 k3
  · obtain ⟨w1, hr1, o1, k1, z1⟩ := run_mk16 (w.dr d)
    refine ⟨_, _, hr1, OpS_slice.2 ⟨trivial, ?_⟩⟩
    obtain ⟨w2, hr2, o2, k2, z2⟩ := run_mk16 w1
    refine ⟨_, _, hr2, OpS_slice.2 ⟨trivial, ?_⟩⟩
    have z1 : w1.heap.size = w.heap.size + 1 := z1
    have e0 : (w.dr d).heap.size = w.heap.size := rfl
    rw [e0] at o1
    exact sumT hc hl ((kd.trans k1).trans k2) (by omega) (by rw [e0]; omega) (by rw [e0]; omega) (o2.rebase (by omega)) (o1.keep k2 (by simp)) fun w3 o3 o4 k3 => hK _ _ w3 (by rw [e0]; omega) (by omega) (by rw [e0]; omega) o3 o4 k3
theorem p_width {colsp mp : Option Addr} {colsl colsc ml mc : Nat} {hs hs2 : List (Option Addr × Nat × Nat)} {Cs Ms : List (Option Sec)} (hc : Cols w colsp colsl hs Cs) (hm : Cols w mp ml hs2 Ms) (h1 : 1 ≤ colsl) (h2 : colsl ≤ 30) (hml : ml ≤ 10) (hsome : ∃ f, some f ∈ Cs ++ Ms)
    (hK : ∀ w', Keep (fun _ => False) w w' → R (.tuple #[.int .i64 16, .int .i64 ((lostN (Cs ++ Ms) : Nat) : Int)]) w') :
    CallV Tryz.prog 180 #[.slice colsp colsl colsc, .slice mp ml mc] w R := by
  apply C_parity_width
  unfold F_parity_width
  rw [decide_eq_false (show ¬ ((colsl : Nat) : Int) < 1 by omega)]
  refine (Cb_false (p := _)).2 ?_
  rw [decide_eq_false (show ¬ ((colsl : Nat) : Int) > 30 by omega)]
  refine (Cb_false (p := _)).2 ?_
  refine ⟨_, _, bsl_hh2 _ _ _ _ _ _ w, OpS_slice.2 ?_⟩
  have k1 := Keep.new (fun _ => False) w (.cells #[.slice colsp colsl colsc, .slice mp ml mc] 187)
  have hb1 := Has.new w (.cells #[.slice colsp colsl colsc, .slice mp ml mc] 187)
  generalize w.alloc (.cells #[.slice colsp colsl colsc, .slice mp ml mc] 187) = w1 at *
  have hc1 := hc.keepB k1 (by simp)
  have hm1 := hm.keepB k1 (by simp)
  refine concatB hb1 hc1.sl hm1.sl (by omega) (by omega) fun p c w2 o2 k2 => ?_
  refine OpS_slice.2 ?_
  have k02 := k1.trans k2
  have e1 := hc.sl.1
  have e2 := hm.sl.1
  have e3 := hc.len
  have e4 := hm.len
  -- both lists as one
  have hat : ∀ (i : Nat) h C, (hs ++ hs2)[i]? = some h → (Cs ++ Ms)[i]? = some C → ColAt w2 h C := by
    intro i h C hh hC
    by_cases hi : i < hs.length
    · rw [List.getElem?_append_left hi] at hh
      rw [List.getElem?_append_left (by omega)] at hC
      exact (hc.at_ i h C hh hC).keep k02
    · rw [List.getElem?_append_right (by omega)] at hh
      rw [List.getElem?_append_right (by omega), ← e3] at hC
      exact (hm.at_ _ h C hh hC).keep k02
  have hll : (hs ++ hs2).length = (Cs ++ Ms).length := by simp [e3, e4]
  have hl200 : (hs ++ hs2).length ≤ 200 := by rw [List.length_append]; omega
  generalize hs ++ hs2 = H at *
  generalize Cs ++ Ms = Z at *
  have tk : ∀ {k : Nat} {C : Option Sec}, Z[k]? = some C → Z.take (k + 1) = Z.take k ++ [C] := fun h => by rw [List.take_add_one, h]; rfl
  refine LoopC_of (σ := Int × Int × Int × Unit) (fun st w' => w' = w2 ∧ ∃ i : Nat, st.2.2.1 = (i : Int) ∧ i ≤ H.length ∧ st.2.1 = ((lostN (Z.take i) : Nat) : Int) ∧ ((st.1 = 16 ∧ ∃ f, some f ∈ Z.take i) ∨ (st.1 = 0 ∧ ∀ f, some f ∉ Z.take i))) (fun st _ => (H.length - st.2.2.1).toNat)
    ⟨rfl, 0, rfl, by omega, rfl, Or.inr ⟨rfl, by simp⟩⟩ ?_
  rintro _ ⟨n, lo, i, u⟩ w3 ⟨hw, i', hi, hil, hlo, hn⟩
  simp only at hi hlo hn ⊢
  subst hi hlo
  rw [hw]
  clear hw
  refine Cb_of (fun hcc => ?_) (fun hcc => ?_)
  · have hcc : i' < H.length := by
      have : (i' : Int) < (H.length : Int) := by simpa using hcc
      omega
    obtain ⟨h, hh⟩ : ∃ h, H[i']? = some h := ⟨_, List.getElem?_eq_getElem hcc⟩
    obtain ⟨C, hC⟩ : ∃ C, Z[i']? = some C := ⟨_, List.getElem?_eq_getElem (by omega)⟩
    have hcat := hat i' h C hh hC
    have hlt := lostN_le (Z.take i')
    rw [List.length_take] at hlt
    have e5 : IntKind.wrap .i64 ((i' : Int) + 1) = ((i' + 1 : Nat) : Int) := by rw [wrapI (by omega) (by omega)]; omega
    have hmu : ((H.length : Int) - IntKind.wrap .i64 ((i' : Int) + 1)).toNat < ((H.length : Int) - (i' : Int)).toNat := by rw [e5]; omega
    refine o2.ld0 (i := (i' : Int)) (n := 1) (x := h) (v := .slice h.1 h.2.1 h.2.2) rfl (by omega) (by simpa using hh) rfl (OpS_slice.2 ?_)
    have htk := tk hC
    cases C with
    | none =>
      have hcat : h = (none, 0, 0) := hcat
      subst hcat
      refine (Cb_true (q := _)).2 ?_
      have e6 : IntKind.wrap .i64 (((lostN (Z.take i') : Nat) : Int) + 1) = ((lostN (Z.take (i' + 1)) : Nat) : Int) := by
        rw [wrapI (by omega) (by omega), htk, lostN_append]
        show _ = ((lostN (Z.take i') + 1 : Nat) : Int)
        omega
      refine ⟨_, hmu, ⟨by trivial, i' + 1, e5, by omega, e6, ?_⟩, rfl⟩
      rcases hn with ⟨h1, f, h2⟩ | ⟨h1, h2⟩
      · exact Or.inl ⟨h1, f, by rw [htk]; simp [h2]⟩
      · exact Or.inr ⟨h1, fun f hf => by rw [htk] at hf; simp at hf; exact h2 f hf⟩
    | some f =>
      obtain ⟨_, hl16, _, _⟩ := hcat
      rw [hl16]
      refine (Cb_false (p := _)).2 ?_
      have e6 : ((lostN (Z.take i') : Nat) : Int) = ((lostN (Z.take (i' + 1)) : Nat) : Int) := by
        rw [htk, lostN_append]
        show _ = ((lostN (Z.take i') + 0 : Nat) : Int)
        rfl
      rcases hn with ⟨h1, f', h2⟩ | ⟨h1, h2⟩
      · subst h1
        refine (Cb_false (p := _)).2 ((Cb_false (p := _)).2 ?_)
        exact ⟨_, hmu, ⟨by trivial, i' + 1, e5, by omega, e6, Or.inl ⟨rfl, f, by rw [htk]; simp⟩⟩, rfl⟩
      · subst h1
        refine (Cb_true (q := _)).2 ?_
        exact ⟨_, hmu, ⟨by trivial, i' + 1, e5, by omega, e6, Or.inl ⟨rfl, f, by rw [htk]; simp⟩⟩, rfl⟩
  · have hcc : i' = H.length := by
      have : ¬ (i' : Int) < (H.length : Int) := by simpa using hcc
      omega
    subst hcc
    have e7 : Z.take H.length = Z := List.take_of_length_le (by omega)
    rw [e7] at hn ⊢
    rcases hn with ⟨h1, _⟩ | ⟨_, h2⟩
    · subst h1
      exact (Cb_false (p := _)).2 (Ret_nil.2 (hK w2 k02))
    · obtain ⟨f, hf⟩ := hsome
      exact absurd hf (h2 f)
theorem p_Encode {colsp : Option Addr} {colsl colsc : Nat} {hs : List (Option Addr × Nat × Nat)} {Cs : List (Option Sec)} (hc : Cols w colsp colsl hs Cs) (h1 : 1 ≤ colsl) (h2 : colsl ≤ 30) (hall : lostN Cs = 0)
    (hK : ∀ bp bq w', bp ≠ bq → w.heap.size ≤ bp → w.heap.size ≤ bq → OwnL byLay w' w.heap.size 5 (some ⟨bp, 0, none⟩) 16 16 (secB (sumP Cs)) → OwnL byLay w' w.heap.size 5 (some ⟨bq, 0, none⟩) 16 16 (secB (sumQ Cs)) → Keep (fun _ => False) w w' → R (.tuple #[.slice (some ⟨bp, 0, none⟩) 16 16, .slice (some ⟨bq, 0, none⟩) 16 16, .int .i64 0]) w') :
    CallV Tryz.prog 115 #[.slice colsp colsl colsc] w R := by
  apply C_parity_Encode
  unfold F_parity_Encode
  have hll := hc.sl.1
  have hlc := hc.len
  have hsome : ∃ f, some f ∈ Cs ++ [] := by
    have h0 : 0 < Cs.length := by omega
    rw [List.append_nil]
    cases hC : Cs[0] with
    | some f => exact ⟨f, by rw [← hC]; exact List.getElem_mem _⟩
    | none =>
      have : none ∈ Cs.filter Option.isNone := List.mem_filter.2 ⟨by rw [← hC]; exact List.getElem_mem _, rfl⟩
      have h3 : 0 < (Cs.filter Option.isNone).length := List.length_pos_of_mem this
      unfold lostN at hall
      omega
  refine p_width (mp := none) (ml := 0) (mc := 0) (hs2 := []) (Ms := []) hc ⟨SlL.nil, rfl, by simp, by simp⟩ h1 h2 (by omega) hsome fun w1 k1 => ?_
  rw [List.append_nil, hall]
  refine T2_mk.2 (OpI_int.2 (OpI_int.2 ⟨rfl, rfl, (Cb_false (p := _)).2 ?_⟩))
  refine p_sums (hc.keepB k1 (by simp)) (by omega) fun bp bq w2 hne hbp hbq o1 o2 k2 => ?_
  refine T2_mk.2 (OpS_slice.2 (OpS_slice.2 (Ret_nil.2 ?_)))
  have := k1.size
  exact hK bp bq w2 hne (by omega) (by omega) (o1.rebase this) (o2.rebase this) (k1.trans k2)
end calls
end Go.Proofs
