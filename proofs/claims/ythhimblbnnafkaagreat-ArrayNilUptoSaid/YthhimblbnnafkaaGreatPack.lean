/-
  RECORDS AS BYTES: the sum behind them, and Pack.
-/
import Derived.Test.YthhimblbnnafkaaGreatSum
import Derived.Test.YthhimblbnnafkaaGreatRec
import Derived.Laws.CopyRow
import Derived.Laws.MakeOwn
namespace Go.Proofs
open Go Go.Ev
set_option linter.unusedSimpArgs false
set_option linter.unusedVariables false
set_option maxRecDepth 100000

def sealB (xs : List Int) : List Int := xs ++ lowB (IntKind.wrap .u64 (crcS xs)) 4
/-- a record's bytes, without their sum -/
def bareB (r : Rec) : List Int := IntKind.wrap .u8 r.kind :: (lowB r.ver 8 ++ lowB (IntKind.wrap .u64 r.lba) 8 ++ secB r.data)
def packB (r : Rec) : List Int := sealB (bareB r)
def recGood (r : Rec) : Bool := decide (1 ≤ r.kind) && decide (r.kind ≤ 6) && decide (0 ≤ r.lba) && decide (r.lba ≤ 2147483647)
@[simp] theorem len_bareB (r : Rec) : (bareB r).length = 33 := by simp [bareB, secB]
@[simp] theorem len_packB (r : Rec) : (packB r).length = 37 := by simp [packB, sealB]
section calls
variable {w : World} {base : Nat} {p : Option Addr} {l c : Nat} {xs : List Int} {R : Value → World → Prop}
theorem c_seal (ho : OwnL byLay w base 5 p l c xs) (hl : l ≤ 1000) (hb : base ≤ w.heap.size)
    (hK : ∀ p' c' w', OwnL byLay w' base 5 p' (l + 4) c' (sealB xs) → Keep (fun k => p = some ⟨k, 0, none⟩) w w' → (p' = p ∨ ∃ k, w.heap.size ≤ k ∧ p' = some ⟨k, 0, none⟩) → R (.slice p' (l + 4) c') w') : CallV Tryz.prog 264 #[.slice p l c] w R := by
  apply C_codec_seal
  unfold F_codec_seal
  refine alc_fresh fun w1 hb1 k1 z1 => ?_
  intro d
  refine ⟨fun _ => True, trivial, ?_⟩
  refine ⟨by decide, by decide, by decide, by decide, ?_⟩
  have k1d : Keep (fun _ => False) w (w1.dr d) := k1.dr d
  have o1 := ho.keep k1d (by simp)
  refine s_Crc o1.sl (by omega) ?_
  refine OpI_int.2 ⟨trivial, ?_⟩
  have z4 : (zc Tryz.prog 378) = #[.int .u8 0, .int .u8 0, .int .u8 0, .int .u8 0] := by kernel_rfl
  rw [z4] at hb1
  have of : OwnL byLay (w1.dr d) w.heap.size 378 (some ⟨w.heap.size, 0, none⟩) 4 4 [0, 0, 0, 0] := OwnL.mk (xs := [0, 0, 0, 0]) (Nat.le_refl _) (hb1.dr d) (by decide) rfl
  refine c_number (lo := 0) (hi := 4) (m := 4) of (by omega) (by omega) (by omega) (by omega) (by omega) fun w2 o2 k2 z2 => ?_
  refine ⟨trivial, ?_⟩
  refine ⟨by decide, by decide, by decide, by decide, ?_⟩
  have o2' : OwnL byLay w2 w.heap.size 378 (some ⟨w.heap.size, 0, none⟩) 4 4 (lowB (IntKind.wrap .u64 (crcS xs)) 4) := by simpa using o2
  have ho2 : OwnL byLay w2 base 5 p l c xs := o1.keep k2 fun k hk e => by
    have h1 := (ho.lt hk).2
    have h2 : w.heap.size = k := by
      injection e with e
      injection e
    omega
  have hz2 : w.heap.size ≤ w2.heap.size := by rw [z2]; show w.heap.size ≤ w1.heap.size; omega
  obtain ⟨p', c', w3, hr, o3, k3, hp⟩ := run_appendF byLayT ho2 o2'.sl (ty := 22) (c2 := 4) (by omega) (by simp only [maxLen]; omega) (Nat.le_trans hb hz2)
  refine ⟨_, _, hr, ?_⟩
  refine OpS_slice.2 (Ret_nil.2 ?_)
  refine hK p' c' w3 o3 ?_ ?_
  · have k02 : Keep (fun _ => False) w w2 := k1d.trans' k2 fun k hk e => by
      injection e with e
      injection e with e
      omega
    exact (k02.mono (by simp)).trans k3
  · rcases hp with h | h
    · exact Or.inl h
    · exact Or.inr ⟨_, hz2, h⟩
theorem run_mk33 (w : World) : (Instr.makeSlice 22 (.int .i64 33) (.int .i64 37)).run Tryz.prog w = .ok (.slice (some ⟨w.heap.size, 0, none⟩) 33 37) (w.alloc (.cells (ofF 37 fun _ => .int .u8 0) 5)) := by
  have hs : ((Tryz.prog.info? 5).get (by kernel_rfl)).size = 1 := by kernel_rfl
  have hb : ((Tryz.prog.info? 5).get (by kernel_rfl)).bytes = 1 := by kernel_rfl
  have := run_makeSlice (P := Tryz.prog) (w := w) 22 5 ((Tryz.prog.info? 5).get (by kernel_rfl)) (.int .u8 0) (by kernel_rfl) (by kernel_rfl) (by kernel_rfl) .i64 .i64 33 37 (by omega) (by omega)
    (by rw [hs]; decide) (by rw [hb]; decide) (by omega)
  have e : madeCells (Value.int .u8 0).cells ((37 : Int).toNat * ((Tryz.prog.info? 5).get (by kernel_rfl)).size) = ofF 37 fun _ => .int .u8 0 := by
    rw [hs]; exact madeCells_one _ _
  rw [e] at this
  exact this
theorem own33 (w : World) : OwnL byLay (w.alloc (.cells (ofF 37 fun _ => .int .u8 0) 5)) w.heap.size 5 (some ⟨w.heap.size, 0, none⟩) 33 37 (List.replicate 33 0) := by
  refine Own.mk (cur := ofF 37 fun _ => .int .u8 0) (Nat.le_refl _) (Has.new _ _) (by omega) (by decide) (by simp [byLay]) ?_
  rfl
theorem c_Pack {r : Rec} (hK0 : recGood r = false → ∀ w', Keep (fun _ => False) w w' → R (.tuple #[.slice none 0 0, .int .i64 2]) w')
    (hK1 : recGood r = true → ∀ g c' w', OwnL byLay w' w.heap.size 5 (some ⟨g, 0, none⟩) 37 c' (packB r) → Keep (fun _ => False) w w' → R (.tuple #[.slice (some ⟨g, 0, none⟩) 37 c', .int .i64 0]) w') :
    CallV Tryz.prog 230 #[.agg (recV r)] w R := by
  apply C_codec_Pack
  unfold F_codec_Pack
  refine alc_fresh fun w1 hb1 k1 z1 => ?_
  generalize hbn : w.heap.size = b at *
  refine LdV_has (v := .int .i64 r.kind) hb1 rfl ?_
  refine OpI_int.2 ?_
  have bad : recGood r = false → Ret [] (R (.tuple #[.slice none 0 0, .int .i64 2]) w1) := fun h => Ret_nil.2 (hK0 h w1 k1)
  refine Cb_of (fun h => bad (by unfold recGood; simp only [decide_eq_true_eq] at h; simp [show ¬ 1 ≤ r.kind by omega])) (fun h1 => ?_)
  refine LdV_has (v := .int .i64 r.kind) hb1 rfl ?_
  refine OpI_int.2 ?_
  refine Cb_of (fun h => bad (by unfold recGood; simp only [decide_eq_true_eq] at h; simp [show ¬ r.kind ≤ 6 by omega])) (fun h2 => ?_)
  refine LdV_has (v := .int .i64 r.lba) hb1 rfl ?_
  refine OpI_int.2 ?_
  refine Cb_of (fun h => bad (by unfold recGood; simp only [decide_eq_true_eq] at h; simp [show ¬ 0 ≤ r.lba by omega])) (fun h3 => ?_)
  refine LdV_has (v := .int .i64 r.lba) hb1 rfl ?_
  refine OpI_int.2 ?_
  refine Cb_of (fun h => bad (by unfold recGood; simp only [decide_eq_true_eq] at h; simp [show ¬ r.lba ≤ 2147483647 by omega])) (fun h4 => ?_)
  have hgood : recGood r = true := by
    simp only [decide_eq_false_iff_not] at h1 h2 h3 h4
    unfold recGood
    simp only [Bool.and_eq_true, decide_eq_true_eq]
    omega
  refine ⟨_, _, run_mk33 w1, ?_⟩
  refine OpS_slice.2 ?_
  have o2 := own33 w1
  have k2 : Keep (fun _ => False) w1 (w1.alloc (.cells (ofF 37 fun _ => .int .u8 0) 5)) := Keep.new _ _ _
  generalize w1.alloc (.cells (ofF 37 fun _ => .int .u8 0) 5) = w2 at *
  generalize hgn : w1.heap.size = g at *
  have hbg : b < g := by omega
  have hb2 := k2.has hb1 (by simp)
  refine LdV_has (v := .int .i64 r.kind) hb2 rfl ?_
  refine OpI_int.2 ?_
  refine o2.stF (i := 0) (n := 1) (t := 0) (x := 0) (y := IntKind.wrap .u8 r.kind) rfl (by decide) rfl (by decide) rfl rfl fun w3 o3 k3 z3 => ?_
  have e3 : (List.replicate 33 (0 : Int)).set (0 : Int).toNat (IntKind.wrap .u8 r.kind) = IntKind.wrap .u8 r.kind :: List.replicate 32 0 := rfl
  rw [e3] at o3
  have kg : ∀ {w' w'' : World}, Keep (fun k => (some ⟨g, 0, none⟩ : Option Addr) = some ⟨k, 0, none⟩) w' w'' → Keep (fun k => k = g) w' w'' := fun h => h.mono fun k hk => by
    injection hk with hk
    injection hk with hk
    exact hk.symm
  have hb3 := (kg k3).has hb2 (by omega)
  intro d
  refine ⟨fun _ => True, trivial, ?_⟩
  refine ⟨by decide, by decide, by decide, by decide, ?_⟩
  refine LdV_has (v := .int .u64 r.ver) (hb3.dr d) rfl ?_
  refine OpI_int.2 ?_
  have o3d := o3.keep (Keep.drew (fun _ => False) w3 d) (by simp)
  refine c_number (lo := 1) (hi := 9) (m := 37) o3d (by omega) (by omega) (by omega) (by omega) (by omega) fun w4 o4 k4 z4 => ?_
  refine ⟨trivial, ?_⟩
  have e4 : (IntKind.wrap .u8 r.kind :: List.replicate 32 (0 : Int)).take 1 ++ lowB r.ver (9 - 1) ++ (IntKind.wrap .u8 r.kind :: List.replicate 32 (0 : Int)).drop 9 = IntKind.wrap .u8 r.kind :: (lowB r.ver 8 ++ List.replicate 24 0) := rfl
  rw [e4] at o4
  have hb4 := (kg k4).has (hb3.dr d) (by omega)
  intro d2
  refine ⟨fun w' => Has w' b (.cells (recV r) 246 (0, 0)), hb4.dr d2, ?_⟩
  refine ⟨by decide, by decide, by decide, by decide, ?_⟩
  refine LdV_of (v := .int .i64 r.lba) (fun w' hw => ⟨_, _, _, hw, rfl⟩) ?_
  refine OpI_int.2 ?_
  have o4d := o4.keep (Keep.drew (fun _ => False) w4 d2) (by simp)
  refine c_number (lo := 9) (hi := 17) (m := 37) o4d (by omega) (by omega) (by omega) (by omega) (by omega) fun w5 o5 k5 z5 => ?_
  have hb5 := (kg k5).has (hb4.dr d2) (by omega)
  refine ⟨hb5, ?_⟩
  have e5 : (IntKind.wrap .u8 r.kind :: (lowB r.ver 8 ++ List.replicate 24 (0 : Int))).take 9 ++ lowB (IntKind.wrap .u64 r.lba) (17 - 9) ++ (IntKind.wrap .u8 r.kind :: (lowB r.ver 8 ++ List.replicate 24 (0 : Int))).drop 17 = IntKind.wrap .u8 r.kind :: (lowB r.ver 8 ++ lowB (IntKind.wrap .u64 r.lba) 8 ++ List.replicate 16 0) := rfl
  rw [e5] at o5
  intro d3 _
  refine ⟨by decide, by decide, by decide, by decide, ?_⟩
  refine ⟨by decide, by decide, by decide, by decide, ?_⟩
  have o5d := o5.keep (Keep.drew (fun _ => False) w5 d3) (by simp)
  obtain ⟨w6, hr6, o6, k6⟩ := own_copy (a := ⟨b, 3, none⟩) (ds := secB r.data) (lo := 17) (n := 16) o5d (fun j x hx => by
    rw [add_add', cell_of (hb5.dr d3)]
    have : (recV r)[3 + j]? = ((secB r.data).map fun y => Value.int .u8 y)[j]? := by
      have e : (recV r).toList.drop 3 = (secB r.data).map fun y => Value.int .u8 y := rfl
      rw [← e, List.getElem?_drop, Array.getElem?_toList]
    rw [this, List.getElem?_map, hx]; rfl) rfl (by omega) 20 16
  refine ⟨_, _, hr6, ?_⟩
  refine OpI_int.2 ?_
  have e6 : (IntKind.wrap .u8 r.kind :: (lowB r.ver 8 ++ lowB (IntKind.wrap .u64 r.lba) 8 ++ List.replicate 16 (0 : Int))).take 17 ++ secB r.data ++ (IntKind.wrap .u8 r.kind :: (lowB r.ver 8 ++ lowB (IntKind.wrap .u64 r.lba) 8 ++ List.replicate 16 (0 : Int))).drop (17 + 16) = bareB r := rfl
  rw [e6] at o6
  have s23 := k2.size
  have k26 : Keep (fun k => k = g) w2 w6 := (((((kg k3).dr d).trans (kg k4)).dr d2).trans (kg k5)).dr d3 |>.trans k6
  have hz6 := k26.size
  refine c_seal o6 (by omega) (by omega) fun p7 c7 w7 o7 k7 hp7 => ?_
  refine OpS_slice.2 (Ret_nil.2 ?_)
  have k07 : Keep (fun _ => False) w w7 := ((k1.trans k2).trans' k26 fun k hk e => by omega).trans' k7 fun k hk e => by
    injection e with e
    injection e with e
    omega
  have o7' := o7.rebase (base' := b) (by omega)
  have hpne : ∃ g', p7 = some ⟨g', 0, none⟩ := by
    rcases hp7 with h | ⟨k, _, h⟩
    · exact ⟨g, h⟩
    · exact ⟨k, h⟩
  obtain ⟨g', rfl⟩ := hpne
  exact hK1 hgood g' c7 w7 o7' k07
end calls
end Go.Proofs
