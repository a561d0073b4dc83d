import Derived.Test.YtjikegaipldnhaaRowM

/-
  A SET: Plan, the plain part.
-/
namespace Go.Proofs
open Go Go.Ev
set_option linter.unusedSimpArgs false
set_option linter.unusedVariables false
set_option maxRecDepth 100000

/-- a row with a column written, P and Q anew -/
def rowW (row : List Sec) (col : Nat) (data : Sec) : List Sec :=
  let D := ((row.set col data).take (row.length - 2)).map some
  (row.set col data).take (row.length - 2) ++ [sumP D, sumQ D]
def planK (g : Geo) (s : SS) (st off : Int) (row : List Sec) (k : Int) : Option PutS :=
  if (s.ds.getD (plcP g st off k).dk.toNat dsk0).dead = true then none
  else some ⟨plcP g st off k, ⟨row.getD k.toNat (sec []), sumS (plcP g st off k).at_ (row.getD k.toNat (sec []))⟩⟩
def planL (g : Geo) (s : SS) (st off : Int) (row : List Sec) (ks : List Int) : List PutS := ks.filterMap (planK g s st off row)
/-- what Plan answers -/
def planS (g : Geo) (s : SS) (lba : Int) (data : Sec) : List PutS × Int :=
  let x := spotP g lba
  let Cs := colsS g s x.1 x.2.2
  if s.pw.on = false then ([], 4)
  else if lostN Cs ≤ 2 then (planL g s x.1 x.2.2 (rowW (rowR Cs) x.2.1.toNat data) [x.2.1, g.d - 2, g.d - 1], 0) else ([], 8)
theorem set_two {α : Type} {r : List α} {n : Nat} (h : r.length = n) (h2 : 2 ≤ n) (a b : α) : (r.set (n - 2) a).set (n - 1) b = r.take (n - 2) ++ [a, b] := by
  apply List.ext_getElem?
  intro i
  by_cases h1 : i < n - 2
  · rw [List.getElem?_set_ne (by omega), List.getElem?_set_ne (by omega), List.getElem?_append_left (by simp; omega), List.getElem?_take, if_pos h1]
  · rw [List.getElem?_append_right (by simp; omega), List.length_take, Nat.min_eq_left (by omega)]
    by_cases h3 : i = n - 2
    · subst h3
      rw [List.getElem?_set_ne (by omega), List.getElem?_set_self (by omega), Nat.sub_self]; rfl
    · by_cases h4 : i = n - 1
      · subst h4
        rw [List.getElem?_set_self (by simp; omega), show n - 1 - (n - 2) = 1 by omega]; rfl
      · rw [List.getElem?_eq_none (by simp; omega), List.getElem?_eq_none (by simp; omega)]
theorem len_rowW {row : List Sec} {col : Nat} {data : Sec} (h : 2 ≤ row.length) : (rowW row col data).length = row.length := by
  unfold rowW; simp; omega
theorem rec_ok {Cs : List (Option Sec)} {Pc Qc : Option Sec} (h : ∀ C ∈ Cs, ColOk C) (hp : ColOk Pc) (hq : ColOk Qc) : SecOk (recP Cs Pc Qc) ∧ SecOk (recQ Cs Pc Qc) := by
  have hf := fixC_ok (Pc := Pc) (Qc := Qc) h hp hq
  constructor
  · unfold recP
    cases Pc with
    | none => exact sumI_ok (fun _ => by omega) hf _
    | some f => exact hp
  · unfold recQ
    cases Qc with
    | none => exact sumI_ok expN_lt hf _
    | some f => exact hq
theorem rowPc_ok {Cs : List (Option Sec)} (h : ∀ C ∈ Cs, ColOk C) (i : Nat) : ColOk (Cs.getD i none) := by
  rw [List.getD_eq_getElem?_getD]
  cases hx : Cs[i]? with
  | none => trivial
  | some x => exact h x (List.mem_of_getElem? hx)
theorem rowR_ok {Cs : List (Option Sec)} (h : ∀ C ∈ Cs, ColOk C) : ∀ f ∈ rowR Cs, SecOk f := by
  intro f hf
  unfold rowR at hf
  have hD : ∀ C ∈ rowD Cs, ColOk C := fun C hC => h C (List.mem_of_mem_take hC)
  have hr := rec_ok (Pc := rowPc Cs) (Qc := rowQc Cs) hD (rowPc_ok h _) (rowPc_ok h _)
  have hfx := fixC_ok (Pc := rowPc Cs) (Qc := rowQc Cs) hD (rowPc_ok h _) (rowPc_ok h _)
  rcases List.mem_append.1 hf with hf | hf
  · obtain ⟨C, hC, rfl⟩ := List.mem_map.1 hf
    have := hfx C hC
    cases C with
    | none => exact sec0_ok
    | some f => exact this
  · simp only [List.mem_cons, List.not_mem_nil, or_false] at hf
    rcases hf with rfl | rfl
    · exact hr.1
    · exact hr.2
theorem map_some_ok {D : List Sec} (h : ∀ f ∈ D, SecOk f) : ∀ C ∈ D.map some, ColOk C := by
  intro C hC
  obtain ⟨f, hf, rfl⟩ := List.mem_map.1 hC
  exact h f hf
theorem rowW_ok {row : List Sec} {col : Nat} {data : Sec} (h : ∀ f ∈ row, SecOk f) (hd : SecOk data) : ∀ f ∈ rowW row col data, SecOk f := by
  intro f hf
  have hr : ∀ f ∈ row.set col data, SecOk f := fun f hf => by
    rcases mem_set hf with rfl | hf
    · exact hd
    · exact h f hf
  have ht : ∀ C ∈ ((row.set col data).take (row.length - 2)).map some, ColOk C := map_some_ok fun f hf => hr f (List.mem_of_mem_take hf)
  unfold rowW at hf
  rcases List.mem_append.1 hf with hf | hf
  · exact hr f (List.mem_of_mem_take hf)
  · simp only [List.mem_cons, List.not_mem_nil, or_false] at hf
    rcases hf with rfl | rfl
    · exact sumI_ok (fun _ => by omega) ht _
    · exact sumI_ok expN_lt ht _
theorem lost_some (D : List Sec) : lostN (D.map some) = 0 := by
  unfold lostN
  induction D with
  | nil => rfl
  | cons x D ih => simp

/-! ### memory -/
theorem SlL.ldAS {α : Type} {L : Lay α} {S : World → Prop} {w0 : World} {p : Option Addr} {l : Nat} {xs : List α} (h0 : S w0) (h : ∀ w', S w' → SlL L w' p l xs) {i : Int} {x : α} {n : Nat} (hn : L.size = n) (hi0 : 0 ≤ i) (hi : xs[i.toNat]? = some x)
    {K : Array Value → Prop} (hK : K (L.row x).toArray) : IdxS p l i n fun b o => LdA n b o S K := by
  subst hn
  obtain ⟨b, o, hp, _⟩ := (h w0 h0).2 _ x hi
  have hlt := (List.getElem?_eq_some_iff.1 hi).1
  have hl := (h w0 h0).1
  refine ⟨b, o, hp, hi0, by omega, (L.row x).toArray, by simp [L.len], ?_, hK⟩
  intro w' hw j hj
  obtain ⟨b', o', hp', hc⟩ := (h w' hw).2 _ x hi
  rw [hp] at hp'
  cases hp'
  rw [hc j hj]
  simp
theorem puLayT : LayT Try.prog puLay 49 85 40 := ⟨by kernel_rfl, ⟨(Try.prog.info? 85).get (by kernel_rfl), ((Try.prog.info? 85).get (by kernel_rfl)).zero.get (by kernel_rfl), by kernel_rfl, by kernel_rfl, by kernel_rfl, by kernel_rfl, by kernel_rfl⟩⟩
theorem bsl_pu1 (x : PutS) (w : World) : (Instr.buildSlice 49 1 #[(0, .agg (putSV x))]).run Try.prog w = .ok (.slice (some ⟨w.heap.size, 0, none⟩) 1 1) (w.alloc (.cells (putSV x) 85)) :=
  run_buildSlice w 49 85 1 _ (putSV x) ((Try.prog.info? 85).get (by kernel_rfl)) (((Try.prog.info? 85).get (by kernel_rfl)).zero.get (by kernel_rfl)) (by kernel_rfl) (by kernel_rfl) (by kernel_rfl) (by decide +kernel) (by decide +kernel) (by kernel_rfl)
theorem bld_put (x : PutS) (w : World) : (Instr.build 85 #[(0, .agg (plcV x.plc)), (1, .agg (celV x.cel))]).run Try.prog w = .ok (.agg (putSV x)) w := run_build _ _ _ _ (by kernel_rfl)
theorem bsl_n3 (x y z : Int) (w : World) : (Instr.buildSlice 35 3 #[(0, .int .i64 x), (1, .int .i64 y), (2, .int .i64 z)]).run Try.prog w = .ok (.slice (some ⟨w.heap.size, 0, none⟩) 3 3) (w.alloc (.cells #[.int .i64 x, .int .i64 y, .int .i64 z] 3)) :=
  run_buildSlice w 35 3 3 _ #[.int .i64 x, .int .i64 y, .int .i64 z] ((Try.prog.info? 3).get (by kernel_rfl)) (((Try.prog.info? 3).get (by kernel_rfl)).zero.get (by kernel_rfl)) (by kernel_rfl) (by kernel_rfl) (by kernel_rfl) (by decide +kernel) (by decide +kernel) (by kernel_rfl)
theorem slc16 (a : Addr) : slcP 1 0 16 (some a) = some a := by
  unfold slcP
  simp [Addr.add]
/-- a sector in a row of sectors, as a column -/
theorem sec_col {w : World} {b l : Nat} {rows : List Sec} (h : SlL secLay w (some ⟨b, 0, none⟩) l rows) {k : Nat} {f : Sec} (hk : rows[k]? = some f) : ColAt w (some ⟨b, 0 + k * 16, none⟩, 16, 16) (some f) := by
  refine ⟨⟨b, 0 + k * 16, rfl⟩, rfl, Nat.le_refl _, rfl, fun i x hi => ⟨b, 0 + k * 16, rfl, fun j hj => ?_⟩⟩
  have hj : j = 0 := by have : j < 1 := hj; omega
  subst hj
  obtain ⟨b', o', e, hc⟩ := h.2 k f hk
  cases e
  have hi16 : i < 16 := (List.getElem?_eq_some_iff.1 hi).1
  have := hc i hi16
  have e1 : 0 + k * 16 + i * byLay.size + 0 = 0 + k * secLay.size + i := by show 0 + k * 16 + i * 1 + 0 = 0 + k * 16 + i; omega
  rw [e1, this]
  have e : (secLay.row f) = (secB f).map fun y => Value.int .u8 y := rfl
  rw [e, List.getElem?_map, hi]; rfl
def hdrs (b n : Nat) : List (Option Addr × Nat × Nat) := (List.range n).map fun k => (some ⟨b, 0 + k * 16, none⟩, 16, 16)
theorem hdrs_succ (b n : Nat) : hdrs b (n + 1) = hdrs b n ++ [(some ⟨b, 0 + n * 16, none⟩, 16, 16)] := by unfold hdrs; rw [List.range_succ, List.map_append]; rfl
theorem len_hdrs (b n : Nat) : (hdrs b n).length = n := by simp [hdrs]
end Go.Proofs

/-
  A SET: Plan, the walk.
-/
namespace Go.Proofs
open Go Go.Ev
set_option linter.unusedSimpArgs false
set_option linter.unusedVariables false
set_option maxRecDepth 100000

section calls
variable {w : World} {q : SB} {s : SS} {R : Value → World → Prop}
end calls
end Go.Proofs

/-
  A SET: Plan, the whole.
-/
namespace Go.Proofs
open Go Go.Ev
set_option linter.unusedSimpArgs false
set_option linter.unusedVariables false
set_option maxRecDepth 100000

section calls
variable {w : World} {q : SB} {s : SS} {R : Value → World → Prop}
end calls
end Go.Proofs

/-
  A SET: Key and Fence.
-/
namespace Go.Proofs
open Go Go.Ev
set_option linter.unusedSimpArgs false
set_option linter.unusedVariables false
set_option maxRecDepth 100000

def keyL (k : Int) (l : List Dsk) : Int := l.foldl (fun k D => if D.dead = true then k else max k D.key) k
def keyS (s : SS) : Int := keyL 0 s.ds
/-- what Fence answers, and the set behind it -/
def fenceS (s : SS) (ep : Int) : Int × SS :=
  if s.pw.on = false then (4, s) else (0, ⟨s.ds.map fun D => (fenceD s.pw D ep).2, s.pw⟩)
theorem fenceD_len (pw : Pow) (D : Dsk) (ep : Int) : (fenceD pw D ep).2.secs = D.secs := by
  unfold fenceD
  split
  · rfl
  · split <;> rfl
theorem max_rng {a b : Int} (h1 : 0 ≤ a ∧ a ≤ 4294967295) (h2 : 0 ≤ b ∧ b ≤ 4294967295) : 0 ≤ max a b ∧ max a b ≤ 4294967295 := by omega
theorem fenceD_ok {pw : Pow} {D : Dsk} {ep : Int} (h : DskOk D) (hep : 0 ≤ ep ∧ ep ≤ 4294967295) : DskOk (fenceD pw D ep).2 := by
  refine ⟨by rw [fenceD_len]; exact h.1, ?_⟩
  unfold fenceD
  split
  · exact h.2
  · split
    · exact h.2
    · exact max_rng h.2 hep
section calls
variable {w : World} {q : SB} {s : SS} {R : Value → World → Prop}
end calls
end Go.Proofs
