import Derived.Test.YtjikegaipldnhaaPar
import Derived.Test.YtjikegaipldnhaaGfM
import Derived.Test.YtjikegaipldnhaaRows1
import Derived.Test.YtjikegaipldnhaaFStrp

/-
  PARITY: Recover.
-/
namespace Go.Proofs
open Go Go.Ev
set_option linter.unusedSimpArgs false
set_option linter.unusedVariables false
set_option maxRecDepth 100000

/-! ### plain -/
def isGone : Option (Option Sec) → Bool
  | some none => true
  | _ => false
theorem isGone_iff {C : Option (Option Sec)} : isGone C = true ↔ C = some none := by
  cases C with
  | none => simp [isGone]
  | some x => cases x <;> simp [isGone]
/-- which of the first k columns are lost -/
def goneI (Cs : List (Option Sec)) : Nat → List Int
  | 0 => []
  | k + 1 => goneI Cs k ++ (if isGone Cs[k]? = true then [(k : Int)] else [])
def goneL (Cs : List (Option Sec)) : List Int := goneI Cs Cs.length
theorem goneI_lt (Cs : List (Option Sec)) : ∀ k, ∀ x ∈ goneI Cs k, ∃ n : Nat, x = (n : Int) ∧ n < k ∧ Cs[n]? = some none
  | 0, x, h => by simp [goneI] at h
  | k + 1, x, h => by
    unfold goneI at h
    rcases List.mem_append.1 h with h | h
    · obtain ⟨n, h1, h2, h3⟩ := goneI_lt Cs k x h
      exact ⟨n, h1, by omega, h3⟩
    · split at h
      · rename_i hn
        rw [List.mem_singleton.1 h]
        exact ⟨k, rfl, by omega, isGone_iff.1 hn⟩
      · simp at h
theorem goneI_len (Cs : List (Option Sec)) : ∀ k, k ≤ Cs.length → (goneI Cs k).length = lostN (Cs.take k)
  | 0, _ => by simp [goneI, lostN]
  | k + 1, h => by
    have ih := goneI_len Cs k (by omega)
    obtain ⟨C, hC⟩ : ∃ C, Cs[k]? = some C := ⟨_, List.getElem?_eq_getElem (by omega)⟩
    unfold goneI
    rw [List.length_append, ih, List.take_add_one, hC, lostN_append]
    cases C with
    | none => rw [if_pos (show isGone (some none) = true from rfl)]; rfl
    | some f => rw [if_neg (by simp [isGone])]; rfl
theorem goneL_len (Cs : List (Option Sec)) : (goneL Cs).length = lostN Cs := by
  unfold goneL
  rw [goneI_len Cs _ (Nat.le_refl _), List.take_of_length_le (Nat.le_refl _)]
theorem goneI_sorted (Cs : List (Option Sec)) : ∀ k, (goneI Cs k).Pairwise (· < ·)
  | 0 => by simp [goneI]
  | k + 1 => by
    unfold goneI
    rw [List.pairwise_append]
    refine ⟨goneI_sorted Cs k, by split <;> simp, fun x hx y hy => ?_⟩
    obtain ⟨n, h1, h2, _⟩ := goneI_lt Cs k x hx
    split at hy
    · rw [List.mem_singleton.1 hy]; omega
    · simp at hy
/-- what is missing in P, and in Q -/
def missP (Cs : List (Option Sec)) (Pc : Option Sec) : Sec := xaddO 1 (sumP Cs) Pc
def missQ (Cs : List (Option Sec)) (Qc : Option Sec) : Sec := xaddO 1 (sumQ Cs) Qc
def solX (i j s t : Nat) : Nat := gmN (powN (gmN 1 (expN j) ^^^ gmN 1 (expN i)) 254) (gmN (expN j) s ^^^ gmN 1 t)
def solY (i j s t : Nat) : Nat := gmN (powN (gmN 1 (expN j) ^^^ gmN 1 (expN i)) 254) (gmN 1 t ^^^ gmN (expN i) s)
def secX (i j : Nat) (S T : Sec) : Sec := fun k => ((solX i j (S k).toNat (T k).toNat : Nat) : Int)
def secY (i j : Nat) (S T : Sec) : Sec := fun k => ((solY i j (S k).toNat (T k).toNat : Nat) : Int)
/-- the columns, with what was lost -/
def fixC (Cs : List (Option Sec)) (Pc Qc : Option Sec) : List (Option Sec) :=
  match goneL Cs with
  | [i] => if Pc.isSome = true then Cs.set i.toNat (some (missP Cs Pc)) else Cs.set i.toNat (some (xadd (powN (expN i.toNat) 254) (sec []) (missQ Cs Qc)))
  | [i, j] => (Cs.set i.toNat (some (secX i.toNat j.toNat (missP Cs Pc) (missQ Cs Qc)))).set j.toNat (some (secY i.toNat j.toNat (missP Cs Pc) (missQ Cs Qc)))
  | _ => Cs
theorem len_fixC (Cs : List (Option Sec)) (Pc Qc : Option Sec) : (fixC Cs Pc Qc).length = Cs.length := by
  unfold fixC
  split
  · split <;> simp
  · simp
  · rfl
theorem miss_ok {Cs : List (Option Sec)} {Pc : Option Sec} (h : ∀ C ∈ Cs, ColOk C) (hp : ColOk Pc) : SecOk (missP Cs Pc) ∧ SecOk (missQ Cs Pc) :=
  ⟨xaddO_ok (by omega) (sumI_ok (fun _ => by omega) h _) hp, xaddO_ok (by omega) (sumI_ok expN_lt h _) hp⟩
theorem solX_lt {i j s t : Nat} : solX i j s t < 256 := gmN_lt (powN_lt (xor_lt8 (gmN_lt (by omega)) (gmN_lt (by omega))))
theorem solY_lt {i j s t : Nat} : solY i j s t < 256 := gmN_lt (powN_lt (xor_lt8 (gmN_lt (by omega)) (gmN_lt (by omega))))
theorem secX_ok (i j : Nat) (S T : Sec) : SecOk (secX i j S T) := fun k => by
  have : solX i j (S k).toNat (T k).toNat < 256 := solX_lt
  unfold secX; omega
theorem secY_ok (i j : Nat) (S T : Sec) : SecOk (secY i j S T) := fun k => by
  have : solY i j (S k).toNat (T k).toNat < 256 := solY_lt
  unfold secY; omega
theorem mem_set {α : Type} {l : List α} {i : Nat} {a x : α} (h : x ∈ l.set i a) : x = a ∨ x ∈ l := by
  rcases List.mem_or_eq_of_mem_set h with h | h
  · exact Or.inr h
  · exact Or.inl h
theorem fixC_ok {Cs : List (Option Sec)} {Pc Qc : Option Sec} (h : ∀ C ∈ Cs, ColOk C) (hp : ColOk Pc) (hq : ColOk Qc) : ∀ C ∈ fixC Cs Pc Qc, ColOk C := by
  intro C hC
  unfold fixC at hC
  split at hC
  · split at hC
    · rcases mem_set hC with rfl | hC
      · exact (miss_ok h hp).1
      · exact h C hC
    · rcases mem_set hC with rfl | hC
      · exact xadd_ok (powN_lt (expN_lt _)) sec0_ok (miss_ok h hq).2
      · exact h C hC
  · rcases mem_set hC with rfl | hC
    · exact secY_ok _ _ _ _
    · rcases mem_set hC with rfl | hC
      · exact secX_ok _ _ _ _
      · exact h C hC
  · exact h C hC

def nLay : Lay Int := ⟨1, fun y => [.int .i64 y], fun _ => rfl, fun y v hv => by rw [List.mem_singleton.1 hv]; rfl, by decide⟩
theorem nLayT : LayT Try.prog nLay 35 3 8 := ⟨by kernel_rfl, ⟨(Try.prog.info? 3).get (by kernel_rfl), ((Try.prog.info? 3).get (by kernel_rfl)).zero.get (by kernel_rfl), by kernel_rfl, by kernel_rfl, by kernel_rfl, by kernel_rfl, by kernel_rfl⟩⟩
theorem bsl_n1 (x : Int) (w : World) : (Instr.buildSlice 35 1 #[(0, .int .i64 x)]).run Try.prog w = .ok (.slice (some ⟨w.heap.size, 0, none⟩) 1 1) (w.alloc (.cells #[.int .i64 x] 3)) :=
  run_buildSlice w 35 3 1 _ #[.int .i64 x] ((Try.prog.info? 3).get (by kernel_rfl)) (((Try.prog.info? 3).get (by kernel_rfl)).zero.get (by kernel_rfl)) (by kernel_rfl) (by kernel_rfl) (by kernel_rfl) (by decide +kernel) (by decide +kernel) (by kernel_rfl)
/-- a row of another kind is another one -/
theorem OwnL.ne {α β : Type} {L : Lay α} {M : Lay β} {w : World} {b1 b2 : Nat} {e1 e2 : TypeId} {p q : Option Addr} {l c m d : Nat} {xs : List α} {ys : List β} (h1 : OwnL L w b1 e1 p l c xs) (h2 : OwnL M w b2 e2 q m d ys) (hne : e1 ≠ e2) {k : Nat} (hp : p = some ⟨k, 0, none⟩) : ¬ q = some ⟨k, 0, none⟩ := by
  intro hq
  rcases Own.cases h1 with ⟨h0, _⟩ | ⟨b', cur, h0, _, hg, _⟩
  · rw [h0] at hp; cases hp
  · rcases Own.cases h2 with ⟨g0, _⟩ | ⟨b2', cur2, g0, _, hg2, _⟩
    · rw [g0] at hq; cases hq
    · rw [h0] at hp; cases hp
      rw [g0] at hq; cases hq
      have := Has.inj hg hg2
      simp only [Obj.cells.injEq] at this
      exact hne this.2.1

/-! ### two columns that are lost, as it is printed -/
section calls
variable {w : World}
end calls
end Go.Proofs

/-
  PARITY: Recover, the whole.
-/
namespace Go.Proofs
open Go Go.Ev
set_option linter.unusedSimpArgs false
set_option linter.unusedVariables false
set_option maxRecDepth 100000

/-- a column in a row of one's own -/
def ColOwn (w : World) (base : Nat) (h : Option Addr × Nat × Nat) : Option Sec → Prop
  | none => h = (none, 0, 0)
  | some f => h.2.1 = 16 ∧ OwnL byLay w base 5 h.1 16 h.2.2 (secB f)
theorem len_two {α : Type} : ∀ {l : List α}, l.length = 2 → ∃ x y, l = [x, y]
  | [x, y], _ => ⟨x, y, rfl⟩

theorem ColOwn.at_ {w : World} {base : Nat} {h : Option Addr × Nat × Nat} : ∀ {C : Option Sec}, ColOwn w base h C → ColAt w h C
  | none, hc => hc
  | some f, ⟨h1, h2⟩ => by
    obtain ⟨b, cur, e, _⟩ := h2.cells (by omega)
    exact ⟨⟨b, 0, e⟩, h1, h2.cap.1, h2.sl⟩
theorem ColOwn.keep {w w' : World} {base : Nat} {h : Option Addr × Nat × Nat} : ∀ {C : Option Sec}, ColOwn w base h C → Keep (fun _ => False) w w' → ColOwn w' base h C
  | none, hc, _ => hc
  | some f, ⟨h1, h2⟩, k => ⟨h1, h2.keep k (by simp)⟩
theorem ColOwn.keepH {w w' : World} {base : Nat} {h : Option Addr × Nat × Nat} {S : Nat → Prop} : ∀ {C : Option Sec}, ColOwn w base h C → Keep S w w' → (∀ f k, C = some f → h.1 = some ⟨k, 0, none⟩ → ¬ S k) → ColOwn w' base h C
  | none, hc, _, _ => hc
  | some f, ⟨h1, h2⟩, k, hS => ⟨h1, h2.keep k fun a ha => hS f a rfl ha⟩
theorem ColOwn.hdr {w w' : World} {base b2 : Nat} {h : Option Addr × Nat × Nat} {C : Option Sec} {p : Option Addr} {l c : Nat} {e : TypeId} {α : Type} {L : Lay α} {Hs : List α} (hc : ColOwn w base h C) (ho : OwnL L w b2 e p l c Hs) (he : e ≠ 5) (k : Keep (fun k => p = some ⟨k, 0, none⟩) w w') : ColOwn w' base h C := by
  refine hc.keepH k fun f a hf ha => ?_
  subst hf
  exact OwnL.ne hc.2 ho (fun e' => he e'.symm) ha
/-- the columns in a row of headers that is one's own -/
structure All (w : World) (base : Nat) (p : Option Addr) (l c : Nat) (Z : List (Option Sec)) : Prop where
  ex : ∃ Hs, OwnL hLay w base 22 p l c Hs ∧ Hs.length = Z.length ∧ (∀ (k : Nat) h C, Hs[k]? = some h → Z[k]? = some C → ColOwn w base h C) ∧ ∀ C ∈ Z, ColOk C
theorem All.keep {w w' : World} {base : Nat} {p : Option Addr} {l c : Nat} {Z : List (Option Sec)} (h : All w base p l c Z) (k : Keep (fun _ => False) w w') : All w' base p l c Z := by
  obtain ⟨Hs, h1, h2, h3, h4⟩ := h.ex
  exact ⟨Hs, h1.keep k (by simp), h2, fun i a C x y => (h3 i a C x y).keep k, h4⟩
theorem All.cols {w : World} {base : Nat} {p : Option Addr} {l c : Nat} {Z : List (Option Sec)} (h : All w base p l c Z) : ∃ Hs, Cols w p l Hs Z := by
  obtain ⟨Hs, h1, h2, h3, h4⟩ := h.ex
  exact ⟨Hs, h1.sl, h2, fun i a C x y => (h3 i a C x y).at_, h4⟩
theorem ColAt.of {w : World} {base b c : Nat} {e : TypeId} {F : Sec} (h : OwnL byLay w base e (some ⟨b, 0, none⟩) 16 c (secB F)) : ColAt w (some ⟨b, 0, none⟩, 16, c) (some F) :=
  ⟨⟨b, 0, rfl⟩, rfl, h.cap.1, h.sl⟩
/-- one column of them is another one -/
theorem ColOwn.set {w : World} {base : Nat} {Hs : List (Option Addr × Nat × Nat)} {Z : List (Option Sec)} (hl : Hs.length = Z.length) (hat : ∀ (i : Nat) h C, Hs[i]? = some h → Z[i]? = some C → ColOwn w base h C) (i : Nat) {h : Option Addr × Nat × Nat} {C : Option Sec} (hc : ColOwn w base h C) :
    ∀ (k : Nat) h' C', (Hs.set i h)[k]? = some h' → (Z.set i C)[k]? = some C' → ColOwn w base h' C' := by
  intro k h' C' h1 h2
  by_cases hk : i = k
  · subst hk
    have hlt : i < (Hs.set i h).length := (List.getElem?_eq_some_iff.1 h1).1
    rw [List.length_set] at hlt
    rw [List.getElem?_set_self hlt] at h1
    rw [List.getElem?_set_self (by omega)] at h2
    cases h1
    cases h2
    exact hc
  · rw [List.getElem?_set_ne hk] at h1 h2
    exact hat k h' C' h1 h2
/-- what Recover gives: all columns, P and Q -/
def recP (Cs : List (Option Sec)) (Pc Qc : Option Sec) : Sec := Pc.getD (sumP (fixC Cs Pc Qc))
def recQ (Cs : List (Option Sec)) (Pc Qc : Option Sec) : Sec := Qc.getD (sumQ (fixC Cs Pc Qc))
section calls
variable {w : World} {R : Value → World → Prop}
end calls
end Go.Proofs
