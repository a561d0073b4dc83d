import Derived.Test.YthhimblbnnafkaaGreatPar
import Derived.Test.YthhimblbnnafkaaGreatGfM
import Derived.Test.YthhimblbnnafkaaGreatRows1
import Derived.Test.YthhimblbnnafkaaGreatFStrp

/-
  PARITY: Recover.
-/
namespace Go.Proofs
open Go Go.Ev
set_option linter.unusedSimpArgs false
set_option linter.unusedVariables false
set_option maxRecDepth 100000

/-! ### plain -/
def isGone : Option (Option Sec) → Bool
  | some none => true
  | _ => false
theorem isGone_iff {C : Option (Option Sec)} : isGone C = true ↔ C = some none := by
  cases C with
  | none => simp [isGone]
  | some x => cases x <;> simp [isGone]
/-- which of the first k columns are lost -/
def goneI (Cs : List (Option Sec)) : Nat → List Int
  | 0 => []
  | k + 1 => goneI Cs k ++ (if isGone Cs[k]? = true then [(k : Int)] else [])
def goneL (Cs : List (Option Sec)) : List Int := goneI Cs Cs.length
theorem goneI_lt (Cs : List (Option Sec)) : ∀ k, ∀ x ∈ goneI Cs k, ∃ n : Nat, x = (n : Int) ∧ n < k ∧ Cs[n]? = some none
  | 0, x, h => by simp [goneI] at h
  | k + 1, x, h => by
    unfold goneI at h
    rcases List.mem_append.1 h with h | h
    · obtain ⟨n, h1, h2, h3⟩ := goneI_lt Cs k x h
      exact ⟨n, h1, by omega, h3⟩
    · split at h
      · rename_i hn
        rw [List.mem_singleton.1 h]
        exact ⟨k, rfl, by omega, isGone_iff.1 hn⟩
      · simp at h
theorem goneI_len (Cs : List (Option Sec)) : ∀ k, k ≤ Cs.length → (goneI Cs k).length = lostN (Cs.take k)
  | 0, _ => by simp [goneI, lostN]
  | k + 1, h => by
    have ih := goneI_len Cs k (by omega)
    obtain ⟨C, hC⟩ : ∃ C, Cs[k]? = some C := ⟨_, List.getElem?_eq_getElem (by omega)⟩
    unfold goneI
    rw [List.length_append, ih, List.take_add_one, hC, lostN_append]
    cases C with
    | none => rw [if_pos (show isGone (some none) = true from rfl)]; rfl
    | some f => rw [if_neg (by simp [isGone])]; rfl
theorem goneL_len (Cs : List (Option Sec)) : (goneL Cs).length = lostN Cs := by
  unfold goneL
  rw [goneI_len Cs _ (Nat.le_refl _), List.take_of_length_le (Nat.le_refl _)]
theorem goneI_sorted (Cs : List (Option Sec)) : ∀ k, (goneI Cs k).Pairwise (· < ·)
  | 0 => by simp [goneI]
  | k + 1 => by
    unfold goneI
    rw [List.pairwise_append]
    refine ⟨goneI_sorted Cs k, by split <;> simp, fun x hx y hy => ?_⟩
    obtain ⟨n, h1, h2, _⟩ := goneI_lt Cs k x hx
    split at hy
    · rw [List.mem_singleton.1 hy]; omega
    · simp at hy
/-- what is missing in P, and in Q -/
def missP (Cs : List (Option Sec)) (Pc : Option Sec) : Sec := xaddO 1 (sumP Cs) Pc
def missQ (Cs : List (Option Sec)) (Qc : Option Sec) : Sec := xaddO 1 (sumQ Cs) Qc
def solX (i j s t : Nat) : Nat := gmN (powN (gmN 1 (expN j) ^^^ gmN 1 (expN i)) 254) (gmN (expN j) s ^^^ gmN 1 t)
def solY (i j s t : Nat) : Nat := gmN (powN (gmN 1 (expN j) ^^^ gmN 1 (expN i)) 254) (gmN 1 t ^^^ gmN (expN i) s)
def secX (i j : Nat) (S T : Sec) : Sec := fun k => ((solX i j (S k).toNat (T k).toNat : Nat) : Int)
def secY (i j : Nat) (S T : Sec) : Sec := fun k => ((solY i j (S k).toNat (T k).toNat : Nat) : Int)
/-- the columns, with what was lost -/
def fixC (Cs : List (Option Sec)) (Pc Qc : Option Sec) : List (Option Sec) :=
  match goneL Cs with
  | [i] => if Pc.isSome = true then Cs.set i.toNat (some (missP Cs Pc)) else Cs.set i.toNat (some (xadd (powN (expN i.toNat) 254) (sec []) (missQ Cs Qc)))
  | [i, j] => (Cs.set i.toNat (some (secX i.toNat j.toNat (missP Cs Pc) (missQ Cs Qc)))).set j.toNat (some (secY i.toNat j.toNat (missP Cs Pc) (missQ Cs Qc)))
  | _ => Cs
theorem len_fixC (Cs : List (Option Sec)) (Pc Qc : Option Sec) : (fixC Cs Pc Qc).length = Cs.length := by
  unfold fixC
  split
  · split <;> simp
  · simp
  · rfl
theorem miss_ok {Cs : List (Option Sec)} {Pc : Option Sec} (h : ∀ C ∈ Cs, ColOk C) (hp : ColOk Pc) : SecOk (missP Cs Pc) ∧ SecOk (missQ Cs Pc) :=
  ⟨xaddO_ok (by omega) (sumI_ok (fun _ => by omega) h _) hp, xaddO_ok (by omega) (sumI_ok expN_lt h _) hp⟩
theorem solX_lt {i j s t : Nat} : solX i j s t < 256 := gmN_lt (powN_lt (xor_lt8 (gmN_lt (by omega)) (gmN_lt (by omega))))
theorem solY_lt {i j s t : Nat} : solY i j s t < 256 := gmN_lt (powN_lt (xor_lt8 (gmN_lt (by omega)) (gmN_lt (by omega))))
theorem secX_ok (i j : Nat) (S T : Sec) : SecOk (secX i j S T) := fun k => by
  have : solX i j (S k).toNat (T k).toNat < 256 := solX_lt
  unfold secX; omega
theorem secY_ok (i j : Nat) (S T : Sec) : SecOk (secY i j S T) := fun k => by
  have : solY i j (S k).toNat (T k).toNat < 256 := solY_lt
  unfold secY; omega
theorem mem_set {α : Type} {l : List α} {i : Nat} {a x : α} (h : x ∈ l.set i a) : x = a ∨ x ∈ l := by
  rcases List.mem_or_eq_of_mem_set h with h | h
  · exact Or.inr h
  · exact Or.inl h
theorem fixC_ok {Cs : List (Option Sec)} {Pc Qc : Option Sec} (h : ∀ C ∈ Cs, ColOk C) (hp : ColOk Pc) (hq : ColOk Qc) : ∀ C ∈ fixC Cs Pc Qc, ColOk C := by
  intro C hC
  unfold fixC at hC
  split at hC
  · split at hC
    · rcases mem_set hC with rfl | hC
      · exact (miss_ok h hp).1
      · exact h C hC
    · rcases mem_set hC with rfl | hC
      · exact xadd_ok (powN_lt (expN_lt _)) sec0_ok (miss_ok h hq).2
      · exact h C hC
  · rcases mem_set hC with rfl | hC
    · exact secY_ok _ _ _ _
    · rcases mem_set hC with rfl | hC
      · exact secX_ok _ _ _ _
      · exact h C hC
  · exact h C hC

def nLay : Lay Int := ⟨1, fun y => [.int .i64 y], fun _ => rfl, fun y v hv => by rw [List.mem_singleton.1 hv]; rfl, by decide⟩
theorem nLayT : LayT Tryz.prog nLay 69 3 8 := ⟨by kernel_rfl, ⟨(Tryz.prog.info? 3).get (by kernel_rfl), ((Tryz.prog.info? 3).get (by kernel_rfl)).zero.get (by kernel_rfl), by kernel_rfl, by kernel_rfl, by kernel_rfl, by kernel_rfl, by kernel_rfl⟩⟩
theorem bsl_n1 (x : Int) (w : World) : (Instr.buildSlice 69 1 #[(0, .int .i64 x)]).run Tryz.prog w = .ok (.slice (some ⟨w.heap.size, 0, none⟩) 1 1) (w.alloc (.cells #[.int .i64 x] 3)) :=
  run_buildSlice w 69 3 1 _ #[.int .i64 x] ((Tryz.prog.info? 3).get (by kernel_rfl)) (((Tryz.prog.info? 3).get (by kernel_rfl)).zero.get (by kernel_rfl)) (by kernel_rfl) (by kernel_rfl) (by kernel_rfl) (by decide +kernel) (by decide +kernel) (by kernel_rfl)
/-- a row of another kind is another one -/
theorem OwnL.ne {α β : Type} {L : Lay α} {M : Lay β} {w : World} {b1 b2 : Nat} {e1 e2 : TypeId} {p q : Option Addr} {l c m d : Nat} {xs : List α} {ys : List β} (h1 : OwnL L w b1 e1 p l c xs) (h2 : OwnL M w b2 e2 q m d ys) (hne : e1 ≠ e2) {k : Nat} (hp : p = some ⟨k, 0, none⟩) : ¬ q = some ⟨k, 0, none⟩ := by
  intro hq
  rcases Own.cases h1 with ⟨h0, _⟩ | ⟨b', cur, h0, _, hg, _⟩
  · rw [h0] at hp; cases hp
  · rcases Own.cases h2 with ⟨g0, _⟩ | ⟨b2', cur2, g0, _, hg2, _⟩
    · rw [g0] at hq; cases hq
    · rw [h0] at hp; cases hp
      rw [g0] at hq; cases hq
      have := Has.inj hg hg2
      simp only [Obj.cells.injEq] at this
      exact hne this.2.1

/-! ### two columns that are lost, as it is printed -/
def TwoT (pg : Option Addr) (lg : Nat) (ps : Option Addr) (ls : Nat) (pt : Option Addr) (lt : Nat) (px : Option Addr) (lx cx : Nat) (py : Option Addr) (ly cy : Nat) (pa : Option Addr) (la : Nat) (w : World) (J : Unit → World → Prop) : Prop :=
  LoopC (σ := Int × Unit) (fun _ s4 w K4 => Cb (decide (s4.1 < 16)) (HeldR w fun S w => IdxS pg lg 0 1 fun b6 o6 => LdV b6 o6 S fun v26 => OpI .i64 v26 fun n8 => IdxS pg lg 1 1 fun b7 o7 => LdV b7 o7 S fun v27 => OpI .i64 v27 fun n9 => IdxS ps ls s4.1 1 fun b8 o8 => LdV
  b8 o8 S fun v28 => OpI .u8 v28 fun n10 => IdxS pt lt s4.1 1 fun b9 o9 => LdV b9 o9 S fun v29 => OpI .u8 v29 fun n11 => CallV Tryz.prog 185 #[.int .i64 n8] w fun v30 w => OpI
  .u8 v30 fun n12 => Hld (S w) (CallV Tryz.prog 185 #[.int .i64 n9] w fun v31 w => OpI .u8 v31 fun n13 => Hld (S w) (CallV Tryz.prog 186 #[.int .u8 1, .int .u8 1, .int .u8 n12,
  .int .u8 n13, .int .u8 n10, .int .u8 n11] w fun v32 w => T3 v32 fun v33 v34 v35 => OpI .u8 v33 fun n14 => OpI .u8 v34 fun n15 => OpI .i64 v35 fun n16 => Hld (S w) (IdxS
  px lx s4.1 1 fun b10 o10 => StV b10 o10 (.int .u8 n14) w fun w => Hld (S w) (IdxS py ly s4.1 1 fun b11 o11 => StV b11 o11 (.int .u8 n15) w fun w => Hld (S w) (K4
  (IntKind.wrap .i64 (s4.1 + 1), ()) w)))))) (HeldR w fun S w => IdxS pg lg 0 1 fun b12 o12 => LdV b12 o12 (At w) fun v36 => OpI .i64 v36 fun n17 => IdxS
  pg lg 1 1 fun b13 o13 => LdV b13 o13 (At w) fun v37 => OpI .i64 v37 fun n18 => IdxS pa la n17 1 fun b14 o14 => StV b14 o14 (.slice px lx cx) w
  fun w => Hld (S w) (IdxS pa la n18 1 fun b15 o15 => StV b15 o15 (.slice py ly cy) w fun w => Hld (S w) (J () w)))) (0, ()) w
section calls
variable {w : World}
theorem twoT {base : Nat} {pg pa : Option Addr} {cg la ca bs bt bx by_ i j : Nat} {Hs : List (Option Addr × Nat × Nat)} {S T : Sec} {J : Unit → World → Prop} (hS : SecOk S) (hT : SecOk T) (hi : i < 30) (hj : j < 30) (hij : i ≠ j) (hia : i < la) (hja : j < la)
    (og : OwnL nLay w base 3 pg 2 cg [(i : Int), (j : Int)]) (os : OwnL byLay w base 5 (some ⟨bs, 0, none⟩) 16 16 (secB S)) (ot : OwnL byLay w base 5 (some ⟨bt, 0, none⟩) 16 16 (secB T))
    (ox : OwnL byLay w base 5 (some ⟨bx, 0, none⟩) 16 16 (secB (sec []))) (oy : OwnL byLay w base 5 (some ⟨by_, 0, none⟩) 16 16 (secB (sec []))) (oa : OwnL hLay w base 22 pa la ca Hs)
    (nxy : bx ≠ by_) (nxs : bx ≠ bs) (nxt : bx ≠ bt) (nys : by_ ≠ bs) (nyt : by_ ≠ bt)
    (hK : ∀ w', OwnL hLay w' base 22 pa la ca ((Hs.set i (some ⟨bx, 0, none⟩, 16, 16)).set j (some ⟨by_, 0, none⟩, 16, 16)) → OwnL byLay w' base 5 (some ⟨bx, 0, none⟩) 16 16 (secB (secX i j S T)) → OwnL byLay w' base 5 (some ⟨by_, 0, none⟩) 16 16 (secB (secY i j S T)) → Keep (fun k => k = bx ∨ k = by_ ∨ pa = some ⟨k, 0, none⟩) w w' → J () w') :
    TwoT pg 2 (some ⟨bs, 0, none⟩) 16 (some ⟨bt, 0, none⟩) 16 (some ⟨bx, 0, none⟩) 16 16 (some ⟨by_, 0, none⟩) 16 16 pa la w J := by
  unfold TwoT
  have gx : ¬ pg = some ⟨bx, 0, none⟩ := OwnL.ne ox og (by decide) rfl
  have gy : ¬ pg = some ⟨by_, 0, none⟩ := OwnL.ne oy og (by decide) rfl
  refine LoopC_of (σ := Int × Unit) (fun st w' => ∃ k : Nat, st.1 = (k : Int) ∧ k ≤ 16 ∧ OwnL byLay w' base 5 (some ⟨bx, 0, none⟩) 16 16 (secB fun a => if a.val < k then secX i j S T a else sec [] a) ∧ OwnL byLay w' base 5 (some ⟨by_, 0, none⟩) 16 16 (secB fun a => if a.val < k then secY i j S T a else sec [] a) ∧ Keep (fun k => k = bx ∨ k = by_) w w') (fun st _ => (16 - st.1).toNat)
    ⟨0, rfl, by omega, by simpa using ox, by simpa using oy, Keep.refl _ _⟩ ?_
  rintro _ ⟨k, u⟩ w1 ⟨k', hk, hkl, x1, y1, k1⟩
  simp only at hk ⊢
  subst hk
  have og1 := og.keep k1 fun a ha hb => by
    rcases hb with e | e
    · exact gx (e ▸ ha)
    · exact gy (e ▸ ha)
  have os1 := os.keep k1 fun a ha hb => by
    injection ha with ha
    injection ha with ha
    omega
  have ot1 := ot.keep k1 fun a ha hb => by
    injection ha with ha
    injection ha with ha
    omega
  refine Cb_of (fun hc => ?_) (fun hc => ?_)
  · have hc : k' < 16 := by
      have : (k' : Int) < 16 := by simpa using hc
      omega
    intro d
    have kd := Keep.drew (fun _ => False) w1 d
    have C0 : OwnL nLay (w1.dr d) base 3 pg 2 cg [(i : Int), (j : Int)] ∧ OwnL byLay (w1.dr d) base 5 (some ⟨bs, 0, none⟩) 16 16 (secB S) ∧ OwnL byLay (w1.dr d) base 5 (some ⟨bt, 0, none⟩) 16 16 (secB T) := ⟨og1.keep kd (by simp), os1.keep kd (by simp), ot1.keep kd (by simp)⟩
    refine ⟨fun w' => OwnL nLay w' base 3 pg 2 cg [(i : Int), (j : Int)] ∧ OwnL byLay w' base 5 (some ⟨bs, 0, none⟩) 16 16 (secB S) ∧ OwnL byLay w' base 5 (some ⟨bt, 0, none⟩) 16 16 (secB T), C0, ?_⟩
    have hgs := get_secB S hc
    have hgt := get_secB T hc
    refine SlL.ldSd C0 (fun w' hw => hw.1.sl) (i := 0) (x := (i : Int)) (n := 1) (v := .int .i64 (i : Int)) rfl (by omega) rfl rfl (OpI_int.2 ?_)
    refine SlL.ldSd C0 (fun w' hw => hw.1.sl) (i := 1) (x := (j : Int)) (n := 1) (v := .int .i64 (j : Int)) rfl (by omega) rfl rfl (OpI_int.2 ?_)
    refine SlL.ldSd C0 (fun w' hw => hw.2.1.sl) (i := (k' : Int)) (x := S ⟨k', hc⟩) (n := 1) (v := .int .u8 (S ⟨k', hc⟩)) rfl (by omega) (by rw [Int.toNat_natCast]; exact hgs) rfl (OpI_int.2 ?_)
    refine SlL.ldSd C0 (fun w' hw => hw.2.2.sl) (i := (k' : Int)) (x := T ⟨k', hc⟩) (n := 1) (v := .int .u8 (T ⟨k', hc⟩)) rfl (by omega) (by rw [Int.toNat_natCast]; exact hgt) rfl (OpI_int.2 ?_)
    refine g_Exp (by omega) (OpI_int.2 ⟨C0, ?_⟩)
    refine g_Exp (by omega) (OpI_int.2 ⟨C0, ?_⟩)
    have nS := nat_of (hS ⟨k', hc⟩)
    have nT := nat_of (hT ⟨k', hc⟩)
    have hdet : gmN 1 (expN j) ^^^ gmN 1 (expN i) ≠ 0 := by rw [gm_one exp_lt, gm_one exp_lt]; exact exp_ne hi hj hij
    have eM : ∀ K, CallV Tryz.prog 186 #[.int .u8 1, .int .u8 1, .int .u8 ((expN i : Nat) : Int), .int .u8 ((expN j : Nat) : Int), .int .u8 (((S ⟨k', hc⟩).toNat : Nat) : Int), .int .u8 (((T ⟨k', hc⟩).toNat : Nat) : Int)] (w1.dr d) K → CallV Tryz.prog 186 #[.int .u8 1, .int .u8 1, .int .u8 ((expN i : Nat) : Int), .int .u8 ((expN j : Nat) : Int), .int .u8 (S ⟨k', hc⟩), .int .u8 (T ⟨k', hc⟩)] (w1.dr d) K := by
      intro K h
      rw [← nS.1, ← nT.1] at h
      exact h
    refine eM _ ?_
    refine g_Solve exp_lt exp_lt nS.2 nT.2 hdet ?_
    refine T3_mk.2 (OpI_int.2 (OpI_int.2 (OpI_int.2 ⟨C0, ?_⟩)))
    have hgx := get_secB (fun a => if a.val < k' then secX i j S T a else sec [] a) hc
    have hgy := get_secB (fun a => if a.val < k' then secY i j S T a else sec [] a) hc
    refine (x1.keep kd (by simp)).stF (i := (k' : Int)) (n := 1) (t := 0) (y := secX i j S T ⟨k', hc⟩) rfl (by omega) (by rw [Int.toNat_natCast]; exact hgx) (by omega) rfl rfl fun w2 x2 k2 z2 => ?_
    have k2' : Keep (fun a => a = bx) (w1.dr d) w2 := k2.mono fun a ha => by
      injection ha with ha
      injection ha with ha
      exact ha.symm
    have C2 : OwnL nLay w2 base 3 pg 2 cg [(i : Int), (j : Int)] ∧ OwnL byLay w2 base 5 (some ⟨bs, 0, none⟩) 16 16 (secB S) ∧ OwnL byLay w2 base 5 (some ⟨bt, 0, none⟩) 16 16 (secB T) :=
      ⟨C0.1.keep k2' (fun a ha e => gx (e ▸ ha)), C0.2.1.keep k2' (fun a ha e => by injection ha with ha; injection ha with ha; omega), C0.2.2.keep k2' (fun a ha e => by injection ha with ha; injection ha with ha; omega)⟩
    refine ⟨C2, ?_⟩
    have y2 := (y1.keep kd (by simp)).keep k2' (fun a ha e => by injection ha with ha; injection ha with ha; omega)
    refine y2.stF (i := (k' : Int)) (n := 1) (t := 0) (y := secY i j S T ⟨k', hc⟩) rfl (by omega) (by rw [Int.toNat_natCast]; exact hgy) (by omega) rfl rfl fun w3 y3 k3 z3 => ?_
    have k3' : Keep (fun a => a = by_) w2 w3 := k3.mono fun a ha => by
      injection ha with ha
      injection ha with ha
      exact ha.symm
    have C3 : OwnL nLay w3 base 3 pg 2 cg [(i : Int), (j : Int)] ∧ OwnL byLay w3 base 5 (some ⟨bs, 0, none⟩) 16 16 (secB S) ∧ OwnL byLay w3 base 5 (some ⟨bt, 0, none⟩) 16 16 (secB T) :=
      ⟨C2.1.keep k3' (fun a ha e => gy (e ▸ ha)), C2.2.1.keep k3' (fun a ha e => by injection ha with ha; injection ha with ha; omega), C2.2.2.keep k3' (fun a ha e => by injection ha with ha; injection ha with ha; omega)⟩
    refine ⟨C3, ?_⟩
    have x3 := x2.keep k3' (fun a ha e => by injection ha with ha; injection ha with ha; omega)
    rw [Int.toNat_natCast, set_secB] at x3 y3
    have st : ∀ F : Sec, (fun a : Fin 16 => if a.val = k' then F ⟨k', hc⟩ else if a.val < k' then F a else sec [] a) = fun a => if a.val < k' + 1 then F a else sec [] a := by
      intro F
      funext a
      by_cases h1 : a.val = k'
      · rw [if_pos h1, if_pos (by omega)]
        have : a = ⟨k', hc⟩ := Fin.ext h1
        rw [this]
      · rw [if_neg h1]
        by_cases h2 : a.val < k'
        · rw [if_pos h2, if_pos (by omega)]
        · rw [if_neg h2, if_neg (by omega)]
    rw [st] at x3 y3
    have e3 : IntKind.wrap .i64 ((k' : Int) + 1) = ((k' + 1 : Nat) : Int) := by rw [wrapI (by omega) (by omega)]; omega
    exact ⟨_, by show (16 - IntKind.wrap .i64 ((k' : Int) + 1)).toNat < (16 - (k' : Int)).toNat; rw [e3]; omega, ⟨k' + 1, e3, by omega, x3, y3, ((k1.dr d).trans (k2'.mono fun a h => Or.inl h)).trans (k3'.mono fun a h => Or.inr h)⟩, rfl⟩
  · have hc : k' = 16 := by
      have : ¬ (k' : Int) < 16 := by simpa using hc
      omega
    subst hc
    have ex : ∀ F : Sec, (fun a : Fin 16 => if a.val < 16 then F a else sec [] a) = F := fun F => by funext a; rw [if_pos a.isLt]
    rw [ex] at x1 y1
    intro d
    have kd := Keep.drew (fun _ => False) w1 d
    refine ⟨fun _ => True, trivial, ?_⟩
    refine (og1.keep kd (by simp)).ld0 (i := 0) (n := 1) (x := (i : Int)) (v := .int .i64 (i : Int)) rfl (by omega) rfl rfl (OpI_int.2 ?_)
    refine (og1.keep kd (by simp)).ld0 (i := 1) (n := 1) (x := (j : Int)) (v := .int .i64 (j : Int)) rfl (by omega) rfl rfl (OpI_int.2 ?_)
    have ax : ¬ pa = some ⟨bx, 0, none⟩ := OwnL.ne ox oa (by decide) rfl
    have ay : ¬ pa = some ⟨by_, 0, none⟩ := OwnL.ne oy oa (by decide) rfl
    have oa1 := (oa.keep k1 fun a ha hb => by
      rcases hb with e | e
      · exact ax (e ▸ ha)
      · exact ay (e ▸ ha)).keep kd (by simp)
    have hla := oa.length
    obtain ⟨h0, hh0⟩ : ∃ h0, Hs[i]? = some h0 := ⟨_, List.getElem?_eq_getElem (by omega)⟩
    refine oa1.stF (i := (i : Int)) (n := 1) (t := 0) (x := h0) (y := (some ⟨bx, 0, none⟩, 16, 16)) rfl (by omega) (by rw [Int.toNat_natCast]; exact hh0) (by omega) rfl rfl fun w2 a2 k2 z2 => ?_
    rw [Int.toNat_natCast] at a2
    refine ⟨trivial, ?_⟩
    obtain ⟨h1, hh1⟩ : ∃ h1, (Hs.set i (some ⟨bx, 0, none⟩, 16, 16))[j]? = some h1 := ⟨_, List.getElem?_eq_getElem (by rw [List.length_set]; omega)⟩
    refine a2.stF (i := (j : Int)) (n := 1) (t := 0) (x := h1) (y := (some ⟨by_, 0, none⟩, 16, 16)) rfl (by omega) (by rw [Int.toNat_natCast]; exact hh1) (by omega) rfl rfl fun w3 a3 k3 z3 => ?_
    rw [Int.toNat_natCast] at a3
    refine ⟨trivial, ?_⟩
    have k13 := (kd.mono (S' := fun k => pa = some ⟨k, 0, none⟩) fun _ h => h.elim).trans (k2.trans k3)
    refine hK w3 a3 (x1.keep k13 fun a ha hb => ?_) (y1.keep k13 fun a ha hb => ?_) ((k1.mono fun a ha => ?_).trans (k13.mono fun a ha => Or.inr (Or.inr ha)))
    · cases ha; exact ax hb
    · cases ha; exact ay hb
    · rcases ha with e | e
      · exact Or.inl e
      · exact Or.inr (Or.inl e)
end calls
end Go.Proofs

/-
  PARITY: Recover, the whole.
-/
namespace Go.Proofs
open Go Go.Ev
set_option linter.unusedSimpArgs false
set_option linter.unusedVariables false
set_option maxRecDepth 100000

/-- a column in a row of one's own -/
def ColOwn (w : World) (base : Nat) (h : Option Addr × Nat × Nat) : Option Sec → Prop
  | none => h = (none, 0, 0)
  | some f => h.2.1 = 16 ∧ OwnL byLay w base 5 h.1 16 h.2.2 (secB f)
theorem len_two {α : Type} : ∀ {l : List α}, l.length = 2 → ∃ x y, l = [x, y]
  | [x, y], _ => ⟨x, y, rfl⟩

theorem ColOwn.at_ {w : World} {base : Nat} {h : Option Addr × Nat × Nat} : ∀ {C : Option Sec}, ColOwn w base h C → ColAt w h C
  | none, hc => hc
  | some f, ⟨h1, h2⟩ => by
    obtain ⟨b, cur, e, _⟩ := h2.cells (by omega)
    exact ⟨⟨b, 0, e⟩, h1, h2.cap.1, h2.sl⟩
theorem ColOwn.keep {w w' : World} {base : Nat} {h : Option Addr × Nat × Nat} : ∀ {C : Option Sec}, ColOwn w base h C → Keep (fun _ => False) w w' → ColOwn w' base h C
  | none, hc, _ => hc
  | some f, ⟨h1, h2⟩, k => ⟨h1, h2.keep k (by simp)⟩
theorem ColOwn.keepH {w w' : World} {base : Nat} {h : Option Addr × Nat × Nat} {S : Nat → Prop} : ∀ {C : Option Sec}, ColOwn w base h C → Keep S w w' → (∀ f k, C = some f → h.1 = some ⟨k, 0, none⟩ → ¬ S k) → ColOwn w' base h C
  | none, hc, _, _ => hc
  | some f, ⟨h1, h2⟩, k, hS => ⟨h1, h2.keep k fun a ha => hS f a rfl ha⟩
theorem ColOwn.hdr {w w' : World} {base b2 : Nat} {h : Option Addr × Nat × Nat} {C : Option Sec} {p : Option Addr} {l c : Nat} {e : TypeId} {α : Type} {L : Lay α} {Hs : List α} (hc : ColOwn w base h C) (ho : OwnL L w b2 e p l c Hs) (he : e ≠ 5) (k : Keep (fun k => p = some ⟨k, 0, none⟩) w w') : ColOwn w' base h C := by
  refine hc.keepH k fun f a hf ha => ?_
  subst hf
  exact OwnL.ne hc.2 ho (fun e' => he e'.symm) ha
/-- the columns in a row of headers that is one's own -/
structure All (w : World) (base : Nat) (p : Option Addr) (l c : Nat) (Z : List (Option Sec)) : Prop where
  ex : ∃ Hs, OwnL hLay w base 22 p l c Hs ∧ Hs.length = Z.length ∧ (∀ (k : Nat) h C, Hs[k]? = some h → Z[k]? = some C → ColOwn w base h C) ∧ ∀ C ∈ Z, ColOk C
theorem All.keep {w w' : World} {base : Nat} {p : Option Addr} {l c : Nat} {Z : List (Option Sec)} (h : All w base p l c Z) (k : Keep (fun _ => False) w w') : All w' base p l c Z := by
  obtain ⟨Hs, h1, h2, h3, h4⟩ := h.ex
  exact ⟨Hs, h1.keep k (by simp), h2, fun i a C x y => (h3 i a C x y).keep k, h4⟩
theorem All.cols {w : World} {base : Nat} {p : Option Addr} {l c : Nat} {Z : List (Option Sec)} (h : All w base p l c Z) : ∃ Hs, Cols w p l Hs Z := by
  obtain ⟨Hs, h1, h2, h3, h4⟩ := h.ex
  exact ⟨Hs, h1.sl, h2, fun i a C x y => (h3 i a C x y).at_, h4⟩
theorem ColAt.of {w : World} {base b c : Nat} {e : TypeId} {F : Sec} (h : OwnL byLay w base e (some ⟨b, 0, none⟩) 16 c (secB F)) : ColAt w (some ⟨b, 0, none⟩, 16, c) (some F) :=
  ⟨⟨b, 0, rfl⟩, rfl, h.cap.1, h.sl⟩
/-- one column of them is another one -/
theorem ColOwn.set {w : World} {base : Nat} {Hs : List (Option Addr × Nat × Nat)} {Z : List (Option Sec)} (hl : Hs.length = Z.length) (hat : ∀ (i : Nat) h C, Hs[i]? = some h → Z[i]? = some C → ColOwn w base h C) (i : Nat) {h : Option Addr × Nat × Nat} {C : Option Sec} (hc : ColOwn w base h C) :
    ∀ (k : Nat) h' C', (Hs.set i h)[k]? = some h' → (Z.set i C)[k]? = some C' → ColOwn w base h' C' := by
  intro k h' C' h1 h2
  by_cases hk : i = k
  · subst hk
    have hlt : i < (Hs.set i h).length := (List.getElem?_eq_some_iff.1 h1).1
    rw [List.length_set] at hlt
    rw [List.getElem?_set_self hlt] at h1
    rw [List.getElem?_set_self (by omega)] at h2
    cases h1
    cases h2
    exact hc
  · rw [List.getElem?_set_ne hk] at h1 h2
    exact hat k h' C' h1 h2
/-- what Recover gives: all columns, P and Q -/
def recP (Cs : List (Option Sec)) (Pc Qc : Option Sec) : Sec := Pc.getD (sumP (fixC Cs Pc Qc))
def recQ (Cs : List (Option Sec)) (Pc Qc : Option Sec) : Sec := Qc.getD (sumQ (fixC Cs Pc Qc))
/-- the end of Recover, as it is printed -/
def RcEnd (pa : Option Addr) (la ca : Nat) (pp : Option Addr) (pl pc : Nat) (qp : Option Addr) (ql qc : Nat) (w : World) (R : Value → World → Prop) : Prop :=
  CallV Tryz.prog 181 #[.slice pp pl pc] w
  fun v88 w => OpS v88 fun p19 l19 c19 => CallV Tryz.prog 181 #[.slice qp ql qc] w fun v89 w => OpS v89 fun p20 l20 c20 => CallV Tryz.prog 182 #[.slice pa la ca,
  .int .i64 16] w fun v90 w => T2 v90 fun v91 v92 => OpS v91 fun p21 l21 c21 => OpS v92 fun p22 l22 c22 => JoinC (σ := (Option Addr × Nat × Nat) × Unit) (fun J8 => Cb (((pl :
  Nat) : Int) == 0) (J8 ((p21, l21, c21), ()) w) (J8 ((p19, l19, c19), ()) w)) (fun _ s8 w => JoinC (σ := (Option Addr × Nat × Nat) × Unit) (fun J9 => Cb (((ql : Nat) : Int)
  == 0) (J9 ((p22, l22, c22), ()) w) (J9 ((p20, l20, c20), ()) w)) (fun _ s9 w => Ret [] (R (.tuple #[.slice pa la ca, .slice s8.1.1 s8.1.2.1 s8.1.2.2,
  .slice s9.1.1 s9.1.2.1 s9.1.2.2, .int .i64 0]) w)))
section calls
variable {w : World} {R : Value → World → Prop}
theorem rcEnd {base : Nat} {pa : Option Addr} {la ca : Nat} {hp hq : Option Addr × Nat × Nat} {Pc Qc : Option Sec} {Z : List (Option Sec)} (ha : All w base pa la ca Z) (hla : la ≤ 200) (cp : ColAt w hp Pc) (cq : ColAt w hq Qc)
    (hK : ∀ h1 h2 w', All w' base pa la ca Z → ColOwn w' 0 h1 (some (Pc.getD (sumP Z))) → ColOwn w' 0 h2 (some (Qc.getD (sumQ Z))) → Keep (fun _ => False) w w' → R (.tuple #[.slice pa la ca, .slice h1.1 h1.2.1 h1.2.2, .slice h2.1 h2.2.1 h2.2.2, .int .i64 0]) w') :
    RcEnd pa la ca hp.1 hp.2.1 hp.2.2 hq.1 hq.2.1 hq.2.2 w R := by
  unfold RcEnd
  refine p_Clone cp fun h1 w1 c1 ow1 k1 => OpS_slice.2 ?_
  refine p_Clone (cq.keep k1) fun h2 w2 c2 ow2 k2 => OpS_slice.2 ?_
  have k02 := k1.trans k2
  obtain ⟨Hs, hc⟩ := (ha.keep k02).cols
  refine p_sums hc hla fun bp bq w3 hne hbp hbq o1 o2 k3 => ?_
  refine T2_mk.2 (OpS_slice.2 (OpS_slice.2 ?_))
  have k03 := k02.trans k3
  refine ⟨fun st w' => w' = w3 ∧ ColOwn w3 0 st.1 (some (Pc.getD (sumP Z))), ?_, ?_⟩
  · cases Pc with
    | none =>
      have cp : hp = (none, 0, 0) := cp
      rw [cp]
      exact (Cb_true (q := _)).2 ⟨rfl, rfl, o1.rebase (Nat.zero_le _)⟩
    | some f =>
      have : hp.2.1 = 16 := cp.2.1
      rw [this]
      exact (Cb_false (p := _)).2 ⟨rfl, c1.2.1, (((ow1 f rfl).rebase (Nat.zero_le _)).keep k2 (by simp)).keep k3 (by simp)⟩
  rintro _ ⟨g1, u⟩ w4 ⟨hw, cg1⟩
  rw [hw]
  clear hw
  refine ⟨fun st w' => w' = w3 ∧ ColOwn w3 0 st.1 (some (Qc.getD (sumQ Z))), ?_, ?_⟩
  · cases Qc with
    | none =>
      have cq : hq = (none, 0, 0) := cq
      rw [cq]
      exact (Cb_true (q := _)).2 ⟨rfl, rfl, o2.rebase (Nat.zero_le _)⟩
    | some f =>
      have : hq.2.1 = 16 := cq.2.1
      rw [this]
      exact (Cb_false (p := _)).2 ⟨rfl, c2.2.1, ((ow2 f rfl).rebase (Nat.zero_le _)).keep k3 (by simp)⟩
  rintro _ ⟨g2, u⟩ w5 ⟨hw, cg2⟩
  rw [hw]
  clear hw
  exact Ret_nil.2 (hK g1 g2 w3 (ha.keep k03) cg1 cg2 k03)
theorem p_Recover {colsp : Option Addr} {colsl colsc : Nat} {hs : List (Option Addr × Nat × Nat)} {Cs : List (Option Sec)} {hp hq : Option Addr × Nat × Nat} {Pc Qc : Option Sec} (hc : Cols w colsp colsl hs Cs) (h1 : 1 ≤ colsl) (h2 : colsl ≤ 30) (cp : ColAt w hp Pc) (cq : ColAt w hq Qc) (okp : ColOk Pc) (okq : ColOk Qc)
    (hlost : lostN Cs + lostN [Pc, Qc] ≤ 2)
    (hK : ∀ pa ca g1 g2 w', All w' w.heap.size pa colsl ca (fixC Cs Pc Qc) → ColOwn w' 0 g1 (some (recP Cs Pc Qc)) → ColOwn w' 0 g2 (some (recQ Cs Pc Qc)) → Keep (fun _ => False) w w' → R (.tuple #[.slice pa colsl ca, .slice g1.1 g1.2.1 g1.2.2, .slice g2.1 g2.2.1 g2.2.2, .int .i64 0]) w') :
    CallV Tryz.prog 110 #[.slice colsp colsl colsc, .slice hp.1 hp.2.1 hp.2.2, .slice hq.1 hq.2.1 hq.2.2] w R := by
  apply C_parity_Recover
  unfold F_parity_Recover
  have hll := hc.sl.1
  have hlc := hc.len
  refine ⟨_, _, bsl_h2 _ _ _ _ _ _ w, OpS_slice.2 ?_⟩
  have k1 := Keep.new (fun _ => False) w (.cells #[.slice hp.1 hp.2.1 hp.2.2, .slice hq.1 hq.2.1 hq.2.2] 22)
  have hb1 := Has.new w (.cells #[.slice hp.1 hp.2.1 hp.2.2, .slice hq.1 hq.2.1 hq.2.2] 22)
  generalize hw1 : w.alloc (.cells #[.slice hp.1 hp.2.1 hp.2.2, .slice hq.1 hq.2.1 hq.2.2] 22) = w1 at *
  have hc1 := hc.keepB k1 (by simp)
  have o1 : OwnL hLay w1 w.heap.size 22 (some ⟨w.heap.size, 0, none⟩) 2 2 [hp, hq] := OwnL.mk (xs := [hp, hq]) (Nat.le_refl _) hb1 (by simp [maxLen]) rfl
  have hm1 : Cols w1 (some ⟨w.heap.size, 0, none⟩) 2 [hp, hq] [Pc, Qc] := by
    refine ⟨o1.sl, rfl, fun i h C hh hC => ?_, ?_⟩
    · match i, hh, hC with
      | 0, hh, hC => cases hh; cases hC; exact cp.keep k1
      | 1, hh, hC => cases hh; cases hC; exact cq.keep k1
      | i + 2, hh, hC => simp at hh
    · intro C hC
      simp only [List.mem_cons, List.not_mem_nil, or_false] at hC
      rcases hC with rfl | rfl
      · exact okp
      · exact okq
  have hsome : ∃ f, some f ∈ Cs ++ [Pc, Qc] := by
    refine Classical.byContradiction fun hn => ?_
    have : lostN (Cs ++ [Pc, Qc]) = (Cs ++ [Pc, Qc]).length := by
      unfold lostN
      rw [List.filter_eq_self.2]
      intro C hC
      cases C with
      | none => rfl
      | some f => exact absurd ⟨f, hC⟩ hn
    rw [lostN_append, List.length_append] at this
    simp only [List.length_cons, List.length_nil] at this
    omega
  refine p_width hc1 hm1 h1 h2 (by omega) hsome fun w2 k2 => ?_
  rw [lostN_append]
  refine T2_mk.2 (OpI_int.2 (OpI_int.2 ((Cb_false (p := _)).2 ?_)))
  rw [decide_eq_false (by omega)]
  refine (Cb_false (p := _)).2 ?_
  have k02 := k1.trans k2
  have hc2 := hc.keepB k02 (by simp)
  -- the columns are cloned
  refine LoopC_of (σ := (Option Addr × Nat × Nat) × (Option Addr × Nat × Nat) × Int × Unit) (fun st w' => ∃ (i : Nat) (Hs : List (Option Addr × Nat × Nat)), st.2.2.1 = (i : Int) ∧ i ≤ colsl ∧ OwnL hLay w' w.heap.size 22 st.1.1 st.1.2.1 st.1.2.2 Hs ∧ Hs.length = i ∧ (∀ (k : Nat) h C, Hs[k]? = some h → Cs[k]? = some C → ColOwn w' w.heap.size h C) ∧ OwnL nLay w' w.heap.size 3 st.2.1.1 st.2.1.2.1 st.2.1.2.2 (goneI Cs i) ∧ Keep (fun _ => False) w w') (fun st _ => (colsl - st.2.2.1).toNat)
    ⟨0, [], rfl, by omega, OwnL.nil, rfl, by simp, OwnL.nil, k02⟩ ?_
  rintro _ ⟨⟨pa, la, ca⟩, ⟨pg, lg, cg⟩, i, u⟩ w3 ⟨i', Hs, hi, hil, oa, hHl, hat, og, k3⟩
  simp only at hi oa og ⊢
  subst hi
  have hc3 := hc.keepB k3 (by simp)
  refine Cb_of (fun hcc => ?_) (fun hcc => ?_)
  · have hcc : i' < colsl := by
      have : (i' : Int) < (colsl : Int) := by simpa using hcc
      omega
    obtain ⟨h, hh⟩ : ∃ h, hs[i']? = some h := ⟨_, List.getElem?_eq_getElem (by omega)⟩
    obtain ⟨C, hC⟩ : ∃ C, Cs[i']? = some C := ⟨_, List.getElem?_eq_getElem (by omega)⟩
    have hcat := hc3.at_ i' h C hh hC
    refine hc3.sl.ld0 (i := (i' : Int)) (n := 1) (x := h) (v := .slice h.1 h.2.1 h.2.2) rfl (by omega) (by simpa using hh) rfl (OpS_slice.2 ?_)
    refine p_Clone hcat fun h' w4 c4 o4 k4 => OpS_slice.2 ?_
    refine ⟨_, _, bsl_h1 _ _ _ w4, OpS_slice.2 ?_⟩
    have k5 := Keep.new (fun _ => False) w4 (.cells #[.slice h'.1 h'.2.1 h'.2.2] 22)
    have hb5 := Has.new w4 (.cells #[.slice h'.1 h'.2.1 h'.2.2] 22)
    generalize w4.alloc (.cells #[.slice h'.1 h'.2.1 h'.2.2] 22) = w5 at *
    have k35 := k4.trans k5
    have hla := oa.length
    have z3 := k3.size
    have z5 := k35.size
    obtain ⟨p6, c6, w6, hr6, o6, k6, hp6⟩ := run_appendF1 hLayT (oa.keep k35 (by simp)) (y := h') hb5 rfl (ty := 187) (by omega) (by simp only [maxLen]; omega) (by omega) (c2 := 1)
    refine ⟨_, _, hr6, OpS_slice.2 ?_⟩
    have hat5 : ∀ (k : Nat) g D, Hs[k]? = some g → Cs[k]? = some D → ColOwn w6 w.heap.size g D := fun k g D h1 h2 => ((hat k g D h1 h2).keep k35).hdr (oa.keep k35 (by simp)) (by decide) k6
    have own5 : ColOwn w6 w.heap.size h' C := by
      have h5 : ColOwn w5 w.heap.size h' C := by
        cases C with
        | none => exact c4
        | some f => exact ⟨c4.2.1, ((o4 f rfl).rebase z3).keep k5 (by simp)⟩
      exact h5.hdr (oa.keep k35 (by simp)) (by decide) k6
    have og6 : OwnL nLay w6 w.heap.size 3 pg lg cg (goneI Cs i') := (og.keep k35 (by simp)).keep k6 fun k hk he => OwnL.ne (og.keep k35 (by simp)) (oa.keep k35 (by simp)) (by decide) hk he
    have k36 : Keep (fun _ => False) w w6 := (k3.trans k35).trans' k6 fun k hk he => by have := (oa.lt he).1; omega
    have e3 : IntKind.wrap .i64 ((i' : Int) + 1) = ((i' + 1 : Nat) : Int) := by rw [wrapI (by omega) (by omega)]; omega
    have hat6 : ∀ (k : Nat) g D, (Hs ++ [h'])[k]? = some g → Cs[k]? = some D → ColOwn w6 w.heap.size g D := by
      intro k g D h1 h2
      by_cases hk : k < Hs.length
      · rw [List.getElem?_append_left hk] at h1
        exact hat5 k g D h1 h2
      · rw [List.getElem?_append_right (by omega)] at h1
        have hk0 : k - Hs.length = 0 := by
          have := (List.getElem?_eq_some_iff.1 h1).1
          simp at this
          omega
        rw [hk0] at h1
        cases h1
        have : k = i' := by omega
        subst this
        rw [hC] at h2
        cases h2
        exact own5
    refine ⟨fun st w' => OwnL hLay w' w.heap.size 22 p6 (la + 1) c6 (Hs ++ [h']) ∧ (∀ (k : Nat) g D, (Hs ++ [h'])[k]? = some g → Cs[k]? = some D → ColOwn w' w.heap.size g D) ∧ OwnL nLay w' w.heap.size 3 st.1.1 st.1.2.1 st.1.2.2 (goneI Cs (i' + 1)) ∧ Keep (fun _ => False) w w', ?_, ?_⟩
    · have hgs : goneI Cs (i' + 1) = goneI Cs i' ++ (if isGone Cs[i']? = true then [(i' : Int)] else []) := rfl
      cases C with
      | none =>
        have : h = (none, 0, 0) := hcat
        subst this
        refine (Cb_true (q := _)).2 ?_
        refine ⟨_, _, bsl_n1 _ w6, OpS_slice.2 ?_⟩
        have k7 := Keep.new (fun _ => False) w6 (.cells #[.int .i64 (i' : Int)] 3)
        have hb7 := Has.new w6 (.cells #[.int .i64 (i' : Int)] 3)
        generalize w6.alloc (.cells #[.int .i64 (i' : Int)] 3) = w7 at *
        have hlg := og.length
        have hlgl : (goneI Cs i').length ≤ i' := by rw [goneI_len Cs i' (by omega)]; exact Nat.le_trans (lostN_le _) (by rw [List.length_take]; omega)
        have z6 := k36.size
        have z7 := k7.size
        obtain ⟨p8, c8, w8, hr8, o8, k8, hp8⟩ := run_appendF1 nLayT (og6.keep k7 (by simp)) (y := (i' : Int)) hb7 rfl (ty := 69) (by omega) (by simp only [maxLen]; omega) (by omega) (c2 := 1)
        refine ⟨_, _, hr8, OpS_slice.2 ⟨?_, ?_, ?_, ?_⟩⟩
        · exact (o6.keep k7 (by simp)).keep k8 fun k hk he => OwnL.ne (o6.keep k7 (by simp)) (og6.keep k7 (by simp)) (by decide) hk he
        · exact fun k g D h1 h2 => ((hat6 k g D h1 h2).keep k7).hdr (og6.keep k7 (by simp)) (by decide) k8
        · rw [hgs, hC, if_pos (show isGone (some none) = true from rfl)]; exact o8
        · exact (k36.trans k7).trans' k8 fun k hk he => by have := (og6.lt he).1; omega
      | some f =>
        have : h.2.1 = 16 := hcat.2.1
        rw [this]
        refine (Cb_false (p := _)).2 ⟨o6, hat6, ?_, k36⟩
        rw [hgs, hC, if_neg (by simp [isGone]), List.append_nil]; exact og6
    rintro _ ⟨⟨p9, l9, c9⟩, u⟩ w9 ⟨a9, b9, d9, k9⟩
    exact ⟨_, by show ((colsl : Int) - IntKind.wrap .i64 ((i' : Int) + 1)).toNat < ((colsl : Int) - (i' : Int)).toNat; rw [e3]; omega, ⟨i' + 1, Hs ++ [h'], e3, by omega, a9, by simp [hHl], b9, d9, k9⟩, rfl⟩
  · have hcc : i' = colsl := by
      have : ¬ (i' : Int) < (colsl : Int) := by simpa using hcc
      omega
    have hla : la = colsl := by have := oa.length; omega
    subst hla
    have hi'C : i' = Cs.length := by omega
    have hgl : goneI Cs i' = goneL Cs := by rw [hi'C]; rfl
    rw [hgl] at og
    have hglen := goneL_len Cs
    have hglg := og.length
    have hSok := miss_ok hc.ok okp
    have hTok := miss_ok hc.ok okq
    -- the sums, and what is missing
    refine p_sums hc3 (by omega) fun bp bq w4 hne hbp hbq os ot k4 => ?_
    refine T2_mk.2 (OpS_slice.2 (OpS_slice.2 ?_))
    have z3 := k3.size
    have k04 := k3.trans k4
    have blk : ∀ {h : Option Addr × Nat × Nat} {C : Option Sec}, ColAt w h C → ∀ b o, h.1 = some ⟨b, o, none⟩ → b < w.heap.size := by
      intro h C hcat b o hpp
      cases C with
      | none =>
        have : h = (none, 0, 0) := hcat
        rw [this] at hpp
        cases hpp
      | some f =>
        obtain ⟨_, _, _, hs4⟩ := hcat
        rw [hpp] at hs4
        exact SlL.blk_lt hs4 (by omega)
    refine p_add (g := 1) os (sumI_ok (fun _ => by omega) hc.ok _) (cp.keepB k04 (by simp)) okp (by omega) (fun b' o hpp => by have := blk cp b' o hpp; omega) fun w5 os5 k5 => ?_
    have ot5 := ot.keep k5 fun k hk he => by
      injection hk with hk
      injection hk with hk
      omega
    have k05 : Keep (fun _ => False) w w5 := k04.trans' k5 fun k hk he => by omega
    refine p_add (g := 1) ot5 (sumI_ok expN_lt hc.ok _) (cq.keepB k05 (by simp)) okq (by omega) (fun b' o hpp => by have := blk cq b' o hpp; omega) fun w6 ot6 k6 => ?_
    have os6 := os5.keep k6 fun k hk he => by
      injection hk with hk
      injection hk with hk
      omega
    have k06 : Keep (fun _ => False) w w6 := k05.trans' k6 fun k hk he => by omega
    have k36 : Keep (fun _ => False) w3 w6 := (k4.trans' k5 fun k hk he => by omega).trans' k6 fun k hk he => by omega
    have os6 : OwnL byLay w6 w.heap.size 5 (some ⟨bp, 0, none⟩) 16 16 (secB (missP Cs Pc)) := os6.rebase z3
    have ot6 : OwnL byLay w6 w.heap.size 5 (some ⟨bq, 0, none⟩) 16 16 (secB (missQ Cs Qc)) := ot6.rebase z3
    have oa6 := oa.keep k36 (by simp)
    have og6 := og.keep k36 (by simp)
    have hat6 : ∀ (k : Nat) h C, Hs[k]? = some h → Cs[k]? = some C → ColOwn w6 w.heap.size h C := fun k h C h1 h2 => (hat k h C h1 h2).keep k36
    -- columns that are lost
    have fin : ∀ {w7 : World}, All w7 w.heap.size pa la ca (fixC Cs Pc Qc) → Keep (fun _ => False) w w7 → RcEnd pa la ca hp.1 hp.2.1 hp.2.2 hq.1 hq.2.1 hq.2.2 w7 R := by
      intro w7 hA k7
      refine rcEnd hA (by omega) (cp.keepB k7 (by simp)) (cq.keepB k7 (by simp)) fun g1 g2 w8 hA8 c1 c2 k8 => ?_
      exact hK pa ca g1 g2 w8 hA8 c1 c2 (k7.trans k8)
    refine ⟨fun _ w7 => All w7 w.heap.size pa la ca (fixC Cs Pc Qc) ∧ Keep (fun _ => False) w w7, ?_, ?_⟩
    rotate_left
    · rintro _ u w7 ⟨hA, k7⟩
      exact fin hA k7
    have hokF := fixC_ok (Pc := Pc) (Qc := Qc) hc.ok okp okq
    have one : ∀ {i : Nat} {F : Sec} {b7 : Nat} {w7 : World}, goneL Cs = [(i : Int)] → fixC Cs Pc Qc = Cs.set i (some F) → OwnL byLay w7 w.heap.size 5 (some ⟨b7, 0, none⟩) 16 16 (secB F) → Keep (fun _ => False) w w7 → OwnL hLay w7 w.heap.size 22 pa la ca Hs → OwnL nLay w7 w.heap.size 3 pg lg cg (goneL Cs) → (∀ (k : Nat) h C, Hs[k]? = some h → Cs[k]? = some C → ColOwn w7 w.heap.size h C) →
        IdxS pg lg 0 1 fun b1 o1 => LdV b1 o1 (At w7) fun v15 => OpI .i64 v15 fun n2 => IdxS pa la n2 1 fun b2 o2 => StV b2 o2 (.slice (some ⟨b7, 0, none⟩) 16 16) w7 fun w8 => All w8 w.heap.size pa la ca (fixC Cs Pc Qc) ∧ Keep (fun _ => False) w w8 := by
      intro i F b7 w7 hG hF oF k7 oa7 og7 hat7
      rw [hG] at og7
      refine og7.ld0 (i := 0) (n := 1) (x := (i : Int)) (v := .int .i64 (i : Int)) rfl (by omega) rfl rfl (OpI_int.2 ?_)
      obtain ⟨n, hn1, hn2, hn3⟩ := goneI_lt Cs Cs.length (i : Int) (by show _ ∈ goneL Cs; rw [hG]; simp)
      have hni : n = i := by omega
      subst hni
      obtain ⟨h0, hh0⟩ : ∃ h0, Hs[n]? = some h0 := ⟨_, List.getElem?_eq_getElem (by omega)⟩
      refine oa7.stF (i := (n : Int)) (n := 1) (t := 0) (x := h0) (y := (some ⟨b7, 0, none⟩, 16, 16)) rfl (by omega) (by rw [Int.toNat_natCast]; exact hh0) (by omega) rfl rfl fun w8 a8 k8 z8 => ?_
      rw [Int.toNat_natCast] at a8
      have k08 : Keep (fun _ => False) w w8 := k7.trans' k8 fun k hk he => by have := (oa7.lt he).1; omega
      have hF8 : ColOwn w7 w.heap.size (some ⟨b7, 0, none⟩, 16, 16) (some F) := ⟨rfl, oF⟩
      refine ⟨⟨_, a8, by rw [hF, List.length_set, List.length_set]; omega, ?_, hokF⟩, k08⟩
      rw [hF]
      intro k h C h1 h2
      exact (ColOwn.set (by omega) hat7 n hF8 k h C h1 h2).hdr oa7 (by decide) k8
    have hpl : lostN [Pc, Qc] = (if Pc.isNone = true then 1 else 0) + (if Qc.isNone = true then 1 else 0) := by
      cases Pc <;> cases Qc <;> rfl
    have gidx : ∀ x ∈ goneL Cs, ∃ n : Nat, x = (n : Int) ∧ n < Cs.length ∧ Cs[n]? = some none := fun x hx => goneI_lt Cs Cs.length x hx
    -- nothing is lost
    have none_ : goneL Cs = [] → All w6 w.heap.size pa la ca (fixC Cs Pc Qc) ∧ Keep (fun _ => False) w w6 := by
      intro hG
      have hF : fixC Cs Pc Qc = Cs := by unfold fixC; rw [hG]
      rw [hF]
      exact ⟨⟨Hs, oa6, by omega, hat6, hc.ok⟩, k06⟩
    refine Cb_of (fun h1 => ?_) (fun h1 => ?_)
    · have h1 : lg = 1 := by
        have : ((lg : Nat) : Int) = 1 := by simpa using h1
        omega
      obtain ⟨i, hG, hi30⟩ : ∃ i : Nat, goneL Cs = [(i : Int)] ∧ i < 30 := by
        obtain ⟨x, hx⟩ := List.length_eq_one_iff.1 (show (goneL Cs).length = 1 by omega)
        obtain ⟨n, hn, hn2, _⟩ := gidx x (by rw [hx]; simp)
        exact ⟨n, by rw [hx, hn], by omega⟩
      refine Cb_of (fun h2 => ?_) (fun h2 => ?_)
      · have h2 : hp.2.1 > 0 := by
          have : ((hp.2.1 : Nat) : Int) > 0 := by simpa using h2
          omega
        have hPs : Pc.isSome = true := by
          cases Pc with
          | none =>
            have : hp = (none, 0, 0) := cp
            rw [this] at h2
            simp at h2
          | some f => rfl
        have hF : fixC Cs Pc Qc = Cs.set i (some (missP Cs Pc)) := by
          unfold fixC
          rw [hG]
          simp only [hPs, if_true, Int.toNat_natCast]
        exact one hG hF os6 k06 oa6 og6 hat6
      · have h2 : ¬ hp.2.1 > 0 := by
          have : ¬ ((hp.2.1 : Nat) : Int) > 0 := by simpa using h2
          omega
        have hPn : Pc.isSome = false := by
          cases Pc with
          | none => rfl
          | some f =>
            have : hp.2.1 = 16 := cp.2.1
            omega
        have hF : fixC Cs Pc Qc = Cs.set i (some (xadd (powN (expN i) 254) (sec []) (missQ Cs Qc))) := by
          unfold fixC
          rw [hG]
          simp only [hPn, Int.toNat_natCast]
          rfl
        rw [h1]
        refine (Cb_true (q := _)).2 ?_
        have og6' := og6
        rw [hG, h1] at og6'
        refine og6'.ld0 (i := 0) (n := 1) (x := (i : Int)) (v := .int .i64 (i : Int)) rfl (by omega) rfl rfl (OpI_int.2 ?_)
        refine g_Exp (by omega) (OpI_int.2 ?_)
        refine g_Inv (exp_ne0 hi30) exp_lt ?_
        refine T2_mk.2 (OpI_int.2 (OpI_int.2 ?_))
        obtain ⟨w7, hr7, o7, k7, z7⟩ := run_mk16 w6
        refine ⟨_, _, hr7, OpS_slice.2 ?_⟩
        have ot7 := ot6.keep k7 (by simp)
        have hbq6 : bq < w6.heap.size := by
          have := (ot6.lt rfl).2
          exact this
        refine p_add (g := powN (expN i) 254) (h := (some ⟨bq, 0, none⟩, 16, 16)) (C := some (missQ Cs Qc)) o7 sec0_ok (ColAt.of ot7) hTok.2 (powN_lt exp_lt) (fun b' o hpp => by cases hpp; omega) fun w8 o8 k8 => ?_
        have k68 : Keep (fun _ => False) w6 w8 := k7.trans' k8 fun k hk he => by omega
        have z06 := k06.size
        have := one hG hF (o8.rebase z06) (k06.trans k68) (oa6.keep k68 (by simp)) (og6.keep k68 (by simp)) (fun k h C h1 h2 => (hat6 k h C h1 h2).keep k68)
        rw [h1] at this
        exact this
    · have h1 : lg ≠ 1 := by
        intro e
        rw [e] at h1
        cases h1
      have h1b : (((lg : Nat) : Int) == 1) = false := by
        rw [beq_eq_false_iff_ne]; omega
      rw [h1b]
      refine (Cb_false (p := _)).2 ?_
      refine Cb_of (fun h2 => ?_) (fun h2 => ?_)
      · have h2 : lg = 2 := by
          have : ((lg : Nat) : Int) = 2 := by simpa using h2
          omega
        obtain ⟨i, j, hG, hij, hi30, hj30⟩ : ∃ i j : Nat, goneL Cs = [(i : Int), (j : Int)] ∧ i ≠ j ∧ i < Cs.length ∧ j < Cs.length := by
          obtain ⟨x, y, hx⟩ : ∃ x y, goneL Cs = [x, y] := len_two (show (goneL Cs).length = 2 by omega)
          obtain ⟨n, hn, hn2, _⟩ := gidx x (by rw [hx]; simp)
          obtain ⟨m, hm, hm2, _⟩ := gidx y (by rw [hx]; simp)
          have hs := goneI_sorted Cs Cs.length
          have hs : (goneL Cs).Pairwise (· < ·) := hs
          rw [hx] at hs
          have : x < y := by simpa using hs
          exact ⟨n, m, by rw [hx, hn, hm], by omega, hn2, hm2⟩
        have hF : fixC Cs Pc Qc = (Cs.set i (some (secX i j (missP Cs Pc) (missQ Cs Qc)))).set j (some (secY i j (missP Cs Pc) (missQ Cs Qc))) := by
          unfold fixC
          rw [hG]
          simp only [Int.toNat_natCast]
        rw [hG, h2] at og6
        rw [h2]
        have z06 := k06.size
        have hbp6 : bp < w6.heap.size := (os6.lt rfl).2
        have hbq6 : bq < w6.heap.size := (ot6.lt rfl).2
        have two : ∀ {bx by_ : Nat} {w8 : World}, bx ≠ by_ → w6.heap.size ≤ bx → w6.heap.size ≤ by_ → Keep (fun _ => False) w6 w8 → OwnL byLay w8 w.heap.size 5 (some ⟨bx, 0, none⟩) 16 16 (secB (sec [])) → OwnL byLay w8 w.heap.size 5 (some ⟨by_, 0, none⟩) 16 16 (secB (sec [])) →
            TwoT pg 2 (some ⟨bp, 0, none⟩) 16 (some ⟨bq, 0, none⟩) 16 (some ⟨bx, 0, none⟩) 16 16 (some ⟨by_, 0, none⟩) 16 16 pa la w8 fun _ w7 => All w7 w.heap.size pa la ca (fixC Cs Pc Qc) ∧ Keep (fun _ => False) w w7 := by
          intro bx by_ w8 hxy hx hy k8 ox oy
          refine twoT hSok.1 hTok.2 (by omega) (by omega) hij (by omega) (by omega) (og6.keep k8 (by simp)) (os6.keep k8 (by simp)) (ot6.keep k8 (by simp)) ox oy (oa6.keep k8 (by simp)) hxy (by omega) (by omega) (by omega) (by omega) fun w9 a9 x9 y9 k9 => ?_
          have k09 : Keep (fun _ => False) w w9 := (k06.trans k8).trans' k9 fun k hk he => by
            rcases he with e | e | e
            · omega
            · omega
            · have := (oa6.lt e).1; omega
          have hat9 : ∀ (k : Nat) h C, Hs[k]? = some h → Cs[k]? = some C → ColOwn w9 w.heap.size h C := fun k h C h1 h2 => ((hat6 k h C h1 h2).keep k8).keepH k9 fun f a hf ha he => by
            subst hf
            have hlt := ((hat6 k h (some f) h1 h2).2.lt ha).2
            rcases he with e | e | e
            · omega
            · omega
            · exact OwnL.ne (hat6 k h (some f) h1 h2).2 oa6 (by decide) ha e
          refine ⟨⟨_, a9, by rw [hF]; simp only [List.length_set]; omega, ?_, hokF⟩, k09⟩
          rw [hF]
          refine ColOwn.set (by simp only [List.length_set]; omega) (ColOwn.set (by omega) hat9 i (C := some (secX i j (missP Cs Pc) (missQ Cs Qc))) ⟨rfl, x9⟩) j (C := some (secY i j (missP Cs Pc) (missQ Cs Qc))) ⟨rfl, y9⟩
        intro d
        have kd := Keep.drew (fun _ => False) w6 d
        refine ⟨fun _ => True, trivial, ?_, ?_⟩
        · obtain ⟨w7, hr7, o7, k7, z7⟩ := run_mk16 (w6.dr d)
          refine ⟨_, _, hr7, OpS_slice.2 ⟨trivial, ?_⟩⟩
          obtain ⟨w8, hr8, o8, k8, z8⟩ := run_mk16 w7
          refine ⟨_, _, hr8, OpS_slice.2 ⟨trivial, ?_⟩⟩
          have z7 : w7.heap.size = w6.heap.size + 1 := z7
          have e6 : (w6.dr d).heap.size = w6.heap.size := rfl
          rw [e6] at o7
          exact two (by rw [e6]; omega) (by rw [e6]; omega) (by omega) ((kd.trans k7).trans k8) ((o7.rebase z06).keep k8 (by simp)) (o8.rebase (by omega))
        · obtain ⟨w7, hr7, o7, k7, z7⟩ := run_mk16 (w6.dr d)
          refine ⟨_, _, hr7, OpS_slice.2 ⟨trivial, ?_⟩⟩
          obtain ⟨w8, hr8, o8, k8, z8⟩ := run_mk16 w7
          refine ⟨_, _, hr8, OpS_slice.2 ⟨trivial, ?_⟩⟩
          have z7 : w7.heap.size = w6.heap.size + 1 := z7
          have e6 : (w6.dr d).heap.size = w6.heap.size := rfl
          rw [e6] at o7
          exact two (by rw [e6]; omega) (by omega) (by rw [e6]; omega) ((kd.trans k7).trans k8) (o8.rebase (by omega)) ((o7.rebase z06).keep k8 (by simp))
      · have h2 : lg = 0 := by
          have : ¬ ((lg : Nat) : Int) = 2 := by simpa using h2
          omega
        refine none_ ?_
        exact List.eq_nil_of_length_eq_zero (by omega)
end calls
end Go.Proofs
