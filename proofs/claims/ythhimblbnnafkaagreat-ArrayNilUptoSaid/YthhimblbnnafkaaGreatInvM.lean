import Derived.Test.YthhimblbnnafkaaGreatPlanM
import Derived.Test.YthhimblbnnafkaaGreatSetM

/-
  ROWS THAT ARE TRUE: what was lost is had again. Plain.
-/
namespace Go.Proofs
open Go Go.Ev
set_option linter.unusedSimpArgs false
set_option linter.unusedVariables false
set_option maxRecDepth 100000

theorem sumI_at (co : Nat → Nat) (Cs : List (Option Sec)) (k : Nat) : sumI co Cs (k + 1) = xaddO (co k) (sumI co Cs k) (Cs.getD k none) := rfl
theorem getD_set_self {α : Type} {l : List α} {i : Nat} (h : i < l.length) (a d : α) : (l.set i a).getD i d = a := by
  rw [List.getD_eq_getElem?_getD, List.getElem?_set_self h]; rfl
theorem getD_set_ne {α : Type} {l : List α} {i j : Nat} (h : i ≠ j) (a d : α) : (l.set i a).getD j d = l.getD j d := by
  rw [List.getD_eq_getElem?_getD, List.getElem?_set_ne h, List.getD_eq_getElem?_getD]
theorem xadd_nat {g : Nat} {f y : Sec} (k : Fin 16) : (xadd g f y k).toNat = (f k).toNat ^^^ gmN g (y k).toNat := by unfold xadd; omega
/-- one column more in a sum -/
theorem sumI_set {co : Nat → Nat} {D : List (Option Sec)} {i : Nat} {x : Sec} (hi : i < D.length) (hn : D[i]? = some none) (b : Fin 16) : ∀ k, (sumI co (D.set i (some x)) k b).toNat = if i < k then (sumI co D k b).toNat ^^^ gmN (co i) (x b).toNat else (sumI co D k b).toNat
  | 0 => by rw [if_neg (by omega)]; rfl
  | k + 1 => by
    have ih := sumI_set (co := co) (x := x) hi hn b k
    rw [sumI_at, sumI_at]
    by_cases hk : i = k
    · subst hk
      have e : D.getD i none = none := by rw [List.getD_eq_getElem?_getD, hn]; rfl
      rw [getD_set_self hi, e, if_pos (by omega)]
      show (xadd (co i) _ x b).toNat = (sumI co D i b).toNat ^^^ _
      rw [xadd_nat, ih, if_neg (by omega)]
    · rw [getD_set_ne hk]
      cases hC : D.getD k none with
      | none =>
        show (sumI co (D.set i (some x)) k b).toNat = if i < k + 1 then (sumI co D k b).toNat ^^^ _ else (sumI co D k b).toNat
        rw [ih]
        by_cases h : i < k
        · rw [if_pos h, if_pos (by omega)]
        · rw [if_neg h, if_neg (by omega)]
      | some y =>
        show (xadd (co k) _ y b).toNat = if i < k + 1 then (xadd (co k) _ y b).toNat ^^^ _ else (xadd (co k) _ y b).toNat
        rw [xadd_nat, xadd_nat, ih]
        by_cases h : i < k
        · rw [if_pos h, if_pos (by omega), Nat.xor_assoc, Nat.xor_assoc, Nat.xor_comm (gmN (co i) _)]
        · rw [if_neg h, if_neg (by omega)]
theorem sumI_one {co : Nat → Nat} {D : List (Option Sec)} {i : Nat} {x : Sec} (hi : i < D.length) (hn : D[i]? = some none) (b : Fin 16) : (sumI co (D.set i (some x)) (D.set i (some x)).length b).toNat = (sumI co D D.length b).toNat ^^^ gmN (co i) (x b).toNat := by
  rw [List.length_set, sumI_set hi hn, if_pos hi]
/-- the columns of a row are true, as far as they can be read -/
structure TrueRow (T : List Sec) (D : List (Option Sec)) (P Q : Option Sec) : Prop where
  len : T.length = D.length
  dat : ∀ (k : Nat) f, D[k]? = some (some f) → T[k]? = some f
  ok : ∀ f ∈ T, SecOk f
  p : ∀ f, P = some f → f = sumP (T.map some)
  q : ∀ f, Q = some f → f = sumQ (T.map some)
theorem sec_ext {f g : Sec} (hf : SecOk f) (hg : SecOk g) (h : ∀ b, (f b).toNat = (g b).toNat) : f = g := by
  funext b
  have h1 := nat_of (hf b)
  have h2 := nat_of (hg b)
  have := h b
  omega
theorem lost_zero {D : List (Option Sec)} (h : goneL D = []) : ∀ C ∈ D, ∃ f, C = some f := by
  intro C hC
  cases C with
  | some f => exact ⟨f, rfl⟩
  | none =>
    obtain ⟨n, hn⟩ := List.getElem?_of_mem hC
    have := gone_mem hn
    rw [h] at this
    cases this
/-- how the true columns differ from what can be read -/
theorem TrueRow.map {T : List Sec} {D Z : List (Option Sec)} {P Q : Option Sec} (h : TrueRow T D P Q) (hl : Z.length = D.length) (hZ : ∀ (k : Nat) C, Z[k]? = some C → (∃ f, C = some f ∧ D[k]? = some (some f)) ∨ C = T[k]?) : T.map some = Z := by
  apply List.ext_getElem?
  intro k
  rw [List.getElem?_map]
  by_cases hk : k < Z.length
  · obtain ⟨C, hC⟩ : ∃ C, Z[k]? = some C := ⟨_, List.getElem?_eq_getElem hk⟩
    obtain ⟨t, hT⟩ : ∃ t, T[k]? = some t := ⟨_, List.getElem?_eq_getElem (by rw [h.len]; omega)⟩
    rw [hC]
    rcases hZ k C hC with ⟨f, rfl, hf⟩ | rfl
    · rw [h.dat k f hf]; rfl
    · rw [hT]; rfl
  · rw [List.getElem?_eq_none (by rw [h.len]; omega), List.getElem?_eq_none (by omega)]; rfl
theorem xor_back (a x : Nat) : a ^^^ (a ^^^ x) = x := by rw [← Nat.xor_assoc, Nat.xor_self, Nat.zero_xor]
theorem TrueRow.none_ {T : List Sec} {D : List (Option Sec)} {P Q : Option Sec} (h : TrueRow T D P Q) (hg : goneL D = []) : T.map some = D :=
  h.map rfl fun k C hC => by
    obtain ⟨f, rfl⟩ := lost_zero hg C (List.mem_of_getElem? hC)
    exact Or.inl ⟨f, rfl, hC⟩
theorem gone_not {D : List (Option Sec)} {k : Nat} (h : (k : Int) ∉ goneL D) {C : Option Sec} (hC : D[k]? = some C) : ∃ f, C = some f := by
  cases C with
  | some f => exact ⟨f, rfl⟩
  | none => exact absurd (gone_mem hC) h
theorem TrueRow.one_ {T : List Sec} {D : List (Option Sec)} {P Q : Option Sec} (h : TrueRow T D P Q) {i : Nat} (hg : goneL D = [(i : Int)]) {x : Sec} (hx : T[i]? = some x) : T.map some = D.set i (some x) :=
  h.map (by simp) fun k C hC => by
    by_cases hk : i = k
    · subst hk
      have hlt : i < D.length := by rw [← h.len]; exact (List.getElem?_eq_some_iff.1 hx).1
      rw [List.getElem?_set_self hlt] at hC
      cases hC
      exact Or.inr hx.symm
    · rw [List.getElem?_set_ne hk] at hC
      obtain ⟨f, rfl⟩ := gone_not (by rw [hg]; simp; omega) hC
      exact Or.inl ⟨f, rfl, hC⟩
theorem TrueRow.two_ {T : List Sec} {D : List (Option Sec)} {P Q : Option Sec} (h : TrueRow T D P Q) {i j : Nat} (hg : goneL D = [(i : Int), (j : Int)]) {x y : Sec} (hx : T[i]? = some x) (hy : T[j]? = some y) : T.map some = (D.set i (some x)).set j (some y) :=
  h.map (by simp) fun k C hC => by
    have hli : i < D.length := by rw [← h.len]; exact (List.getElem?_eq_some_iff.1 hx).1
    have hlj : j < D.length := by rw [← h.len]; exact (List.getElem?_eq_some_iff.1 hy).1
    by_cases hk : j = k
    · subst hk
      rw [List.getElem?_set_self (by simpa using hlj)] at hC
      cases hC
      exact Or.inr hy.symm
    · rw [List.getElem?_set_ne hk] at hC
      by_cases hk2 : i = k
      · subst hk2
        rw [List.getElem?_set_self hli] at hC
        cases hC
        exact Or.inr hx.symm
      · rw [List.getElem?_set_ne hk2] at hC
        obtain ⟨f, rfl⟩ := gone_not (by rw [hg]; simp; omega) hC
        exact Or.inl ⟨f, rfl, hC⟩
theorem miss_one {g : Nat} {f p x : Sec} (hx : SecOk x) (hg : g < 256) (hf : SecOk f) (h : ∀ b, (p b).toNat = (f b).toNat ^^^ gmN g (x b).toNat) (b : Fin 16) : (xadd 1 f p b).toNat = gmN g (x b).toNat := by
  have h1 := (nat_of (hf b)).2
  have h2 : gmN g (x b).toNat < 256 := gmN_lt hg
  rw [xadd_nat, h b, gm_one (xor_lt8 h1 h2), xor_back]
theorem TrueRow.fix {T : List Sec} {D : List (Option Sec)} {P Q : Option Sec} (h : TrueRow T D P Q) (hl : T.length ≤ 30) (hlost : lostN D + lostN [P, Q] ≤ 2) : fixC D P Q = T.map some := by
  have hgl := goneL_len D
  have hDok : ∀ C ∈ D, ColOk C := by
    intro C hC
    cases C with
    | none => trivial
    | some f =>
      obtain ⟨k, hk⟩ := List.getElem?_of_mem hC
      exact h.ok f (List.mem_of_getElem? (h.dat k f hk))
  have sP : SecOk (sumP D) := sumI_ok (fun _ => by omega) hDok _
  have sQ : SecOk (sumQ D) := sumI_ok expN_lt hDok _
  have idx : ∀ x ∈ goneL D, ∃ n : Nat, x = (n : Int) ∧ n < D.length ∧ D[n]? = some none := fun x hx => goneI_lt D D.length x hx
  have hTl : ∀ {n : Nat}, n < D.length → ∃ t, T[n]? = some t ∧ SecOk t := fun {n} hn => by
    obtain ⟨t, ht⟩ : ∃ t, T[n]? = some t := ⟨_, List.getElem?_eq_getElem (by rw [h.len]; omega)⟩
    exact ⟨t, ht, h.ok t (List.mem_of_getElem? ht)⟩
  match hG : goneL D with
  | [] =>
    have : fixC D P Q = D := by unfold fixC; rw [hG]
    rw [this, h.none_ hG]
  | [x] =>
    obtain ⟨i, rfl, hil, hin⟩ := idx x (by rw [hG]; simp)
    obtain ⟨t, ht, hto⟩ := hTl hil
    have hm := h.one_ hG ht
    have hF : fixC D P Q = if P.isSome = true then D.set i (some (missP D P)) else D.set i (some (xadd (powN (expN i) 254) (sec []) (missQ D Q))) := by unfold fixC; rw [hG]; simp only [Int.toNat_natCast]
    rw [hF, hm]
    rw [hG] at hgl
    have hl1 : lostN D = 1 := by simpa using hgl.symm
    cases P with
    | some p =>
      rw [if_pos (show (some p).isSome = true from rfl)]
      congr 2
      have hp := h.p p rfl
      have hb : ∀ b, (p b).toNat = (sumP D b).toNat ^^^ gmN 1 (t b).toNat := fun b => by
        rw [hp, hm]
        exact sumI_one (co := fun _ => 1) hil hin b
      have hpo : SecOk p := by rw [hp]; exact sumI_ok (fun _ => by omega) (map_some_ok h.ok) _
      refine sec_ext (xadd_ok (by omega) sP hpo) hto fun b => ?_
      show (xadd 1 (sumP D) p b).toNat = _
      rw [miss_one hto (by omega) sP hb b, gm_one (nat_of (hto b)).2]
    | none =>
      rw [if_neg (by simp)]
      congr 2
      cases Q with
      | none => exact absurd hlost (by rw [hl1]; decide)
      | some q =>
        have hq := h.q q rfl
        have hb : ∀ b, (q b).toNat = (sumQ D b).toNat ^^^ gmN (expN i) (t b).toNat := fun b => by
          rw [hq, hm]
          exact sumI_one (co := expN) hil hin b
        have hqo : SecOk q := by rw [hq]; exact sumI_ok expN_lt (map_some_ok h.ok) _
        refine sec_ext (xadd_ok (powN_lt (expN_lt _)) sec0_ok (xadd_ok (by omega) sQ hqo)) hto fun b => ?_
        rw [xadd_nat]
        show 0 ^^^ gmN _ (xadd 1 (sumQ D) q b).toNat = _
        rw [miss_one hto (expN_lt _) sQ hb b, Nat.zero_xor, gm_inv (exp_ne0 (by have := h.len; omega)) (expN_lt _) (nat_of (hto b)).2]
  | [x, y] =>
    obtain ⟨i, rfl, hil, hin⟩ := idx x (by rw [hG]; simp)
    obtain ⟨j, rfl, hjl, hjn⟩ := idx y (by rw [hG]; simp)
    have hij : i ≠ j := by
      have hs := goneI_sorted D D.length
      have hs : (goneL D).Pairwise (· < ·) := hs
      rw [hG] at hs
      have : (i : Int) < (j : Int) := by simpa using hs
      omega
    obtain ⟨t, ht, hto⟩ := hTl hil
    obtain ⟨u, hu, huo⟩ := hTl hjl
    have hm := h.two_ hG ht hu
    have hF : fixC D P Q = (D.set i (some (secX i j (missP D P) (missQ D Q)))).set j (some (secY i j (missP D P) (missQ D Q))) := by unfold fixC; rw [hG]; simp only [Int.toNat_natCast]
    rw [hF, hm]
    rw [hG] at hgl
    have hl2 : lostN D = 2 := by simpa using hgl.symm
    cases P with
    | none =>
      rw [hl2] at hlost
      cases Q with
      | none => exact absurd hlost (by show ¬ 2 + 2 ≤ 2; decide)
      | some v => exact absurd hlost (by show ¬ 2 + 1 ≤ 2; decide)
    | some p =>
    cases Q with
    | none =>
      rw [hl2] at hlost
      exact absurd hlost (by show ¬ 2 + 1 ≤ 2; decide)
    | some q =>
      have hp := h.p p rfl
      have hq := h.q q rfl
      have hjn' : (D.set i (some t))[j]? = some none := by rw [List.getElem?_set_ne hij]; exact hjn
      have hbp : ∀ b, (xadd 1 (sumP D) p b).toNat = (t b).toNat ^^^ (u b).toNat := fun b => by
        have e : (p b).toNat = (sumP D b).toNat ^^^ ((t b).toNat ^^^ (u b).toNat) := by
          rw [hp, hm]
          have e1 := sumI_one (co := fun _ => 1) (D := D.set i (some t)) (x := u) (by simpa using hjl) hjn' b
          have e2 := sumI_one (co := fun _ => 1) (x := t) hil hin b
          show (sumI (fun _ => 1) _ _ b).toNat = _
          rw [e1, e2, gm_one (nat_of (huo b)).2, gm_one (nat_of (hto b)).2, Nat.xor_assoc]
          rfl
        rw [xadd_nat, e, gm_one (xor_lt8 (nat_of (sP b)).2 (xor_lt8 (nat_of (hto b)).2 (nat_of (huo b)).2)), xor_back]
      have hbq : ∀ b, (xadd 1 (sumQ D) q b).toNat = gmN (expN i) (t b).toNat ^^^ gmN (expN j) (u b).toNat := fun b => by
        have e : (q b).toNat = (sumQ D b).toNat ^^^ (gmN (expN i) (t b).toNat ^^^ gmN (expN j) (u b).toNat) := by
          rw [hq, hm]
          have e1 := sumI_one (co := expN) (D := D.set i (some t)) (x := u) (by simpa using hjl) hjn' b
          have e2 := sumI_one (co := expN) (x := t) hil hin b
          show (sumI expN _ _ b).toNat = _
          rw [e1, e2, Nat.xor_assoc]
          rfl
        rw [xadd_nat, e, gm_one (xor_lt8 (nat_of (sQ b)).2 (xor_lt8 (gmN_lt (expN_lt _)) (gmN_lt (expN_lt _)))), xor_back]
      have h30 : i < 30 ∧ j < 30 := by have := h.len; omega
      have hx : secX i j (missP D (some p)) (missQ D (some q)) = t := by
        refine sec_ext (secX_ok _ _ _ _) hto fun b => ?_
        have := (gm_two h30.1 h30.2 hij (nat_of (hto b)).2 (nat_of (huo b)).2).1
        show ((solX i j (xadd 1 (sumP D) p b).toNat (xadd 1 (sumQ D) q b).toNat : Nat) : Int).toNat = _
        rw [hbp, hbq, Int.toNat_natCast]
        exact this
      have hy : secY i j (missP D (some p)) (missQ D (some q)) = u := by
        refine sec_ext (secY_ok _ _ _ _) huo fun b => ?_
        have := (gm_two h30.1 h30.2 hij (nat_of (hto b)).2 (nat_of (huo b)).2).2
        show ((solY i j (xadd 1 (sumP D) p b).toNat (xadd 1 (sumQ D) q b).toNat : Nat) : Int).toNat = _
        rw [hbp, hbq, Int.toNat_natCast]
        exact this
      rw [hx, hy]
  | a :: b :: c :: l => rw [hG] at hgl; simp at hgl; omega
/-- a true row is had again -/
theorem TrueRow.rowR {T : List Sec} {Cs : List (Option Sec)} (h : TrueRow T (rowD Cs) (rowPc Cs) (rowQc Cs)) (h2 : 2 ≤ Cs.length) (hl : Cs.length ≤ 32) (hlost : lostN Cs ≤ 2) : rowR Cs = T ++ [sumP (T.map some), sumQ (T.map some)] := by
  have hs := lost_split h2
  have hlT : T.length ≤ 30 := by rw [h.len]; unfold rowD; rw [List.length_take]; omega
  have hf := h.fix hlT (by omega)
  unfold Go.Proofs.rowR recP recQ
  rw [hf]
  have e1 : (T.map some).map (fun C => C.getD (sec [])) = T := by rw [List.map_map]; exact List.map_id _
  rw [e1]
  congr 2
  · cases hP : rowPc Cs with
    | none => rfl
    | some f => exact h.p f hP
  · congr 1
    cases hQ : rowQc Cs with
    | none => rfl
    | some f => exact h.q f hQ
end Go.Proofs

/-
  A SET, plain: what its cells show, and what a write changes.
-/
namespace Go.Proofs
open Go Go.Ev
set_option linter.unusedSimpArgs false
set_option linter.unusedVariables false
set_option maxRecDepth 100000

def viewS (s : SS) (i : Int) (a : Int) : Option Sec := cellD (s.ds.getD i.toNat dsk0) a
theorem colsS_view {g : Geo} {s : SS} {st off : Int} {k : Nat} (hk : k < g.d.toNat) : (colsS g s st off)[k]? = some (viewS s (plcP g st off (k : Int)).dk (plcP g st off (k : Int)).at_) := colsS_at hk
def deadS (s : SS) (i : Int) : Bool := (s.ds.getD i.toNat dsk0).dead
/-- a set whose parts are sound -/
structure SsOk (g : Geo) (s : SS) : Prop where
  geo : GeoOk g
  num : (s.ds.length : Int) = g.d
  len : ∀ D ∈ s.ds, (D.secs.length : Int) = g.c * g.s
  ok : ∀ D ∈ s.ds, DskOk D
theorem SsOk.get {g : Geo} {s : SS} (h : SsOk g s) {i : Int} (h0 : 0 ≤ i) (h1 : i < g.d) : s.ds.getD i.toNat dsk0 ∈ s.ds := by
  have := h.num
  rw [List.getD_eq_getElem?_getD, List.getElem?_eq_getElem (by omega)]
  exact List.getElem_mem _
theorem view_dead {s : SS} {i a : Int} (h : deadS s i = true) : viewS s i a = none := by
  unfold viewS cellD
  unfold deadS at h
  rw [if_pos h]
theorem getD_setS {α : Type} {l : List α} {i j : Nat} (hi : i < l.length) (a d : α) : (l.set i a).getD j d = if i = j then a else l.getD j d := by
  by_cases h : i = j
  · subst h; rw [getD_set_self hi, if_pos rfl]
  · rw [getD_set_ne h, if_neg h]
theorem cellD_set {D : Dsk} (hd : D.dead = false) {at_ : Int} (h : 0 ≤ at_ ∧ at_.toNat < D.secs.length) {c : Cel} (hs : c.sum = sumS at_ c.data) {a : Int} (ha : 0 ≤ a) : cellD { D with secs := D.secs.set at_.toNat ⟨c, true⟩ } a = if a = at_ then some c.data else cellD D a := by
  show (if D.dead = true then none else if ((D.secs.set at_.toNat ⟨c, true⟩).getD a.toNat sct0).good = false then none else if ((D.secs.set at_.toNat ⟨c, true⟩).getD a.toNat sct0).cel.sum = sumS a ((D.secs.set at_.toNat ⟨c, true⟩).getD a.toNat sct0).cel.data then some ((D.secs.set at_.toNat ⟨c, true⟩).getD a.toNat sct0).cel.data else none) = _
  have hn : ¬ D.dead = true := by rw [hd]; decide
  rw [if_neg hn, getD_setS h.2]
  by_cases e : a = at_
  · subst e
    rw [if_pos rfl, if_pos rfl, if_neg (show ¬ (true = false) by decide), if_pos hs]
  · rw [if_neg (show ¬ at_.toNat = a.toNat by omega), if_neg e]
    unfold cellD
    rw [if_neg hn]
/-- a cell that is written -/
theorem apply1_ok {g : Geo} {s : SS} (h : SsOk g s) {x : PutS} (hx : PutOk g x) (hl : Lit0 s.pw) (hal : deadS s x.plc.dk = false) {ep : Int} (hep : (s.ds.getD x.plc.dk.toNat dsk0).key ≤ ep) (hc : SecOk x.cel.data) (hs : x.cel.sum = sumS x.plc.at_ x.cel.data) :
    (apply1 s x ep).1 = 0 ∧ SsOk g (apply1 s x ep).2 ∧ (apply1 s x ep).2.pw = (stepP s.pw).2 ∧ (∀ i, deadS (apply1 s x ep).2 i = deadS s i) ∧ (∀ i : Nat, ((apply1 s x ep).2.ds.getD i dsk0).key = (s.ds.getD i dsk0).key) ∧
    ∀ i a, 0 ≤ i → 0 ≤ a → viewS (apply1 s x ep).2 i a = if i = x.plc.dk ∧ a = x.plc.at_ then some x.cel.data else viewS s i a := by
  obtain ⟨⟨d0, d1⟩, ⟨a0, a1⟩⟩ := hx
  have hn := h.num
  have hmem := h.get d0 d1
  unfold deadS at hal
  have hw : writeD s.pw (s.ds.getD x.plc.dk.toNat dsk0) x.plc.at_ x.cel ep = ((1, 0), (stepP s.pw).2, { (s.ds.getD x.plc.dk.toNat dsk0) with secs := (s.ds.getD x.plc.dk.toNat dsk0).secs.set x.plc.at_.toNat ⟨x.cel, true⟩ }) := by
    unfold writeD
    rw [if_neg (by simp [hl.1]), if_neg (by rw [hal]; decide), if_neg (by omega), if_neg (by simp [(lit_step hl).1])]
  have ha : apply1 s x ep = (0, ⟨s.ds.set x.plc.dk.toNat { (s.ds.getD x.plc.dk.toNat dsk0) with secs := (s.ds.getD x.plc.dk.toNat dsk0).secs.set x.plc.at_.toNat ⟨x.cel, true⟩ }, (stepP s.pw).2⟩) := by
    unfold apply1
    rw [hw]
  have hlt : x.plc.dk.toNat < s.ds.length := by omega
  have hslen := h.len _ hmem
  have hok := h.ok _ hmem
  rw [ha]
  generalize hD : s.ds.getD x.plc.dk.toNat dsk0 = D at *
  refine ⟨rfl, ⟨h.geo, by simpa using hn, fun E hE => ?_, fun E hE => ?_⟩, rfl, fun i => ?_, fun i => ?_, fun i a hi hia => ?_⟩
  · rcases List.mem_or_eq_of_mem_set hE with hE | rfl
    · exact h.len E hE
    · simpa using hslen
  · rcases List.mem_or_eq_of_mem_set hE with hE | rfl
    · exact h.ok E hE
    · refine ⟨fun y hy => ?_, hok.2⟩
      rcases List.mem_or_eq_of_mem_set hy with hy | rfl
      · exact hok.1 y hy
      · exact ⟨hc, by show 0 ≤ x.cel.sum; rw [hs]; exact (sumS_ok _ _).1, by show x.cel.sum ≤ _; rw [hs]; exact (sumS_ok _ _).2⟩
  · unfold deadS
    simp only
    rw [getD_setS hlt]
    by_cases e : x.plc.dk.toNat = i.toNat
    · rw [if_pos e, ← e, hD]
    · rw [if_neg e]
  · simp only
    rw [getD_setS hlt]
    by_cases e : x.plc.dk.toNat = i
    · rw [if_pos e, ← e, hD]
    · rw [if_neg e]
  · unfold viewS
    simp only
    rw [getD_setS hlt]
    by_cases e : x.plc.dk.toNat = i.toNat
    · have e' : i = x.plc.dk := by omega
      rw [if_pos e, ← e, hD]
      refine (cellD_set hal ⟨a0, by omega⟩ hs hia).trans ?_
      by_cases e2 : a = x.plc.at_
      · rw [if_pos e2, if_pos ⟨e', e2⟩]
      · rw [if_neg e2, if_neg (fun h => e2 h.2)]
    · rw [if_neg e, if_neg (fun h => e (by rw [h.1]))]
/-! ### places -/
theorem plcP_inj {g : Geo} (hg : GeoOk g) {st off st2 off2 : Int} {k k2 : Int} (hst : 0 ≤ st ∧ st < g.s) (hof : 0 ≤ off ∧ off < g.c) (hst2 : 0 ≤ st2 ∧ st2 < g.s) (hof2 : 0 ≤ off2 ∧ off2 < g.c) (hk : 0 ≤ k ∧ k < g.d) (hk2 : 0 ≤ k2 ∧ k2 < g.d)
    (h1 : (plcP g st off k).dk = (plcP g st2 off2 k2).dk) (h2 : (plcP g st off k).at_ = (plcP g st2 off2 k2).at_) : st = st2 ∧ off = off2 ∧ k = k2 := by
  have hc := hg.c
  have hd := hg.d
  have h2 : st * g.c + off = st2 * g.c + off2 := h2
  have e1 : (st * g.c + off) / g.c = st := by rw [Int.add_comm, Int.add_mul_ediv_right _ _ (by omega), Int.ediv_eq_zero_of_lt hof.1 hof.2, Int.zero_add]
  have e2 : (st2 * g.c + off2) / g.c = st2 := by rw [Int.add_comm, Int.add_mul_ediv_right _ _ (by omega), Int.ediv_eq_zero_of_lt hof2.1 hof2.2, Int.zero_add]
  have hs : st = st2 := by rw [← e1, ← e2, h2]
  subst hs
  refine ⟨rfl, by omega, ?_⟩
  have h1 : (firstP g st + k) % g.d = (firstP g st + k2) % g.d := h1
  have hf := firstP_lt hg st
  have := Int.emod_emod_of_dvd (firstP g st + k) (Int.dvd_refl g.d)
  have h3 : ((firstP g st + k) - (firstP g st + k2)) % g.d = 0 := Int.emod_eq_emod_iff_emod_sub_eq_zero.1 h1
  have h4 : (k - k2) % g.d = 0 := by rw [← h3]; congr 1; omega
  have h5 := Int.emod_emod_of_dvd (k - k2) (Int.dvd_refl g.d)
  obtain ⟨c, hcc⟩ := Int.dvd_of_emod_eq_zero h4
  have : c = 0 := by
    refine Classical.byContradiction fun hne => ?_
    rcases (show c ≤ -1 ∨ 1 ≤ c by omega) with h | h
    · have := Int.mul_le_mul_of_nonneg_left h (show 0 ≤ g.d by omega)
      omega
    · have := Int.mul_le_mul_of_nonneg_left h (show 0 ≤ g.d by omega)
      omega
  rw [this] at hcc
  omega
/-- the write of a plan -/
theorem applyL_plan {g : Geo} {st off : Int} (hst : 0 ≤ st ∧ st < g.s) (hof : 0 ≤ off ∧ off < g.c) {row : List Sec} (hrok : ∀ f ∈ row, SecOk f) {s0 : SS} {ep : Int} : ∀ (ks : List Int) (s : SS), (∀ k ∈ ks, 0 ≤ k ∧ k < g.d) → SsOk g s → Lit0 s.pw → (∀ i, deadS s i = deadS s0 i) → (∀ i : Nat, (s.ds.getD i dsk0).key ≤ ep) →
    ∃ s', applyL ep (planL g s0 st off row ks) s = (0, s') ∧ SsOk g s' ∧ Lit0 s'.pw ∧ (∀ i, deadS s' i = deadS s0 i) ∧ (∀ i : Nat, (s'.ds.getD i dsk0).key = (s.ds.getD i dsk0).key) ∧
      (∀ i a, 0 ≤ i → 0 ≤ a → (∀ k ∈ ks, ¬ (i = (plcP g st off k).dk ∧ a = (plcP g st off k).at_)) → viewS s' i a = viewS s i a) ∧
      (∀ k ∈ ks, deadS s0 (plcP g st off k).dk = false → viewS s' (plcP g st off k).dk (plcP g st off k).at_ = some (row.getD k.toNat (sec [])))
  | [], s, _, hs, hl, hd, _ => ⟨s, rfl, hs, hl, hd, fun _ => rfl, fun _ _ _ _ _ => rfl, by simp⟩
  | k :: ks, s, hks, hs, hl, hd, hep => by
    have hk := hks k (by simp)
    obtain ⟨pk1, pk2⟩ := plcP_ok hs.geo hst hof k
    have hrk : SecOk (row.getD k.toNat (sec [])) := by
      rw [List.getD_eq_getElem?_getD]
      cases hx : row[k.toNat]? with
      | none => exact sec0_ok
      | some f => exact hrok f (List.mem_of_getElem? hx)
    by_cases hdk : deadS s0 (plcP g st off k).dk = true
    · have e : planL g s0 st off row (k :: ks) = planL g s0 st off row ks := by
        unfold planL
        rw [List.filterMap_cons]
        have : planK g s0 st off row k = none := by unfold planK; unfold deadS at hdk; rw [if_pos hdk]
        rw [this]
      obtain ⟨s', h1, h2, h3, h4, h5, h6, h7⟩ := applyL_plan (s0 := s0) hst hof hrok ks s (fun k hk => hks k (by simp [hk])) hs hl hd hep
      refine ⟨s', by rw [e]; exact h1, h2, h3, h4, h5, fun i a hi ha hn => h6 i a hi ha fun k hk => hn k (by simp [hk]), fun k' hk' hal => ?_⟩
      rcases List.mem_cons.1 hk' with rfl | hk'
      · rw [hdk] at hal; cases hal
      · exact h7 k' hk' hal
    · have hdk : deadS s0 (plcP g st off k).dk = false := by simpa using hdk
      have e : planL g s0 st off row (k :: ks) = ⟨plcP g st off k, ⟨row.getD k.toNat (sec []), sumS (plcP g st off k).at_ (row.getD k.toNat (sec []))⟩⟩ :: planL g s0 st off row ks := by
        unfold planL
        rw [List.filterMap_cons]
        have : planK g s0 st off row k = some ⟨plcP g st off k, ⟨row.getD k.toNat (sec []), sumS (plcP g st off k).at_ (row.getD k.toNat (sec []))⟩⟩ := by unfold planK; unfold deadS at hdk; rw [if_neg (by rw [hdk]; decide)]
        rw [this]
      obtain ⟨a1, a2, a3, a4, a5, a6⟩ := apply1_ok hs (x := ⟨plcP g st off k, ⟨row.getD k.toNat (sec []), sumS (plcP g st off k).at_ (row.getD k.toNat (sec []))⟩⟩) ⟨pk1, pk2⟩ hl (by rw [hd]; exact hdk) (hep _) hrk rfl
      rw [e]
      have hst' : applyL ep (⟨plcP g st off k, ⟨row.getD k.toNat (sec []), sumS (plcP g st off k).at_ (row.getD k.toNat (sec []))⟩⟩ :: planL g s0 st off row ks) s = applyL ep (planL g s0 st off row ks) (apply1 s ⟨plcP g st off k, ⟨row.getD k.toNat (sec []), sumS (plcP g st off k).at_ (row.getD k.toNat (sec []))⟩⟩ ep).2 := by
        show (if _ ∧ _ then _ else _) = _
        rw [if_neg (by rw [a1]; simp)]
      rw [hst']
      generalize apply1 s ⟨plcP g st off k, ⟨row.getD k.toNat (sec []), sumS (plcP g st off k).at_ (row.getD k.toNat (sec []))⟩⟩ ep = r at *
      obtain ⟨s', h1, h2, h3, h4, h5, h6, h7⟩ := applyL_plan (s0 := s0) hst hof hrok ks r.2 (fun k hk => hks k (by simp [hk])) a2 (by rw [a3]; exact (lit_step hl).2) (fun i => by rw [a4, hd]) (fun i => by rw [a5]; exact hep i)
      refine ⟨s', h1, h2, h3, h4, fun i => by rw [h5, a5], fun i a hi ha hn => ?_, fun k' hk' hal => ?_⟩
      · rw [h6 i a hi ha fun k hk => hn k (by simp [hk]), a6 i a hi ha, if_neg (hn k (by simp))]
      · by_cases hmem : k' ∈ ks
        · exact h7 k' hmem hal
        · have hkk : k' = k := by
            rcases List.mem_cons.1 hk' with h | h
            · exact h
            · exact absurd h hmem
          subst hkk
          rw [h6 _ _ pk1.1 pk2.1 fun k2 hk2 he => ?_, a6 _ _ pk1.1 pk2.1, if_pos ⟨rfl, rfl⟩]
          have := plcP_inj hs.geo hst hof hst hof hk (hks k2 (by simp [hk2])) he.1 he.2
          exact hmem (by rw [this.2.2]; exact hk2)
end Go.Proofs

/-
  A SET, plain: what its sectors are.
-/
namespace Go.Proofs
open Go Go.Ev
set_option linter.unusedSimpArgs false
set_option linter.unusedVariables false
set_option maxRecDepth 100000

def lbaP (g : Geo) (st off k : Int) : Int := (st * (g.d - 2) + k) * g.c + off
def rowT (g : Geo) (now : Int → Sec) (st off : Int) : List Sec := (List.range (g.d - 2).toNat).map fun (k : Nat) => now (lbaP g st off (k : Int))
def fullT (T : List Sec) : List Sec := T ++ [sumP (T.map some), sumQ (T.map some)]
theorem len_rowT (g : Geo) (now : Int → Sec) (st off : Int) : (rowT g now st off).length = (g.d - 2).toNat := by simp [rowT]
theorem rowT_at {g : Geo} {now : Int → Sec} {st off : Int} {k : Nat} (hk : k < (g.d - 2).toNat) : (rowT g now st off)[k]? = some (now (lbaP g st off (k : Int))) := by
  unfold rowT
  rw [List.getElem?_map, List.getElem?_range hk]; rfl
/-- what can be read of a set is what was written -/
def Inv (g : Geo) (s : SS) (now : Int → Sec) : Prop := ∀ st off : Int, 0 ≤ st ∧ st < g.s → 0 ≤ off ∧ off < g.c → ∀ k : Nat, k < g.d.toNat → ∀ f, viewS s (plcP g st off (k : Int)).dk (plcP g st off (k : Int)).at_ = some f → (fullT (rowT g now st off))[k]? = some f
theorem Inv.row {g : Geo} {s : SS} {now : Int → Sec} (hg : GeoOk g) (h : Inv g s now) (hn : ∀ l, SecOk (now l)) {st off : Int} (hst : 0 ≤ st ∧ st < g.s) (hof : 0 ≤ off ∧ off < g.c) : TrueRow (rowT g now st off) (rowD (colsS g s st off)) (rowPc (colsS g s st off)) (rowQc (colsS g s st off)) := by
  have hd := hg.d
  have hl := len_colsS g s st off
  have hlT := len_rowT g now st off
  have full : ∀ (k : Nat) f, (colsS g s st off)[k]? = some (some f) → (fullT (rowT g now st off))[k]? = some f := by
    intro k f hk
    have hlt : k < g.d.toNat := by rw [← hl]; exact (List.getElem?_eq_some_iff.1 hk).1
    rw [colsS_view hlt] at hk
    exact h st off hst hof k hlt f (Option.some.inj hk)
  refine ⟨?_, ?_, ?_, ?_, ?_⟩
  · unfold rowD; rw [List.length_take, hl, hlT]; omega
  · intro k f hk
    unfold rowD at hk
    rw [List.getElem?_take] at hk
    split at hk
    · rename_i hkl
      have := full k f hk
      unfold fullT at this
      rwa [List.getElem?_append_left (by omega)] at this
    · cases hk
  · intro f hf
    unfold rowT at hf
    obtain ⟨k, _, rfl⟩ := List.mem_map.1 hf
    exact hn _
  · intro f hf
    unfold rowPc at hf
    rw [List.getD_eq_getElem?_getD] at hf
    have : (colsS g s st off)[(colsS g s st off).length - 2]? = some (some f) := by
      cases hx : (colsS g s st off)[(colsS g s st off).length - 2]? with
      | none => rw [hx] at hf; cases hf
      | some C => rw [hx] at hf; exact congrArg some hf
    have := full _ f this
    unfold fullT at this
    rw [List.getElem?_append_right (by omega), show (colsS g s st off).length - 2 - (rowT g now st off).length = 0 by omega] at this
    exact (Option.some.inj this).symm
  · intro f hf
    unfold rowQc at hf
    rw [List.getD_eq_getElem?_getD] at hf
    have : (colsS g s st off)[(colsS g s st off).length - 1]? = some (some f) := by
      cases hx : (colsS g s st off)[(colsS g s st off).length - 1]? with
      | none => rw [hx] at hf; cases hf
      | some C => rw [hx] at hf; exact congrArg some hf
    have := full _ f this
    unfold fullT at this
    rw [List.getElem?_append_right (by omega), show (colsS g s st off).length - 1 - (rowT g now st off).length = 1 by omega] at this
    exact (Option.some.inj this).symm
theorem Inv.rowR {g : Geo} {s : SS} {now : Int → Sec} (hg : GeoOk g) (h : Inv g s now) (hn : ∀ l, SecOk (now l)) {st off : Int} (hst : 0 ≤ st ∧ st < g.s) (hof : 0 ≤ off ∧ off < g.c) (hl : lostN (colsS g s st off) ≤ 2) : rowR (colsS g s st off) = fullT (rowT g now st off) := by
  have hd := hg.d
  have hl' := len_colsS g s st off
  exact (h.row hg hn hst hof).rowR (by omega) (by omega) hl
theorem lbaP_spot {g : Geo} (hg : GeoOk g) (lba : Int) : lbaP g (spotP g lba).1 (spotP g lba).2.2 (spotP g lba).2.1 = lba := by
  have hd := hg.d
  have hc := hg.c
  unfold lbaP spotP
  simp only
  have h1 : lba / ((g.d - 2) * g.c) = lba / g.c / (g.d - 2) := by rw [Int.mul_comm, Int.ediv_ediv_of_nonneg (by omega)]
  rw [h1]
  have h2 := Int.mul_ediv_add_emod (lba / g.c) (g.d - 2)
  have h3 := Int.mul_ediv_add_emod lba g.c
  rw [Int.mul_comm (lba / g.c / (g.d - 2)), h2, Int.mul_comm (lba / g.c), h3]
theorem spotP_lba {g : Geo} (hg : GeoOk g) {st off k : Int} (hst : 0 ≤ st) (hof : 0 ≤ off ∧ off < g.c) (hk : 0 ≤ k ∧ k < g.d - 2) : spotP g (lbaP g st off k) = (st, k, off) := by
  have hd := hg.d
  have hc := hg.c
  unfold lbaP spotP
  have e1 : ((st * (g.d - 2) + k) * g.c + off) / g.c = st * (g.d - 2) + k := by rw [Int.add_comm, Int.add_mul_ediv_right _ _ (by omega), Int.ediv_eq_zero_of_lt hof.1 hof.2, Int.zero_add]
  have e2 : (st * (g.d - 2) + k) / (g.d - 2) = st := by rw [Int.add_comm, Int.add_mul_ediv_right _ _ (by omega), Int.ediv_eq_zero_of_lt hk.1 hk.2, Int.zero_add]
  have e3 : (st * (g.d - 2) + k) % (g.d - 2) = k := by rw [Int.add_comm, Int.add_mul_emod_self_right, Int.emod_eq_of_lt hk.1 hk.2]
  have e4 : ((st * (g.d - 2) + k) * g.c + off) % g.c = off := by rw [Int.add_comm, Int.add_mul_emod_self_right, Int.emod_eq_of_lt hof.1 hof.2]
  have h1 : ∀ l : Int, l / ((g.d - 2) * g.c) = l / g.c / (g.d - 2) := fun l => by rw [Int.mul_comm, Int.ediv_ediv_of_nonneg (by omega)]
  rw [h1, e1, e2, e3, e4]
theorem Inv.read {g : Geo} {s : SS} {now : Int → Sec} (hg : GeoOk g) (h : Inv g s now) (hn : ∀ l, SecOk (now l)) (hon : s.pw.on = true) {lba : Int} (h0 : 0 ≤ lba) (h1 : lba < (g.d - 2) * g.c * g.s) :
    readS g s lba = (now lba, 0) ∨ (readS g s lba = (sec [], 8) ∧ ¬ lostN (colsS g s (spotP g lba).1 (spotP g lba).2.2) ≤ 2 ∧ viewS s (plcP g (spotP g lba).1 (spotP g lba).2.2 (spotP g lba).2.1).dk (plcP g (spotP g lba).1 (spotP g lba).2.2 (spotP g lba).2.1).at_ = none) := by
  obtain ⟨pst, pco, pof⟩ := spotP_ok hg h0 h1
  have hd := hg.d
  have hls := lbaP_spot hg lba
  unfold readS
  generalize spotP g lba = x at *
  simp only
  rw [if_neg (by rw [hon]; decide)]
  have hk : x.2.1.toNat < g.d.toNat := by omega
  have e : ((x.2.1.toNat : Nat) : Int) = x.2.1 := by omega
  have hC := colsS_view (g := g) (s := s) (st := x.1) (off := x.2.2) hk
  rw [e] at hC
  have hg' : (colsS g s x.1 x.2.2).getD x.2.1.toNat none = viewS s (plcP g x.1 x.2.2 x.2.1).dk (plcP g x.1 x.2.2 x.2.1).at_ := by rw [List.getD_eq_getElem?_getD, hC]; rfl
  have hT : (fullT (rowT g now x.1 x.2.2))[x.2.1.toNat]? = some (now lba) := by
    unfold fullT
    rw [List.getElem?_append_left (by rw [len_rowT]; omega), rowT_at (by omega), e, hls]
  rw [hg']
  cases hv : viewS s (plcP g x.1 x.2.2 x.2.1).dk (plcP g x.1 x.2.2 x.2.1).at_ with
  | some f =>
    have := h x.1 x.2.2 pst pof x.2.1.toNat hk f (by rw [e]; exact hv)
    rw [hT] at this
    left
    rw [Option.some.inj this]
  | none =>
    by_cases hl : lostN (colsS g s x.1 x.2.2) ≤ 2
    · left
      simp only
      rw [if_pos hl, h.rowR hg hn pst pof hl, List.getD_eq_getElem?_getD, hT]; rfl
    · right
      simp only
      rw [if_neg hl]
      exact ⟨rfl, hl, by trivial⟩
def upd (now : Int → Sec) (lba : Int) (f : Sec) : Int → Sec := fun l => if l = lba then f else now l
theorem rowT_upd_same {g : Geo} (hg : GeoOk g) {now : Int → Sec} {st off k : Int} (hst : 0 ≤ st) (hof : 0 ≤ off ∧ off < g.c) (hk : 0 ≤ k ∧ k < g.d - 2) (f : Sec) : rowT g (upd now (lbaP g st off k) f) st off = (rowT g now st off).set k.toNat f := by
  apply List.ext_getElem?
  intro i
  by_cases hi : i < (g.d - 2).toNat
  · rw [rowT_at hi]
    unfold upd
    by_cases e : k.toNat = i
    · subst e
      rw [List.getElem?_set_self (by rw [len_rowT]; exact hi), if_pos (by rw [show ((k.toNat : Nat) : Int) = k by omega])]
    · rw [List.getElem?_set_ne e, rowT_at hi, if_neg]
      intro he
      have h1 := spotP_lba hg hst hof (k := (i : Int)) (by omega)
      have h2 := spotP_lba hg hst hof hk
      rw [he, h2] at h1
      simp only [Prod.mk.injEq, true_and, and_true] at h1
      omega
  · rw [List.getElem?_eq_none (by rw [len_rowT]; omega), List.getElem?_eq_none (by rw [List.length_set, len_rowT]; omega)]
theorem rowT_upd_other {g : Geo} (hg : GeoOk g) {now : Int → Sec} {st off k st2 off2 : Int} (hst : 0 ≤ st) (hof : 0 ≤ off ∧ off < g.c) (hk : 0 ≤ k ∧ k < g.d - 2) (hst2 : 0 ≤ st2) (hof2 : 0 ≤ off2 ∧ off2 < g.c) (hne : ¬ (st2 = st ∧ off2 = off)) (f : Sec) : rowT g (upd now (lbaP g st off k) f) st2 off2 = rowT g now st2 off2 := by
  apply List.ext_getElem?
  intro i
  by_cases hi : i < (g.d - 2).toNat
  · rw [rowT_at hi, rowT_at hi]
    unfold upd
    rw [if_neg]
    intro he
    have h1 := spotP_lba hg hst2 hof2 (k := (i : Int)) (by omega)
    have h2 := spotP_lba hg hst hof hk
    rw [he, h2] at h1
    simp only [Prod.mk.injEq] at h1
    exact hne ⟨h1.1.symm, h1.2.2.symm⟩
  · rw [List.getElem?_eq_none (by rw [len_rowT]; omega), List.getElem?_eq_none (by rw [len_rowT]; omega)]
end Go.Proofs

/-
  A SET, plain: what a write does to its sectors.
-/
namespace Go.Proofs
open Go Go.Ev
set_option linter.unusedSimpArgs false
set_option linter.unusedVariables false
set_option maxRecDepth 100000

theorem rowW_full {T : List Sec} {col : Nat} {data : Sec} (h : col < T.length) : rowW (fullT T) col data = fullT (T.set col data) := by
  have e : ((fullT T).set col data).take ((fullT T).length - 2) = T.set col data := by
    unfold fullT
    rw [List.set_append_left _ _ h]
    have : (T ++ [sumP (T.map some), sumQ (T.map some)]).length - 2 = (T.set col data).length := by simp
    rw [this, List.take_left]
  show ((fullT T).set col data).take ((fullT T).length - 2) ++ [sumP ((((fullT T).set col data).take ((fullT T).length - 2)).map some), sumQ ((((fullT T).set col data).take ((fullT T).length - 2)).map some)] = _
  rw [e]; rfl
theorem len_fullT (T : List Sec) : (fullT T).length = T.length + 2 := by simp [fullT]
theorem fullT_ok {T : List Sec} (h : ∀ f ∈ T, SecOk f) : ∀ f ∈ fullT T, SecOk f := by
  intro f hf
  unfold fullT at hf
  rcases List.mem_append.1 hf with hf | hf
  · exact h f hf
  · simp only [List.mem_cons, List.not_mem_nil, or_false] at hf
    rcases hf with rfl | rfl
    · exact sumI_ok (fun _ => by omega) (map_some_ok h) _
    · exact sumI_ok expN_lt (map_some_ok h) _
theorem rowT_ok {g : Geo} {now : Int → Sec} (hn : ∀ l, SecOk (now l)) (st off : Int) : ∀ f ∈ rowT g now st off, SecOk f := by
  intro f hf
  unfold rowT at hf
  obtain ⟨k, _, rfl⟩ := List.mem_map.1 hf
  exact hn _
theorem upd_ok {now : Int → Sec} (hn : ∀ l, SecOk (now l)) {f : Sec} (hf : SecOk f) (l : Int) : ∀ i, SecOk (upd now l f i) := by
  intro i
  unfold upd
  split
  · exact hf
  · exact hn i
theorem planL_ok {g : Geo} (hg : GeoOk g) {s : SS} {st off : Int} (hst : 0 ≤ st ∧ st < g.s) (hof : 0 ≤ off ∧ off < g.c) {row : List Sec} {ks : List Int} : ∀ x ∈ planL g s st off row ks, PutOk g x := by
  intro x hx
  unfold planL at hx
  obtain ⟨k, _, hk⟩ := List.mem_filterMap.1 hx
  unfold planK at hk
  split at hk
  · cases hk
  · cases hk
    exact plcP_ok hg hst hof k
structure Written (g : Geo) (s s' : SS) (now : Int → Sec) (lba : Int) (data : Sec) : Prop where
  ss : SsOk g s'
  lit : Lit0 s'.pw
  dead : ∀ i, deadS s' i = deadS s i
  key : ∀ i : Nat, (s'.ds.getD i dsk0).key = (s.ds.getD i dsk0).key
  inv : Inv g s' (upd now lba data)
  view : ∀ i a, 0 ≤ i → 0 ≤ a → viewS s' i a = none → viewS s i a = none ∨ deadS s i = true
theorem Inv.write {g : Geo} {s : SS} {now : Int → Sec} (hs : SsOk g s) (h : Inv g s now) (hn : ∀ l, SecOk (now l)) (hl : Lit0 s.pw) {lba : Int} (h0 : 0 ≤ lba) (h1 : lba < (g.d - 2) * g.c * g.s) {data : Sec} (hdat : SecOk data) {ep : Int} (hep : ∀ i : Nat, (s.ds.getD i dsk0).key ≤ ep)
    (hlost : lostN (colsS g s (spotP g lba).1 (spotP g lba).2.2) ≤ 2) :
    (planS g s lba data).2 = 0 ∧ ∃ s', applyS g s (planS g s lba data).1 ep = (0, s') ∧ Written g s s' now lba data := by
  have hg := hs.geo
  obtain ⟨pst, pco, pof⟩ := spotP_ok hg h0 h1
  have hd := hg.d
  have hls := lbaP_spot hg lba
  have hrow := h.rowR hg hn pst pof hlost
  have hplan : planS g s lba data = (planL g s (spotP g lba).1 (spotP g lba).2.2 (rowW (Go.Proofs.rowR (colsS g s (spotP g lba).1 (spotP g lba).2.2)) (spotP g lba).2.1.toNat data) [(spotP g lba).2.1, g.d - 2, g.d - 1], 0) := by
    unfold planS
    simp only
    rw [if_neg (by rw [hl.1]; decide), if_pos hlost]
  rw [hplan, hrow]
  generalize spotP g lba = x at *
  rw [rowW_full (by rw [len_rowT]; omega), ← rowT_upd_same hg pst.1 pof pco, hls]
  have hok' := upd_ok hn hdat lba
  have hks : ∀ k ∈ [x.2.1, g.d - 2, g.d - 1], 0 ≤ k ∧ k < g.d := by
    intro k hk
    simp only [List.mem_cons, List.not_mem_nil, or_false] at hk
    rcases hk with rfl | rfl | rfl <;> omega
  obtain ⟨s', a1, a2, a3, a4, a5, a6, a7⟩ := applyL_plan (s0 := s) (ep := ep) pst pof (fullT_ok (rowT_ok hok' x.1 x.2.2)) [x.2.1, g.d - 2, g.d - 1] s hks hs hl (fun _ => rfl) hep
  refine ⟨rfl, s', ?_, a2, a3, a4, a5, ?_, ?_⟩
  · unfold applyS
    rw [if_pos (planL_ok hg pst pof)]
    exact a1
  · intro st off hst hof k hk f hv
    obtain ⟨pk1, pk2⟩ := plcP_ok hg hst hof (k : Int)
    by_cases hrow : st = x.1 ∧ off = x.2.2
    · obtain ⟨rfl, rfl⟩ := hrow
      by_cases hmem : (k : Int) ∈ [x.2.1, g.d - 2, g.d - 1]
      · cases hdk : deadS s (plcP g x.1 x.2.2 (k : Int)).dk with
        | true =>
          rw [view_dead (by rw [a4]; exact hdk)] at hv
          cases hv
        | false =>
          have := a7 _ hmem hdk
          rw [hv] at this
          have := Option.some.inj this
          rw [this, Int.toNat_natCast, List.getD_eq_getElem?_getD]
          have hlt : k < (fullT (rowT g (upd now lba data) x.1 x.2.2)).length := by rw [len_fullT, len_rowT]; omega
          rw [List.getElem?_eq_getElem hlt]; rfl
      · rw [a6 _ _ pk1.1 pk2.1 fun k2 hk2 he => ?_] at hv
        · have := h x.1 x.2.2 pst pof k hk f hv
          have hne : ¬ (k : Int) = x.2.1 ∧ ¬ (k : Int) = g.d - 2 ∧ ¬ (k : Int) = g.d - 1 := by simpa using hmem
          unfold fullT at this ⊢
          rw [List.getElem?_append_left (by rw [len_rowT]; omega)] at this ⊢
          have e := rowT_upd_same hg (now := now) pst.1 pof pco data
          rw [hls] at e
          rw [e, List.getElem?_set_ne (by omega)]
          exact this
        · have := plcP_inj hg hst hof pst pof (by omega) (hks k2 hk2) he.1 he.2
          exact hmem (by rw [this.2.2]; exact hk2)
    · rw [a6 _ _ pk1.1 pk2.1 fun k2 hk2 he => ?_] at hv
      · have := h st off hst hof k hk f hv
        have e := rowT_upd_other hg (now := now) pst.1 pof pco hst.1 hof hrow data
        rw [hls] at e
        rw [e]
        exact this
      · have := plcP_inj hg hst hof pst pof (by omega) (hks k2 hk2) he.1 he.2
        exact hrow ⟨this.1, this.2.1⟩
  · intro i a hi ha hv
    by_cases hex : ∃ k ∈ [x.2.1, g.d - 2, g.d - 1], i = (plcP g x.1 x.2.2 k).dk ∧ a = (plcP g x.1 x.2.2 k).at_
    · obtain ⟨k, hk, rfl, rfl⟩ := hex
      cases hdk : deadS s (plcP g x.1 x.2.2 k).dk with
      | true => exact Or.inr rfl
      | false =>
        have := a7 k hk hdk
        rw [hv] at this
        cases this
    · rw [a6 i a hi ha fun k hk he => hex ⟨k, hk, he⟩] at hv
      exact Or.inl hv
end Go.Proofs

/-
  A SET, plain: a new one; how many columns are lost.
-/
namespace Go.Proofs
open Go Go.Ev
set_option linter.unusedSimpArgs false
set_option linter.unusedVariables false
set_option maxRecDepth 100000

def newS (g : Geo) (pw : Pow) : SS := ⟨List.replicate g.d.toNat (newD (g.c * g.s).toNat), pw⟩
def now0 : Int → Sec := fun _ => sec []
theorem now0_ok : ∀ l, SecOk (now0 l) := fun _ => sec0_ok
theorem xadd_zero (g : Nat) : xadd g (sec []) (sec []) = sec [] := by
  funext k
  show (((0 : Int).toNat ^^^ gmN g (0 : Int).toNat : Nat) : Int) = 0
  show ((0 ^^^ gmN g 0 : Nat) : Int) = 0
  rw [gm_zero]; rfl
theorem sumI_zero {co : Nat → Nat} {T : List (Option Sec)} (h : ∀ C ∈ T, C = some (sec [])) : ∀ k, sumI co T k = sec []
  | 0 => rfl
  | k + 1 => by
    rw [sumI_at, sumI_zero h k]
    cases hx : T.getD k none with
    | none => rfl
    | some f =>
      have : T.getD k none ∈ T ∨ T.getD k none = none := by
        rw [List.getD_eq_getElem?_getD]
        cases hy : T[k]? with
        | none => exact Or.inr rfl
        | some y => exact Or.inl (List.mem_of_getElem? hy)
      rcases this with h1 | h1
      · have := h _ h1
        rw [hx] at this
        cases this
        exact xadd_zero _
      · rw [hx] at h1; cases h1
theorem full_zero {g : Geo} {st off : Int} {k : Nat} (hg : GeoOk g) (hk : k < g.d.toNat) : (fullT (rowT g now0 st off))[k]? = some (sec []) := by
  have hd := hg.d
  have hz : ∀ C ∈ (rowT g now0 st off).map some, C = some (sec []) := by
    intro C hC
    obtain ⟨f, hf, rfl⟩ := List.mem_map.1 hC
    unfold rowT at hf
    obtain ⟨j, _, rfl⟩ := List.mem_map.1 hf
    rfl
  unfold fullT
  have e1 : sumP ((rowT g now0 st off).map some) = sec [] := sumI_zero hz _
  have e2 : sumQ ((rowT g now0 st off).map some) = sec [] := sumI_zero hz _
  rw [e1, e2]
  by_cases h1 : k < (g.d - 2).toNat
  · rw [List.getElem?_append_left (by rw [len_rowT]; exact h1), rowT_at h1]; rfl
  · rw [List.getElem?_append_right (by rw [len_rowT]; omega), len_rowT]
    rcases (show k - (g.d - 2).toNat = 0 ∨ k - (g.d - 2).toNat = 1 by omega) with e | e <;> rw [e] <;> rfl
theorem getD_rep {α : Type} {n i : Nat} (a d : α) (h : i < n) : (List.replicate n a).getD i d = a := by
  rw [List.getD_eq_getElem?_getD, List.getElem?_replicate, if_pos h]; rfl
theorem nuls_get {n i : Nat} (h : i < n) : (nuls n).getD i sct0 = nul (i : Int) := by
  unfold nuls
  rw [List.getD_eq_getElem?_getD, List.getElem?_map, List.getElem?_range h]; rfl
theorem newS_view {g : Geo} {pw : Pow} (hg : GeoOk g) {i a : Int} (hi : 0 ≤ i ∧ i < g.d) (ha : 0 ≤ a ∧ a < g.c * g.s) : viewS (newS g pw) i a = some (sec []) := by
  unfold viewS newS
  simp only
  rw [getD_rep _ _ (by omega)]
  unfold cellD newD
  simp only
  rw [nuls_get (by omega), show ((a.toNat : Nat) : Int) = a by omega]
  unfold nul
  rw [if_neg (by decide), if_neg (show ¬ (true = false) by decide), if_pos rfl]
theorem newS_dead (g : Geo) (pw : Pow) (i : Int) : deadS (newS g pw) i = false := by
  unfold deadS newS
  simp only
  by_cases h : i.toNat < g.d.toNat
  · rw [getD_rep _ _ h]; rfl
  · rw [List.getD_eq_getElem?_getD, List.getElem?_replicate, if_neg h]; rfl
theorem newS_key (g : Geo) (pw : Pow) (i : Nat) : ((newS g pw).ds.getD i dsk0).key = 0 := by
  unfold newS
  simp only
  by_cases h : i < g.d.toNat
  · rw [getD_rep _ _ h]; rfl
  · rw [List.getD_eq_getElem?_getD, List.getElem?_replicate, if_neg h]; rfl
theorem newS_ok {g : Geo} (hg : GeoOk g) (pw : Pow) : SsOk g (newS g pw) := by
  have hd := hg.d
  have hsz := hg.size
  refine ⟨hg, by show ((List.replicate _ _).length : Int) = _; rw [List.length_replicate]; omega, fun D hD => ?_, fun D hD => ?_⟩
  · rw [(List.mem_replicate.1 hD).2]
    show ((nuls _).length : Int) = _
    rw [len_nuls]; omega
  · rw [(List.mem_replicate.1 hD).2]
    refine ⟨fun x hx => ?_, Int.le_refl 0, (by show (0 : Int) ≤ 4294967295; decide)⟩
    have hx : x ∈ nuls _ := hx
    unfold nuls at hx
    obtain ⟨k, _, rfl⟩ := List.mem_map.1 hx
    exact ⟨sec0_ok, (sumS_ok _ _).1, (sumS_ok _ _).2⟩
theorem newS_inv {g : Geo} (hg : GeoOk g) (pw : Pow) : Inv g (newS g pw) now0 := by
  intro st off hst hof k hk f hv
  obtain ⟨pk1, pk2⟩ := plcP_ok hg hst hof (k : Int)
  rw [newS_view hg pk1 pk2] at hv
  rw [← Option.some.inj hv]
  exact full_zero hg hk
/-- two disks at most are behind the columns that are lost -/
theorem lost_two {g : Geo} (hg : GeoOk g) {s : SS} {st off : Int} (hst : 0 ≤ st ∧ st < g.s) (hof : 0 ≤ off ∧ off < g.c) (i j : Int) (h : ∀ k : Nat, k < g.d.toNat → viewS s (plcP g st off (k : Int)).dk (plcP g st off (k : Int)).at_ = none → (plcP g st off (k : Int)).dk = i ∨ (plcP g st off (k : Int)).dk = j) : lostN (colsS g s st off) ≤ 2 := by
  have hd := hg.d
  have hl := goneL_len (colsS g s st off)
  have idx : ∀ x ∈ goneL (colsS g s st off), ∃ n : Nat, x = (n : Int) ∧ n < g.d.toNat ∧ ((plcP g st off x).dk = i ∨ (plcP g st off x).dk = j) := fun x hx => by
    obtain ⟨n, h1, h2, h3⟩ := goneI_lt (colsS g s st off) _ x hx
    rw [len_colsS] at h2
    rw [colsS_view h2] at h3
    exact ⟨n, h1, h2, by rw [h1]; exact h n h2 (Option.some.inj h3)⟩
  have hs := goneI_sorted (colsS g s st off) (colsS g s st off).length
  have hs : (goneL (colsS g s st off)).Pairwise (· < ·) := hs
  match hG : goneL (colsS g s st off) with
  | [] => rw [hG] at hl; simp at hl; omega
  | [x] => rw [hG] at hl; simp at hl; omega
  | [x, y] => rw [hG] at hl; simp at hl; omega
  | x :: y :: z :: l =>
    exfalso
    rw [hG] at hs idx
    have hxy : x < y ∧ x < z ∧ y < z := by
      simp only [List.pairwise_cons, List.mem_cons] at hs
      exact ⟨hs.1 y (Or.inl rfl), hs.1 z (Or.inr (Or.inl rfl)), hs.2.1 z (Or.inl rfl)⟩
    obtain ⟨n1, e1, l1, d1⟩ := idx x (by simp)
    obtain ⟨n2, e2, l2, d2⟩ := idx y (by simp)
    obtain ⟨n3, e3, l3, d3⟩ := idx z (by simp)
    have ne : ∀ {a b : Int}, 0 ≤ a ∧ a < g.d → 0 ≤ b ∧ b < g.d → a ≠ b → (plcP g st off a).dk ≠ (plcP g st off b).dk := fun {a b} ha hb hab he => hab (plcP_inj hg hst hof hst hof ha hb he rfl).2.2
    have n12 := ne (a := x) (b := y) (by omega) (by omega) (by omega)
    have n13 := ne (a := x) (b := z) (by omega) (by omega) (by omega)
    have n23 := ne (a := y) (b := z) (by omega) (by omega) (by omega)
    omega
end Go.Proofs
