/-
  THE EQUALITY OF STRUCTS AND ARRAYS OF NUMBERS AND BOOLS: '==' at such a type says whether the cells are the same; and how a struct or an array is built from parts.
-/
import Derived.Test.YthhimblbnnafkaaGreatLib
import Derived.DeepKeys
namespace Go.Ev
open Go
set_option linter.unusedSimpArgs false
set_option linter.unusedVariables false

inductive CK where
  | int (k : IntKind) | bool
  deriving DecidableEq

/-- a cell of that kind, in its range -/
def CK.ok : CK → Value → Prop
  | .int k, v => ∃ n, v = .int k n ∧ k.min ≤ n ∧ n ≤ k.max
  | .bool, v => ∃ b, v = .bool b
def litOf : Value → Lit
  | .int k n => .int k n
  | .bool b => .bool b
  | _ => .bool false
/-- the cells fit the kinds -/
def Fits : List CK → List Value → Prop
  | [], [] => True
  | k :: ks, v :: vs => k.ok v ∧ Fits ks vs
  | _, _ => False
theorem Fits.length : ∀ {ks : List CK} {vs : List Value}, Fits ks vs → vs.length = ks.length
  | [], [], _ => rfl
  | _ :: _, _ :: _, h => by simp [Fits.length h.2]
  | [], _ :: _, h => h.elim
  | _ :: _, [], h => h.elim
theorem Fits.append : ∀ {ks ls : List CK} {vs us : List Value}, Fits ks vs → Fits ls us → Fits (ks ++ ls) (vs ++ us)
  | [], _, [], _, _, h => h
  | _ :: _, _, _ :: _, _, h, h' => ⟨h.1, Fits.append h.2 h'⟩
  | [], _, _ :: _, _, h, _ => h.elim
  | _ :: _, _, [], _, h, _ => h.elim
theorem Fits.split : ∀ {ks ls : List CK} {vs : List Value}, Fits (ks ++ ls) vs → Fits ks (vs.take ks.length) ∧ Fits ls (vs.drop ks.length)
  | [], ls, vs, h => ⟨by simp [Fits], by simpa using h⟩
  | _ :: ks, ls, v :: vs, h => by
    obtain ⟨h1, h2⟩ := Fits.split (ks := ks) (ls := ls) h.2
    exact ⟨⟨h.1, h1⟩, h2⟩
  | _ :: _, _, [], h => h.elim
theorem litOf_inj : ∀ {ks : List CK} {vs us : List Value}, Fits ks vs → Fits ks us → vs.map litOf = us.map litOf → vs = us
  | [], [], [], _, _, _ => rfl
  | k :: ks, v :: vs, u :: us, h, h', he => by
    simp only [List.map_cons, List.cons.injEq] at he
    have hr := litOf_inj h.2 h'.2 he.2
    have : v = u := by
      have h1 := h.1; have h2 := h'.1
      cases k with
      | int k =>
        obtain ⟨n, rfl, _⟩ := h1
        obtain ⟨m, rfl, _⟩ := h2
        have := he.1
        simp only [litOf, Lit.int.injEq, true_and] at this
        rw [this]
      | bool =>
        obtain ⟨n, rfl⟩ := h1
        obtain ⟨m, rfl⟩ := h2
        have := he.1
        simp only [litOf, Lit.bool.injEq] at this
        rw [this]
    rw [this, hr]
  | [], _ :: _, _, h, _, _ => h.elim
  | _ :: _, [], _, h, _, _ => h.elim
  | [], [], _ :: _, _, h, _ => h.elim
  | _ :: _, _ :: _, [], _, h, _ => h.elim

/-- the kinds of a type's cells, if it is made of numbers and bools, one behind the other -/
def flat (P : Program) : Nat → TypeId → Option (List CK)
  | 0, _ => none
  | d + 1, t =>
    match P.underlying t with
    | some .bool => some [.bool]
    | some (.int k) => some [.int k]
    | some (.array n e) => (flat P d e).bind fun ks => if ks.length = P.cellsOf e ∧ P.cellsOf t = n * ks.length then some (List.replicate n ks).flatten else none
    | some (.struct fs) => if fs.all (·.name != "_") = true then (go (flat P d) fs.toList 0).bind fun ks => if ks.length = P.cellsOf t then some ks else none else none
    | _ => none
 where go (f : TypeId → Option (List CK)) : List Field → Nat → Option (List CK)
  | [], _ => some []
  | g :: gs, off => (f g.type).bind fun ks => if g.offset = off ∧ ks.length = P.cellsOf g.type then (go f gs (off + ks.length)).map (ks ++ ·) else none

section
variable {P : Program}
theorem keyLits_flat : ∀ {d : Nat} {t : TypeId} {ks : List CK} {cs : List Value}, flat P d t = some ks → Fits ks cs → P.keyLits d t cs = some (cs.map litOf)
  | 0, _, _, _, h, _ => by simp [flat] at h
  | d + 1, t, ks, cs, h, hf => by
    unfold flat at h
    unfold Program.keyLits
    cases hu : P.underlying t with
    | none => simp [hu] at h
    | some kd =>
      simp only [hu] at h
      cases kd
      case bool =>
        simp only [Option.some.injEq] at h
        subst h
        match cs, hf with
        | [v], ⟨⟨b, hb⟩, _⟩ => subst hb; rfl
      case int k =>
        simp only [Option.some.injEq] at h
        subst h
        match cs, hf with
        | [v], ⟨⟨n, hn, h1, h2⟩, _⟩ => subst hn; simp [Lit.wf, h1, h2, litOf]
      case array n e =>
        simp only [Option.bind_eq_some_iff] at h
        obtain ⟨ks', he, h⟩ := h
        split at h
        · rename_i hc
          simp only [Option.some.injEq] at h
          subst h
          obtain ⟨hc1, hc2⟩ := hc
          have hl := hf.length
          have key : ∀ (n a : Nat) (cs : List Value), Fits (List.replicate n ks').flatten (cs.drop (a * ks'.length)) → ((List.range' a n).mapM fun i => P.keyLits d e ((cs.drop (i * P.cellsOf e)).take (P.cellsOf e))).map List.flatten = some ((cs.drop (a * ks'.length)).map litOf) := by
            intro n
            induction n with
            | zero =>
              intro a cs h
              match hcs : cs.drop (a * ks'.length), h with
              | [], _ => simp
            | succ n ih =>
              intro a cs h
              rw [List.replicate_succ, List.flatten_cons] at h
              obtain ⟨h1, h2⟩ := h.split
              rw [List.drop_drop] at h2
              have e1 : a * ks'.length + ks'.length = (a + 1) * ks'.length := by rw [Nat.add_mul, Nat.one_mul]
              rw [e1] at h2
              have ih' := ih (a + 1) cs h2
              rw [List.range'_succ, List.mapM_cons, ← hc1, keyLits_flat he h1]
              rw [← hc1] at ih'
              simp only [bind, Option.bind_some, pure]
              cases hm : (List.range' (a + 1) n).mapM fun i => P.keyLits d e ((cs.drop (i * ks'.length)).take ks'.length) with
              | none => rw [hm] at ih'; simp at ih'
              | some ls =>
                rw [hm] at ih'
                simp only [Option.map_some, Option.some.injEq] at ih'
                simp only [Option.bind_some, Option.map_some, List.flatten_cons, ih', ← List.map_append, ← e1, ← List.drop_drop, List.take_append_drop]
          have := key n 0 cs (by simpa using hf)
          rw [← List.range_eq_range'] at this
          simp only [Nat.zero_mul, List.drop_zero] at this
          exact (if_pos (by rw [hl, hc2]; simp)).trans this
        · cases h
      case struct fs =>
        replace h : (if fs.all (fun g => g.name != "_") = true then (flat.go P (flat P d) fs.toList 0).bind (fun ks => if ks.length = P.cellsOf t then some ks else none) else none) = some ks := h
        by_cases hn : fs.all (fun g => g.name != "_") = true
        · rw [if_pos hn] at h
          simp only [Option.bind_eq_some_iff] at h
          obtain ⟨ks', hg, h⟩ := h
          split at h
          · rename_i hc
            simp only [Option.some.injEq] at h
            subst h
            have hl := hf.length
            have key : ∀ (fs : List Field) (off : Nat) (ks : List CK) (cs : List Value), flat.go P (flat P d) fs off = some ks → Fits ks (cs.drop off) →
                (fs.mapM fun f => P.keyLits d f.type ((cs.drop f.offset).take (P.cellsOf f.type))).map List.flatten = some ((cs.drop off).map litOf) := by
              intro fs
              induction fs with
              | nil =>
                intro off ks cs h hf
                simp only [flat.go, Option.some.injEq] at h
                subst h
                match hcs : cs.drop off, hf with
                | [], _ => simp
              | cons f fs ih =>
                intro off ks cs h hf
                simp only [flat.go, Option.bind_eq_some_iff] at h
                obtain ⟨kf, hk, h⟩ := h
                split at h
                · rename_i hc
                  obtain ⟨hc1, hc2⟩ := hc
                  simp only [Option.map_eq_some_iff] at h
                  obtain ⟨kr, hr, rfl⟩ := h
                  obtain ⟨h1, h2⟩ := hf.split
                  rw [List.drop_drop] at h2
                  have ih' := ih _ _ cs hr h2
                  rw [List.mapM_cons, hc1, ← hc2, keyLits_flat hk h1]
                  simp only [bind, Option.bind_some, pure]
                  cases hm : fs.mapM fun f => P.keyLits d f.type ((cs.drop f.offset).take (P.cellsOf f.type)) with
                  | none => rw [hm] at ih'; simp at ih'
                  | some ls =>
                    rw [hm] at ih'
                    simp only [Option.map_some, Option.some.injEq] at ih'
                    simp only [Option.bind_some, Option.map_some, List.flatten_cons, ih', ← List.map_append, ← List.drop_drop, List.take_append_drop]
                · cases h
            have := key fs.toList 0 ks' cs hg (by simpa using hf)
            simp only [List.drop_zero] at this
            exact (if_pos ⟨by rw [hl, hc], hn⟩).trans this
          · cases h
        · rw [if_neg hn] at h; cases h
      all_goals (simp at h; done)

/-- what '==' says of two structs or arrays -/
theorem EqB_flat {t : TypeId} {ks : List CK} {xs ys : Array Value} {x y : Operand} {C : World → Prop} {K : Bool → Prop} (hk : P.keyTypeAt 9 t = true) (hf : flat P 9 t = some ks)
    (hg : P.eqGuardType P.depth t = false) (hu : (match P.underlying t with | some (.array _ _) | some (.struct _) => true | _ => false) = true) (hc : P.cellsOf t = ks.length)
    (hx : Fits ks xs.toList) (hy : Fits ks ys.toList) (hK : ∀ r : Bool, (r = true ↔ xs = ys) → K r) : EqB P .eql t x y (.agg xs) (.agg ys) C K := by
  have fm : ∀ zs : Array Value, Fits ks zs.toList → (Value.agg zs).formed P t = true := by
    intro zs hz
    have := hz.length
    unfold Value.formed
    split at hu <;> simp_all
  have h := fun w => run_equalIn_deep (P := P) 9991 9 t hk w 9 9 (.agg xs) (.agg ys) _ _ (fm _ hx) (fm _ hy) (keyLits_flat hf hx) (keyLits_flat hf hy)
  have hb : ∀ r : Bool, (r = true ↔ xs.toList.map litOf = ys.toList.map litOf) ↔ (r = true ↔ xs = ys) := by
    intro r
    have : xs.toList.map litOf = ys.toList.map litOf ↔ xs = ys := ⟨fun e => Array.toList_inj.1 (litOf_inj hx hy e), fun e => by rw [e]⟩
    rw [this]
  by_cases e : xs = ys
  · refine ⟨true, fun w _ => ?_, hK _ (by simp [e])⟩
    obtain ⟨r, hr, hi⟩ := h w
    have : r = true := ((hb r).1 hi).2 e
    subst this
    simp only [eqGuard, Sem.run_bind, run_program, hg, Bool.not_false, if_true, Result.andThen_ok, binOp, Op.equal, Op.maxDepth]
    simp [Sem.run_bind, Sem.run_pure, run_program, hg, hr, Op.equal, Op.maxDepth]
  · refine ⟨false, fun w _ => ?_, hK _ (by simp [e])⟩
    obtain ⟨r, hr, hi⟩ := h w
    have : r = false := by
      cases r
      · rfl
      · exact absurd (((hb true).1 hi).1 rfl) e
    subst this
    simp only [eqGuard, Sem.run_bind, run_program, hg, Bool.not_false, if_true, Result.andThen_ok, binOp, Op.equal, Op.maxDepth]
    simp [Sem.run_bind, Sem.run_pure, run_program, hg, hr, Op.equal, Op.maxDepth]
theorem EqB_flat_ne {t : TypeId} {ks : List CK} {xs ys : Array Value} {x y : Operand} {C : World → Prop} {K : Bool → Prop} (hk : P.keyTypeAt 9 t = true) (hf : flat P 9 t = some ks)
    (hg : P.eqGuardType P.depth t = false) (hu : (match P.underlying t with | some (.array _ _) | some (.struct _) => true | _ => false) = true) (hc : P.cellsOf t = ks.length)
    (hx : Fits ks xs.toList) (hy : Fits ks ys.toList) (hK : ∀ r : Bool, (r = true ↔ xs ≠ ys) → K r) : EqB P .neq t x y (.agg xs) (.agg ys) C K := by
  have fm : ∀ zs : Array Value, Fits ks zs.toList → (Value.agg zs).formed P t = true := by
    intro zs hz
    have := hz.length
    unfold Value.formed
    split at hu <;> simp_all
  have h := fun w => run_equalIn_deep (P := P) 9991 9 t hk w 9 9 (.agg xs) (.agg ys) _ _ (fm _ hx) (fm _ hy) (keyLits_flat hf hx) (keyLits_flat hf hy)
  have hb : ∀ r : Bool, (r = true ↔ xs.toList.map litOf = ys.toList.map litOf) ↔ (r = true ↔ xs = ys) := by
    intro r
    have : xs.toList.map litOf = ys.toList.map litOf ↔ xs = ys := ⟨fun e => Array.toList_inj.1 (litOf_inj hx hy e), fun e => by rw [e]⟩
    rw [this]
  by_cases e : xs = ys
  · refine ⟨false, fun w _ => ?_, hK _ (by simp [e])⟩
    obtain ⟨r, hr, hi⟩ := h w
    have : r = true := ((hb r).1 hi).2 e
    subst this
    simp only [eqGuard, Sem.run_bind, run_program, hg, Bool.not_false, if_true, Result.andThen_ok, binOp, Op.equal, Op.maxDepth]
    simp [Sem.run_bind, Sem.run_pure, run_program, hg, hr, Op.equal, Op.maxDepth]
  · refine ⟨true, fun w _ => ?_, hK _ (by simp [e])⟩
    obtain ⟨r, hr, hi⟩ := h w
    have : r = false := by
      cases r
      · rfl
      · exact absurd (((hb true).1 hi).1 rfl) e
    subst this
    simp only [eqGuard, Sem.run_bind, run_program, hg, Bool.not_false, if_true, Result.andThen_ok, binOp, Op.equal, Op.maxDepth]
    simp [Sem.run_bind, Sem.run_pure, run_program, hg, hr, Op.equal, Op.maxDepth]
end
end Go.Ev
