/-
  MAPS WITH INTEGER KEYS, AS LISTS OF PAIRS: look-up, store, delete, len, and the steps of a range.
-/
import Derived.Test.YthhimblbnnafkaaGreatLib
namespace Go.Ev
open Go
set_option linter.unusedSimpArgs false
set_option linter.unusedVariables false

/-- the entries as pairs; no key twice; stamps that part the entries -/
structure MapOk (k : IntKind) (arr : Array MapEntry) (clk : Nat) (es : List (Int × Value)) : Prop where
  ent : arr.toList.map (fun e => (e.key, e.val)) = es.map fun p => (Value.int k p.1, p.2)
  keys : (es.map (·.1)).Nodup
  stamps : (arr.toList.map (·.born)).Nodup
  clock : ∀ e ∈ arr.toList, e.born < clk

/-- block m of w is the map es -/
def MapAt (k : IntKind) (w : World) (m : Nat) (es : List (Int × Value)) : Prop := ∃ arr clk, Has w m (.map arr clk) ∧ MapOk k arr clk es

def mlook {α : Type} (es : List (Int × α)) (x : Int) : Option α := (es.find? fun p => p.1 == x).map (·.2)
def ins {α : Type} (es : List (Int × α)) (x : Int) (v : α) : List (Int × α) :=
  if es.any (fun p => p.1 == x) then es.map (fun p => if p.1 == x then (x, v) else p) else es ++ [(x, v)]
def del {α : Type} (es : List (Int × α)) (x : Int) : List (Int × α) := es.filter fun p => !(p.1 == x)

theorem MapAt.dr {k : IntKind} {w : World} {m : Nat} {es : List (Int × Value)} (h : MapAt k w m es) (d : Nat) : MapAt k (w.dr d) m es := h
theorem MapAt.keep {k : IntKind} {w w' : World} {m : Nat} {es : List (Int × Value)} {S : Nat → Prop} (h : MapAt k w m es) (hk : Keep S w w') (hS : ¬ S m) : MapAt k w' m es := by
  obtain ⟨arr, clk, hb, ho⟩ := h
  exact ⟨arr, clk, hk.has hb hS, ho⟩
theorem MapAt.lt {k : IntKind} {w : World} {m : Nat} {es : List (Int × Value)} (h : MapAt k w m es) : m < w.heap.size := by
  obtain ⟨arr, clk, hb, ho⟩ := h
  exact hb.lt
theorem MapAt.ne {k : IntKind} {w : World} {m b : Nat} {es : List (Int × Value)} (h : MapAt k w m es) {c : Array Value} {t : TypeId} {f : Nat × Nat} (hb : Has w b (.cells c t f)) : m ≠ b := by
  obtain ⟨arr, clk, hm, ho⟩ := h
  exact hm.ne hb (by simp)

theorem keys_nodup_ins {α : Type} {es : List (Int × α)} (h : (es.map (·.1)).Nodup) (x : Int) (v : α) : ((ins es x v).map (·.1)).Nodup := by
  unfold ins
  split
  · have : (es.map fun p => if p.1 == x then (x, v) else p).map (·.1) = es.map (·.1) := by
      rw [List.map_map]
      apply List.map_congr_left
      intro p _
      simp only [Function.comp]
      split
      · rename_i hp; simp at hp; simp [hp]
      · rfl
    rw [this]; exact h
  · rename_i hn
    rw [List.map_append, List.nodup_append]
    refine ⟨h, by simp, ?_⟩
    intro a ha b hb
    simp at hb
    subst hb
    intro e
    subst e
    apply hn
    obtain ⟨p, hp, rfl⟩ := List.mem_map.1 ha
    exact List.any_eq_true.2 ⟨p, hp, by simp⟩

section run
variable {P : Program} {k : IntKind} {w : World}

theorem run_checkKey_int {e : Bool} {t : TypeId} (ht : P.underlying t = some (.int k)) (x : Int) (n : Nat) : (Instr.checkKey e (n + 1) t (.int k x)).run P w = .ok () w := by
  simp [Instr.checkKey, Sem.run_bind, run_dr_underlying ht, Sem.run_pure]

theorem findNow_int : ∀ (l : List MapEntry) (es : List (Int × Value)) (x : Int) (i : Nat), l.map (fun e => (e.key, e.val)) = es.map (fun p => (Value.int k p.1, p.2)) →
    Instr.findNow (.int k) (.int k x) l i = some ((es.findIdx? fun p => p.1 == x).bind fun j => (es[j]?).map fun p => (i + j, p.2))
  | [], [], x, i, _ => by simp [Instr.findNow]
  | e :: l, p :: es, x, i, h => by
    simp only [List.map_cons, List.cons.injEq, Prod.mk.injEq] at h
    obtain ⟨⟨hk, hv⟩, h⟩ := h
    unfold Instr.findNow
    rw [hk]
    simp only [Instr.sameNow, if_true]
    by_cases hx : x = p.1
    · have h1 : (x == p.1) = true := by simp [hx]
      have h2 : (p.1 == x) = true := by simp [hx]
      rw [h1, List.findIdx?_cons, h2]
      simp [hv]
    · have h1 : (x == p.1) = false := by simp [hx]
      have h2 : (p.1 == x) = false := beq_eq_false_iff_ne.2 fun h => hx h.symm
      rw [h1, List.findIdx?_cons, h2]
      simp only [findNow_int l es x (i + 1) h, Bool.false_eq_true, if_false]
      cases hf : es.findIdx? fun p => p.1 == x with
      | none => simp
      | some j => simp; congr 1; funext q; congr 1; omega
  | [], _ :: _, _, _, h => by simp at h
  | _ :: _, [], _, _, h => by simp at h

theorem find_findIdx (es : List (Int × Value)) (x : Int) : ((es.findIdx? fun p => p.1 == x).bind fun j => es[j]?) = es.find? fun p => p.1 == x := by
  induction es with
  | nil => rfl
  | cons p es ih =>
    rw [List.findIdx?_cons, List.find?_cons]
    by_cases h : (p.1 == x) = true
    · simp [h]
    · simp only [h, Bool.false_eq_true, if_false]
      rw [← ih]
      cases es.findIdx? fun p => p.1 == x <;> simp

theorem run_findKey_int {t : TypeId} (ht : P.underlying t = some (.int k)) {arr : Array MapEntry} {clk : Nat} {es : List (Int × Value)} (h : MapOk k arr clk es) (x : Int) :
    (Instr.findKey t (.int k x) arr.toList).run P w = .ok ((es.findIdx? fun p => p.1 == x).bind fun j => (es[j]?).map fun p => (j, p.2)) w := by
  simp only [Instr.findKey, Sem.run_bind, run_dr_underlying ht, Result.andThen_ok, findNow_int _ _ x 0 h.ent, Sem.run_pure, Nat.zero_add]

theorem run_getObj_map {m : Nat} {arr : Array MapEntry} {clk : Nat} (h : Has w m (.map arr clk)) : (getObj m).run P w = .ok (.map arr clk) w := by
  unfold Has at h
  simp [getObj, Sem.run, h]
theorem run_setObj_map {m : Nat} {arr : Array MapEntry} {clk : Nat} (h : Has w m (.map arr clk)) (x : Obj) : (setObj m x).run P w = .ok () (w.upd m x) := by
  unfold Has at h
  simp [setObj, Sem.run, h, World.upd]

theorem run_zeroValue {t : TypeId} {i : TypeInfo} {z : Value} (hi : P.info? t = some i) (hz : i.zero = some z) : (zeroValue t).run P w = .ok z w := by
  simp [zeroValue, Sem.run_bind, run_typeInfo hi, hz, Sem.run_pure]

/-- 'm[x]' and 'v, ok := m[x]' -/
theorem run_lookup {t kt et : TypeId} {m : Nat} {es : List (Int × Value)} {z : Value} (ht : P.underlying t = some (.map kt et)) (hk : P.underlying kt = some (.int k)) (hz : ∀ w, (zeroValue et).run P w = .ok z w)
    (h : MapAt k w m es) (x : Int) (ok : Bool) :
    (Instr.lookup t (.map (some m)) (.int k x) ok).run P w = .ok (if ok then .tuple #[(mlook es x).getD z, .bool (mlook es x).isSome] else (mlook es x).getD z) w := by
  obtain ⟨arr, clk, hb, ho⟩ := h
  simp only [Instr.lookup, Sem.run_bind, run_dr_underlying ht, Result.andThen_ok, run_getObj_map hb, Sem.run_pure, run_checkKey_int hk, run_findKey_int hk ho]
  have hl : mlook es x = ((es.findIdx? fun p => p.1 == x).bind fun j => es[j]?).map (·.2) := by rw [find_findIdx]; rfl
  cases hf : es.findIdx? fun p => p.1 == x with
  | none =>
    rw [hf] at hl
    simp only [Option.bind_none, Option.map_none] at hl ⊢
    rw [hl]
    simp only [Sem.run_bind, hz, Result.andThen_ok, Sem.run_pure]
    cases ok <;> simp [Sem.run_pure]
  | some j =>
    rw [hf] at hl
    have hj : j < es.length := (List.findIdx?_eq_some_iff_getElem.1 hf).1
    simp only [Option.bind_some, List.getElem?_eq_getElem hj, Option.map_some] at hl ⊢
    rw [hl]
    cases ok <;> simp [Sem.run_pure]

/-- 'm[x]' at a nil map -/
theorem run_lookup_nil {t kt et : TypeId} {z : Value} (ht : P.underlying t = some (.map kt et)) (hk : P.underlying kt = some (.int k)) (hz : ∀ w, (zeroValue et).run P w = .ok z w) (x : Int) (ok : Bool) :
    (Instr.lookup t (.map none) (.int k x) ok).run P w = .ok (if ok then .tuple #[z, .bool false] else z) w := by
  simp only [Instr.lookup, Sem.run_bind, run_dr_underlying ht, Result.andThen_ok, Sem.run_pure, run_checkKey_int hk, Instr.findKey, run_dr_underlying hk, Instr.findNow, hz]

theorem map_modify_ent {l : List MapEntry} {es : List (Int × Value)} (h : l.map (fun e => (e.key, e.val)) = es.map (fun p => (Value.int k p.1, p.2))) (hn : (es.map (·.1)).Nodup) (x : Int) (v : Value) :
    ∀ j, es.findIdx? (fun p => p.1 == x) = some j → (l.modify j fun e => { e with key := .int k x, val := v }).map (fun e => (e.key, e.val)) = (es.map fun p => if p.1 == x then (x, v) else p).map (fun p => (Value.int k p.1, p.2)) := by
  induction es generalizing l with
  | nil => intro j hj; simp at hj
  | cons p es ih =>
    intro j hj
    cases l with
    | nil => simp at h
    | cons e l =>
      simp only [List.map_cons, List.cons.injEq, Prod.mk.injEq] at h
      obtain ⟨⟨hk, hv⟩, h⟩ := h
      simp only [List.map_cons, List.nodup_cons] at hn
      rw [List.findIdx?_cons] at hj
      by_cases hx : (p.1 == x) = true
      · rw [hx] at hj
        simp only [if_true, Option.some.injEq] at hj
        subst hj
        have hx' : p.1 = x := by simpa using hx
        simp only [List.modify_zero_cons, List.map_cons, hx, if_true, List.cons.injEq, true_and]
        rw [h]
        congr 1
        conv => lhs; rw [← List.map_id es]
        apply List.map_congr_left
        intro q hq
        have : ¬ (q.1 == x) = true := by
          intro hq'
          apply hn.1
          refine List.mem_map.2 ⟨q, hq, ?_⟩
          have hq2 : q.1 = x := by simpa using hq'
          rw [hq2, hx']
        simp [this]
      · simp only [hx, Bool.false_eq_true, if_false] at hj
        cases hf : es.findIdx? fun p => p.1 == x with
        | none => rw [hf] at hj; simp at hj
        | some j' =>
          rw [hf] at hj
          simp only [Option.map_some, Option.some.injEq] at hj
          subst hj
          simp only [List.modify_succ_cons, List.map_cons, hx, Bool.false_eq_true, if_false, List.cons.injEq, hk, hv, true_and]
          exact ih h hn.2 j' hf

/-- 'm[x] = v' -/
theorem run_mapUpdate {t kt et : TypeId} {m : Nat} {es : List (Int × Value)} (ht : P.underlying t = some (.map kt et)) (hk : P.underlying kt = some (.int k)) (h : MapAt k w m es) (x : Int) (v : Value) :
    ∃ arr clk, (Instr.mapUpdate t (.map (some m)) (.int k x) v).run P w = .ok () (w.upd m (.map arr clk)) ∧ MapOk k arr clk (ins es x v) := by
  obtain ⟨arr, clk, hb, ho⟩ := h
  have hkn := keys_nodup_ins ho.keys x v
  cases hf : es.findIdx? fun p => p.1 == x with
  | none =>
    have hany : es.any (fun p => p.1 == x) = false := by
      rw [List.findIdx?_eq_none_iff] at hf
      rw [List.any_eq_false]
      intro p hp; simpa using hf p hp
    refine ⟨arr.push { key := .int k x, val := v, born := clk }, clk + 1, ?_, ?_, hkn, ?_, ?_⟩
    · simp only [Instr.mapUpdate, Sem.run_bind, run_dr_underlying ht, Result.andThen_ok, run_getObj_map hb, run_checkKey_int hk, run_findKey_int hk ho, hf, Option.bind_none, run_setObj_map hb]
    · simp [ins, hany, ho.ent]
    · simp only [Array.toList_push, List.map_append, List.map_cons, List.map_nil, List.nodup_append]
      refine ⟨ho.stamps, by simp, ?_⟩
      intro a ha b hb' e
      simp at hb'
      subst hb' e
      obtain ⟨q, hq, hqe⟩ := List.mem_map.1 ha
      have := ho.clock q hq
      omega
    · intro e he
      simp only [Array.toList_push, List.mem_append, List.mem_singleton] at he
      rcases he with he | rfl
      · have := ho.clock e he; omega
      · simp
  | some j =>
    have hj : j < es.length := (List.findIdx?_eq_some_iff_getElem.1 hf).1
    have hany : es.any (fun p => p.1 == x) = true := by
      rw [List.any_eq_true]
      exact ⟨es[j], List.getElem_mem _, (List.findIdx?_eq_some_iff_getElem.1 hf).2.1⟩
    have hlen : arr.size = es.length := by have := congrArg List.length ho.ent; simpa using this
    refine ⟨arr.modify j fun e => { e with key := .int k x, val := v }, clk, ?_, ?_, hkn, ?_, ?_⟩
    · have hja : j < arr.size := by omega
      have hkey : (arr[j]?).map (·.key) = some (.int k (es[j]).1) := by
        have h1 := congrArg (fun l => (l[j]?).map (·.1)) ho.ent
        simp only [List.getElem?_map, Array.getElem?_toList, List.getElem?_eq_getElem hj, Option.map_some, Option.map_map] at h1
        exact h1
      have hxe : (es[j]).1 = x := by have := (List.findIdx?_eq_some_iff_getElem.1 hf).2.1; simpa using this
      have hst : ∀ w, (Instr.keyThatStays (.int k x) (.int k x)).run P w = .ok (.int k x) w := fun w => by simp [Instr.keyThatStays, Instr.sameBits, Sem.run_pure]
      simp only [Instr.mapUpdate, Sem.run_bind, run_dr_underlying ht, Result.andThen_ok, run_getObj_map hb, run_checkKey_int hk, run_findKey_int hk ho, hf, Option.bind_some, List.getElem?_eq_getElem hj, Option.map_some,
        hkey, Option.getD_some, hxe, hst, run_setObj_map hb]
    · rw [Array.toList_modify]
      simp only [ins, hany, if_true]
      exact map_modify_ent ho.ent ho.keys x v j hf
    · have : ((arr.modify j fun e => { e with key := Value.int k x, val := v }).toList.map (·.born)) = arr.toList.map (·.born) := by
        rw [Array.toList_modify]
        apply List.ext_getElem?
        intro i
        simp only [List.getElem?_map, List.getElem?_modify]
        by_cases hij : j = i
        · subst hij; cases arr.toList[j]? <;> simp
        · simp [hij]
      rw [this]; exact ho.stamps
    · intro e he
      rw [Array.toList_modify] at he
      obtain ⟨i, hi⟩ := List.mem_iff_getElem?.1 he
      rw [List.getElem?_modify] at hi
      cases hai : arr.toList[i]? with
      | none => rw [hai] at hi; simp at hi
      | some e' =>
        rw [hai] at hi
        have hc := ho.clock e' (List.mem_of_getElem? hai)
        by_cases hij : j = i
        · simp [hij] at hi; subst hi; exact hc
        · simp [hij] at hi; subst hi; exact hc

theorem map_eraseIdx' {α β : Type} (f : α → β) (l : List α) (j : Nat) : (l.eraseIdx j).map f = (l.map f).eraseIdx j := by
  induction l generalizing j with
  | nil => rfl
  | cons a l ih => cases j <;> simp [ih]

theorem eraseIdx_filter {es : List (Int × Value)} (hn : (es.map (·.1)).Nodup) (x : Int) : ∀ j, es.findIdx? (fun p => p.1 == x) = some j → es.eraseIdx j = del es x := by
  induction es with
  | nil => intro j hj; simp at hj
  | cons p es ih =>
    intro j hj
    simp only [List.map_cons, List.nodup_cons] at hn
    rw [List.findIdx?_cons] at hj
    by_cases hx : (p.1 == x) = true
    · rw [hx] at hj
      simp only [if_true, Option.some.injEq] at hj
      subst hj
      have hx' : p.1 = x := by simpa using hx
      simp only [List.eraseIdx_cons_zero, del, List.filter_cons, hx, Bool.not_true, Bool.false_eq_true, if_false]
      symm
      apply List.filter_eq_self.2
      intro q hq
      simp only [Bool.not_eq_true', beq_eq_false_iff_ne]
      intro e
      exact hn.1 (List.mem_map.2 ⟨q, hq, by rw [e, hx']⟩)
    · simp only [hx, Bool.false_eq_true, if_false] at hj
      cases hf : es.findIdx? fun p => p.1 == x with
      | none => rw [hf] at hj; simp at hj
      | some j' =>
        rw [hf] at hj
        simp only [Option.map_some, Option.some.injEq] at hj
        subst hj
        simp only [List.eraseIdx_cons_succ, del, List.filter_cons, hx, Bool.not_false, if_true]
        rw [ih hn.2 j' hf]; rfl

/-- 'delete(m, x)' -/
theorem run_delete {t ty kt et : TypeId} {m : Nat} {es : List (Int × Value)} (ht : P.underlying t = some (.map kt et)) (hk : P.underlying kt = some (.int k)) (h : MapAt k w m es) (x : Int) :
    ∃ arr clk, (Builtin.delete_ #[t, kt] ty #[.map (some m), .int k x]).run P w = .ok (.tuple #[]) (w.upd m (.map arr clk)) ∧ MapOk k arr clk (del es x) := by
  obtain ⟨arr, clk, hb, ho⟩ := h
  cases hf : es.findIdx? fun p => p.1 == x with
  | none =>
    have hd : del es x = es := by
      apply List.filter_eq_self.2
      rw [List.findIdx?_eq_none_iff] at hf
      intro p hp; have := hf p hp; simpa using this
    refine ⟨arr, clk, ?_, ?_⟩
    · simp [Builtin.delete_, Sem.run_bind, run_dr_underlying ht, run_getObj_map hb, run_checkKey_int hk, run_findKey_int hk ho, hf, run_setObj_map hb, Sem.run_pure]
    · rw [hd]; exact ho
  | some j =>
    have hj : j < es.length := (List.findIdx?_eq_some_iff_getElem.1 hf).1
    have hlen : arr.size = es.length := by have := congrArg List.length ho.ent; simpa using this
    refine ⟨arr.eraseIdxIfInBounds j, clk, ?_, ?_, ?_, ?_, ?_⟩
    · simp [Builtin.delete_, Sem.run_bind, run_dr_underlying ht, run_getObj_map hb, run_checkKey_int hk, run_findKey_int hk ho, hf, List.getElem?_eq_getElem hj, run_setObj_map hb, Sem.run_pure]
    · have : (arr.eraseIdxIfInBounds j).toList = arr.toList.eraseIdx j := by
        unfold Array.eraseIdxIfInBounds
        rw [dif_pos (by omega)]
        simp
      rw [this, map_eraseIdx', ho.ent, ← map_eraseIdx', eraseIdx_filter ho.keys x j hf]
    · unfold del
      exact (ho.keys.sublist (List.Sublist.map _ List.filter_sublist))
    · have hs : (arr.eraseIdxIfInBounds j).toList.Sublist arr.toList := by
        unfold Array.eraseIdxIfInBounds
        rw [dif_pos (by omega)]
        simp [List.eraseIdx_sublist]
      exact ho.stamps.sublist (hs.map _)
    · have hs : (arr.eraseIdxIfInBounds j).toList.Sublist arr.toList := by
        unfold Array.eraseIdxIfInBounds
        rw [dif_pos (by omega)]
        simp [List.eraseIdx_sublist]
      exact fun e he => ho.clock e (hs.subset he)

/-- 'len(m)' -/
theorem run_lenm {t ty kt et : TypeId} {m : Nat} {es : List (Int × Value)} (ht : P.underlying t = some (.map kt et)) (h : MapAt k w m es) :
    (Builtin.len_ #[t] ty #[.map (some m)]).run P w = .ok (.int .i64 es.length) w := by
  obtain ⟨arr, clk, hb, ho⟩ := h
  have hlen : arr.size = es.length := by have := congrArg List.length ho.ent; simpa using this
  simp [Builtin.len_, Sem.run_bind, run_dr_underlying ht, run_getObj_map hb, Sem.run_pure, goInt, hlen]

/-- 'make(map[K]V)' -/
theorem run_makeMap {t : TypeId} : (Instr.makeMap t none).run P w = .ok (.map (some w.heap.size)) (w.alloc (.map #[] 0)) := by
  rfl
theorem MapOk.nil (k : IntKind) : MapOk k #[] 0 [] := ⟨rfl, by simp, by simp, by simp⟩
end run

/-! ### the maps as data -/
theorem look_ins {α : Type} (es : List (Int × α)) (x y : Int) (v : α) : mlook (ins es x v) y = if y = x then some v else mlook es y := by
  unfold mlook ins
  split
  · rename_i ha
    induction es with
    | nil => simp at ha
    | cons p es ih =>
      simp only [List.map_cons, List.find?_cons]
      by_cases hp : p.1 = x
      · subst hp
        by_cases hy : y = p.1
        · subst hy; simp
        · have h1 : (p.1 == y) = false := beq_eq_false_iff_ne.2 fun h => hy h.symm
          simp only [BEq.rfl, if_true, h1, if_neg hy]
          by_cases ha' : es.any (fun q => q.1 == p.1) = true
          · have := ih ha'
            rw [if_neg hy] at this
            exact this
          · have he : (es.map fun q => if q.1 == p.1 then (p.1, v) else q) = es := by
              conv => rhs; rw [← List.map_id es]
              apply List.map_congr_left
              intro q hq
              have : ¬ (q.1 == p.1) = true := fun h => ha' (List.any_eq_true.2 ⟨q, hq, h⟩)
              simp [this]
            rw [he]
      · have h0 : (p.1 == x) = false := by simp [hp]
        have ha' : es.any (fun q => q.1 == x) = true := by simpa [hp] using ha
        simp only [h0, Bool.false_eq_true, if_false]
        by_cases hy : p.1 = y
        · have h1 : (p.1 == y) = true := by simp [hy]
          simp only [h1]
          rw [if_neg (by rw [← hy]; exact hp)]
        · have h1 : (p.1 == y) = false := by simp [hy]
          simp only [h1]
          exact ih ha'
  · rename_i ha
    rw [List.find?_append]
    by_cases hy : y = x
    · subst hy
      have : es.find? (fun p => p.1 == y) = none := by
        rw [List.find?_eq_none]
        intro p hp h
        exact ha (List.any_eq_true.2 ⟨p, hp, h⟩)
      simp [this]
    · have : (x == y) = false := beq_eq_false_iff_ne.2 fun h => hy h.symm
      simp [this, hy]
theorem look_del {α : Type} (es : List (Int × α)) (x y : Int) : mlook (del es x) y = if y = x then none else mlook es y := by
  unfold mlook del
  rw [List.find?_filter]
  by_cases hy : y = x
  · subst hy
    rw [if_pos rfl]
    have : es.find? (fun a => decide ((!(a.1 == y)) = true ∧ (a.1 == y) = true)) = none := by
      rw [List.find?_eq_none]; intro p _; simp
    rw [this]; rfl
  · rw [if_neg hy]
    congr 2
    funext p
    by_cases h : p.1 = y
    · have : ¬ p.1 = x := by rw [h]; exact hy
      simp [h, hy]
    · simp [h]
theorem look_nil {α : Type} (x : Int) : mlook ([] : List (Int × α)) x = none := rfl
theorem length_ins {α : Type} (es : List (Int × α)) (x : Int) (v : α) : (ins es x v).length = if (mlook es x).isSome then es.length else es.length + 1 := by
  have : es.any (fun p => p.1 == x) = (mlook es x).isSome := by
    unfold mlook
    rw [Option.isSome_map]
    induction es with
    | nil => rfl
    | cons p es ih =>
      rw [List.any_cons, List.find?_cons]
      cases p.1 == x <;> simp [ih]
  unfold ins
  rw [this]
  split <;> simp

/-! ### values of another sort -/
def tag {α β : Type} (f : α → β) (es : List (Int × α)) : List (Int × β) := es.map fun p => (p.1, f p.2)
theorem look_tag {α β : Type} (f : α → β) (es : List (Int × α)) (x : Int) : mlook (tag f es) x = (mlook es x).map f := by
  unfold mlook tag
  rw [List.find?_map]
  simp only [Function.comp_def, Option.map_map]
theorem ins_tag {α β : Type} (f : α → β) (es : List (Int × α)) (x : Int) (v : α) : ins (tag f es) x (f v) = tag f (ins es x v) := by
  unfold ins tag
  simp only [List.any_map, Function.comp_def]
  split
  · simp only [List.map_map]
    apply List.map_congr_left
    intro p _
    simp only [Function.comp]
    split <;> rfl
  · simp
theorem del_tag {α β : Type} (f : α → β) (es : List (Int × α)) (x : Int) : del (tag f es) x = tag f (del es x) := by
  unfold del tag
  rw [List.filter_map]; rfl
@[simp] theorem length_tag {α β : Type} (f : α → β) (es : List (Int × α)) : (tag f es).length = es.length := by simp [tag]
theorem keys_nodup_del {α : Type} {es : List (Int × α)} (h : (es.map (·.1)).Nodup) (x : Int) : ((del es x).map (·.1)).Nodup := h.sublist (List.Sublist.map _ List.filter_sublist)
theorem length_del {α : Type} {es : List (Int × α)} (h : (es.map (·.1)).Nodup) (x : Int) : (del es x).length = if (mlook es x).isSome then es.length - 1 else es.length := by
  induction es with
  | nil => rfl
  | cons p es ih =>
    simp only [List.map_cons, List.nodup_cons] at h
    have ih := ih h.2
    unfold del mlook at *
    by_cases hp : p.1 = x
    · subst hp
      have : List.filter (fun q => !(q.1 == p.1)) es = es := by
        apply List.filter_eq_self.2
        intro q hq
        simp only [Bool.not_eq_true', beq_eq_false_iff_ne]
        exact fun e => h.1 (List.mem_map.2 ⟨q, hq, e⟩)
      simp [this]
    · have hb : (p.1 == x) = false := beq_eq_false_iff_ne.2 hp
      simp only [List.filter_cons, hb, Bool.not_false, if_true, List.length_cons, ih, List.find?_cons]
      split
      · rename_i hs
        cases es with
        | nil => simp at hs
        | cons q es => simp
      · rfl
end Go.Ev
