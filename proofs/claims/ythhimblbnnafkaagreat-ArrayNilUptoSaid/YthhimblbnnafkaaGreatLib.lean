/-
  WORDS AND LAWS FOR PROOFS FROM PRINTED FUNCTIONS: how each word of the evaluator is met, how memory is kept, maps with integer keys.
-/
import Derived.Test.YthhimblbnnafkaaGreatEv
import Derived.Below
namespace Go.Ev
open Go Go.RowKit
set_option linter.unusedSimpArgs false
set_option linter.unusedVariables false

/-! ### meeting the words -/
section words
variable {P : Program} {w : World} {p q : Prop}
@[simp] theorem Req_true : Req True p ↔ p := by simp [Req]
@[simp] theorem Req_rfl {α : Type} {a : α} : Req (a = a) p ↔ p := by simp [Req]
theorem Req_iff : Req p q ↔ p ∧ q := Iff.rfl
@[simp] theorem Ret_nil : Ret [] p ↔ p := by simp [Ret]
@[simp] theorem Cb_true : Cb true p q ↔ p := Iff.rfl
@[simp] theorem Cb_false : Cb false p q ↔ q := Iff.rfl
theorem Cb_iff {b : Bool} : Cb b p q ↔ (b = true → p) ∧ (b = false → q) := by cases b <;> simp
theorem Cb_of {b : Bool} (h1 : b = true → p) (h2 : b = false → q) : Cb b p q := Cb_iff.2 ⟨h1, h2⟩
@[simp] theorem OpI_int {k : IntKind} {n : Int} {K : Int → Prop} : OpI k (.int k n) K ↔ K n := by simp [OpI]
@[simp] theorem OpB_bool {b : Bool} {K : Bool → Prop} : OpB (.bool b) K ↔ K b := by simp [OpB]
@[simp] theorem OpT_str {s : ByteArray} {K : ByteArray → Prop} : OpT (.string s) K ↔ K s := by simp [OpT]
@[simp] theorem OpP_none {K : Nat → Nat → Prop} : OpP (.pointer none) p K ↔ p := by simp [OpP]
@[simp] theorem OpP_some {b o : Nat} {K : Nat → Nat → Prop} : OpP (.pointer (some ⟨b, o, none⟩)) p K ↔ K b o := by
  simp only [OpP, reduceCtorEq, false_and, Value.pointer.injEq, Option.some.injEq, Addr.mk.injEq, and_true, false_or]
  exact ⟨fun ⟨_, _, ⟨rfl, rfl⟩, h⟩ => h, fun h => ⟨_, _, ⟨rfl, rfl⟩, h⟩⟩
@[simp] theorem OpN_some {b o : Nat} {K : Nat → Nat → Prop} : OpN (.pointer (some ⟨b, o, none⟩)) K ↔ K b o := by
  simp only [OpN, Value.pointer.injEq, Option.some.injEq, Addr.mk.injEq, and_true]
  exact ⟨fun ⟨_, _, ⟨rfl, rfl⟩, h⟩ => h, fun h => ⟨_, _, ⟨rfl, rfl⟩, h⟩⟩
@[simp] theorem OpS_slice {a : Option Addr} {l c : Nat} {K : Option Addr → Nat → Nat → Prop} : OpS (.slice a l c) K ↔ K a l c := by
  simp only [OpS, Value.slice.injEq]
  exact ⟨fun ⟨_, _, _, ⟨rfl, rfl, rfl⟩, h⟩ => h, fun h => ⟨_, _, _, ⟨rfl, rfl, rfl⟩, h⟩⟩
@[simp] theorem OpM_map {m : Option Nat} {K : Option Nat → Prop} : OpM (.map m) K ↔ K m := by simp [OpM]
@[simp] theorem OpA_agg {n : Nat} {cs : Array Value} {K : Array Value → Prop} : OpA n (.agg cs) K ↔ cs.size = n ∧ K cs := by
  simp only [OpA, Value.agg.injEq]
  exact ⟨fun ⟨_, h, hs, hK⟩ => by subst h; exact ⟨hs, hK⟩, fun ⟨hs, hK⟩ => ⟨_, rfl, hs, hK⟩⟩
@[simp] theorem T2_mk {a b : Value} {K : Value → Value → Prop} : T2 (.tuple #[a, b]) K ↔ K a b := by
  simp only [T2, Value.tuple.injEq]
  exact ⟨fun ⟨_, _, h, hK⟩ => by cases h; exact hK, fun h => ⟨_, _, rfl, h⟩⟩
@[simp] theorem T3_mk {a b c : Value} {K : Value → Value → Value → Prop} : T3 (.tuple #[a, b, c]) K ↔ K a b c := by
  simp only [T3, Value.tuple.injEq]
  exact ⟨fun ⟨_, _, _, h, hK⟩ => by cases h; exact hK, fun h => ⟨_, _, _, rfl, h⟩⟩
@[simp] theorem T4_mk {a b c d : Value} {K : Value → Value → Value → Value → Prop} : T4 (.tuple #[a, b, c, d]) K ↔ K a b c d := by
  simp only [T4, Value.tuple.injEq]
  exact ⟨fun ⟨_, _, _, _, h, hK⟩ => by cases h; exact hK, fun h => ⟨_, _, _, _, rfl, h⟩⟩
@[simp] theorem Drw_iff {K : World → Prop} : Drw w K ↔ ∀ d, K (w.dr d) := Iff.rfl
@[simp] theorem Dr1_iff {K : World → Prop} : Dr1 w K ↔ ∀ d, w.drawn ≤ d → K (w.dr d) := Iff.rfl
theorem Alc_iff {t : TypeId} {cs : Array Value} {K : Nat → World → Prop} : Alc t cs w K ↔ K w.heap.size (w.alloc (.cells cs t)) := Iff.rfl
@[simp] theorem LdV_at {b o : Nat} {K : Value → Prop} : LdV b o (At w) K ↔ ∃ v, w.cell? ⟨b, o, none⟩ = some v ∧ K v :=
  ⟨fun ⟨v, h, hK⟩ => ⟨v, h w ⟨w.drawn, rfl⟩, hK⟩, fun ⟨v, h, hK⟩ => ⟨v, fun _ ⟨d, hd⟩ => by subst hd; exact h, hK⟩⟩
end words

/-! ### memory -/
@[simp] theorem heap_dr' (w : World) (d : Nat) : (w.dr d).heap = w.heap := rfl
@[simp] theorem os_dr (w : World) (d : Nat) : (w.dr d).os = w.os := rfl
@[simp] theorem tape_dr (w : World) (d : Nat) : (w.dr d).tape = w.tape := rfl
@[simp] theorem output_dr (w : World) (d : Nat) : (w.dr d).output = w.output := rfl

/-- the world with another object in block b -/
def _root_.Go.World.upd (w : World) (b : Nat) (x : Obj) : World := { w with heap := w.heap.setIfInBounds b x }

theorem cell_of {w : World} {b o : Nat} {c : Array Value} {t : TypeId} {f : Nat × Nat} (h : w.heap[b]? = some (.cells c t f)) : w.cell? ⟨b, o, none⟩ = c[o]? := by
  simp [World.cell?, h]
theorem frozen_of {w : World} {b o : Nat} {c : Array Value} {t : TypeId} (h : w.heap[b]? = some (.cells c t (0, 0))) : w.frozen? ⟨b, o, none⟩ = false := by
  simp [World.frozen?, h]
theorem setCell_upd {w : World} {b o : Nat} {c : Array Value} {t : TypeId} {f : Nat × Nat} (h : w.heap[b]? = some (.cells c t f)) (v : Value) :
    w.setCell ⟨b, o, none⟩ v = w.upd b (.cells (c.setIfInBounds o v) t f) := by
  unfold World.setCell World.upd
  congr 1
  apply Array.ext_getElem?
  intro i
  rw [Array.getElem?_modify, Array.getElem?_setIfInBounds]
  by_cases hi : b = i
  · subst hi
    have hlt := (Array.getElem?_eq_some_iff.1 h).1
    rw [if_pos rfl, h, if_pos rfl]
    simp [hlt]
  · simp [hi]
theorem putRow_upd {w : World} {b o : Nat} {c : Array Value} {t : TypeId} {f : Nat × Nat} (h : w.heap[b]? = some (.cells c t f)) (cs : Array Value) :
    w.putRow b o cs = w.upd b (.cells (spl c o cs) t f) := by
  unfold World.putRow World.upd
  congr 1
  apply Array.ext_getElem?
  intro i
  rw [Array.getElem?_modify, Array.getElem?_setIfInBounds]
  by_cases hi : b = i
  · subst hi
    have hlt := (Array.getElem?_eq_some_iff.1 h).1
    rw [if_pos rfl, h, if_pos rfl]
    simp [hlt]
  · simp [hi]

/-- b holds x -/
def Has (w : World) (b : Nat) (x : Obj) : Prop := w.heap[b]? = some x
theorem Has.lt {w : World} {b : Nat} {x : Obj} (h : Has w b x) : b < w.heap.size := (Array.getElem?_eq_some_iff.1 h).1
theorem Has.dr {w : World} {b : Nat} {x : Obj} (h : Has w b x) (d : Nat) : Has (w.dr d) b x := h
theorem Has.upd_same {w : World} {b : Nat} {x : Obj} (h : Has w b x) (y : Obj) : Has (w.upd b y) b y := by
  unfold Has World.upd
  simp [h.lt]
theorem Has.upd {w : World} {b b' : Nat} {x y : Obj} (h : Has w b x) (hne : b ≠ b') : Has (w.upd b' y) b x := by
  unfold Has World.upd
  rw [Array.getElem?_setIfInBounds_ne (Ne.symm hne)]
  exact h
theorem Has.alloc {w : World} {b : Nat} {x y : Obj} (h : Has w b x) : Has (w.alloc y) b x := by
  unfold Has World.alloc
  rw [Array.getElem?_push, if_neg (by have := h.lt; omega)]
  exact h
theorem Has.new (w : World) (x : Obj) : Has (w.alloc x) w.heap.size x := by
  unfold Has World.alloc
  simp
theorem Has.ne_new {w : World} {b : Nat} {x : Obj} (h : Has w b x) : b ≠ w.heap.size := by have := h.lt; omega
theorem Has.inj {w : World} {b : Nat} {x y : Obj} (h : Has w b x) (h' : Has w b y) : x = y := Option.some.inj (h.symm.trans h')
theorem Has.ne {w : World} {b b' : Nat} {x y : Obj} (h : Has w b x) (h' : Has w b' y) (hne : x ≠ y) : b ≠ b' := fun e => by subst e; exact hne (h.inj h')
@[simp] theorem size_upd (w : World) (b : Nat) (x : Obj) : (w.upd b x).heap.size = w.heap.size := by simp [World.upd]

/-- w' keeps the blocks of w that are not in S, and the streams -/
structure Keep (S : Nat → Prop) (w w' : World) : Prop where
  os : w'.os = w.os
  tape : w'.tape = w.tape
  output : w'.output = w.output
  size : w.heap.size ≤ w'.heap.size
  block : ∀ k, k < w.heap.size → ¬ S k → w'.heap[k]? = w.heap[k]?
theorem Keep.refl (S : Nat → Prop) (w : World) : Keep S w w := ⟨rfl, rfl, rfl, Nat.le_refl _, fun _ _ _ => rfl⟩
theorem Keep.trans {S : Nat → Prop} {a b c : World} (h : Keep S a b) (k : Keep S b c) : Keep S a c :=
  ⟨k.os.trans h.os, k.tape.trans h.tape, k.output.trans h.output, Nat.le_trans h.size k.size, fun i hi hS => (k.block i (by have := h.size; omega) hS).trans (h.block i hi hS)⟩
theorem Keep.mono {S S' : Nat → Prop} {a b : World} (h : Keep S a b) (hs : ∀ k, S k → S' k) : Keep S' a b :=
  ⟨h.os, h.tape, h.output, h.size, fun k hk hS => h.block k hk fun h => hS (hs k h)⟩
/-- the second step may also touch what was new behind the first one -/
theorem Keep.trans' {S S' : Nat → Prop} {a b c : World} (h : Keep S a b) (k : Keep S' b c) (hs : ∀ k, k < a.heap.size → S' k → S k) : Keep S a c :=
  ⟨k.os.trans h.os, k.tape.trans h.tape, k.output.trans h.output, Nat.le_trans h.size k.size,
    fun i hi hS => (k.block i (by have := h.size; omega) fun h' => hS (hs i hi h')).trans (h.block i hi hS)⟩
theorem Keep.dr {S : Nat → Prop} {a b : World} (h : Keep S a b) (d : Nat) : Keep S a (b.dr d) := ⟨h.os, h.tape, h.output, h.size, h.block⟩
theorem Keep.alloc {S : Nat → Prop} {a b : World} (h : Keep S a b) (o : Obj) : Keep S a (b.alloc o) :=
  h.trans ⟨rfl, rfl, rfl, by simp, fun k hk _ => by unfold World.alloc; rw [Array.getElem?_push, if_neg (by omega)]⟩
theorem Keep.upd {S : Nat → Prop} {a b : World} (h : Keep S a b) {k : Nat} (hk : k < a.heap.size → S k) (o : Obj) : Keep S a (b.upd k o) :=
  h.trans' (S' := fun i => i = k) ⟨rfl, rfl, rfl, by simp, fun i _ hS => by unfold World.upd; rw [Array.getElem?_setIfInBounds_ne (fun e => hS e.symm)]⟩ (fun i hi e => by subst e; exact hk hi)
theorem Keep.one (w : World) (b : Nat) (o : Obj) : Keep (fun k => k = b) w (w.upd b o) := (Keep.refl (fun k => k = b) w).upd (fun _ => rfl) o
theorem Keep.new (S : Nat → Prop) (w : World) (o : Obj) : Keep S w (w.alloc o) := (Keep.refl S w).alloc o
theorem Keep.drew (S : Nat → Prop) (w : World) (d : Nat) : Keep S w (w.dr d) := (Keep.refl S w).dr d
theorem Keep.has {S : Nat → Prop} {a b : World} (h : Keep S a b) {k : Nat} {x : Obj} (hx : Has a k x) (hS : ¬ S k) : Has b k x := (h.block k hx.lt hS).trans hx
theorem Keep.below {a b : World} (h : Keep (fun _ => False) a b) : Below a.heap.size a b := ⟨h.os, h.tape, h.output, h.size, fun k hk => h.block k hk (fun h => h)⟩
theorem Keep.of_below {a b : World} (S : Nat → Prop) (h : Below a.heap.size a b) : Keep S a b := ⟨h.os, h.tape, h.output, h.size, fun k hk _ => h.block k hk⟩

/-! ### stores and loads at a block that is known -/
theorem StV_of {w : World} {b o : Nat} {c : Array Value} {t : TypeId} {v : Value} {K : World → Prop} (h : Has w b (.cells c t (0, 0))) (ho : o < c.size) (h1 : oneV v = true)
    (hK : K (w.upd b (.cells (c.setIfInBounds o v) t (0, 0)))) : StV b o v w K :=
  ⟨h1, ⟨c[o], by rw [cell_of h]; simp [ho]⟩, frozen_of h, by rw [setCell_upd h]; exact hK⟩
theorem StA_of {w : World} {n b o : Nat} {c cs : Array Value} {t : TypeId} {K : World → Prop} (h : Has w b (.cells c t (0, 0))) (hs : cs.size = n) (ho : o + n ≤ c.size) (h1 : ∀ v ∈ cs.toList, oneV v = true)
    (hK : K (w.upd b (.cells (spl c o cs) t (0, 0)))) : StA n b o cs w K :=
  ⟨hs, h1, ⟨c, t, h, ho⟩, by rw [putRow_upd h]; exact hK⟩
theorem LdV_of {C : World → Prop} {b o : Nat} {v : Value} {K : Value → Prop} (h : ∀ w, C w → ∃ c t f, Has w b (.cells c t f) ∧ c[o]? = some v) (hK : K v) : LdV b o C K :=
  ⟨v, fun w hw => by obtain ⟨c, t, f, h, hv⟩ := h w hw; rw [cell_of h, hv], hK⟩
theorem LdA_of {C : World → Prop} {n b o : Nat} {cs : Array Value} {K : Array Value → Prop} (hn : cs.size = n) (h : ∀ w, C w → ∃ c t f, Has w b (.cells c t f) ∧ o + n ≤ c.size ∧ c.extract o (o + n) = cs) (hK : K cs) : LdA n b o C K :=
  ⟨cs, hn, fun w hw i hi => by
    obtain ⟨c, t, f, h, hle, he⟩ := h w hw
    rw [cell_of h, ← he, Array.getElem?_extract]
    simp [show i < min (o + n) c.size - o by omega], hK⟩
theorem LdV_has {w : World} {b o : Nat} {c : Array Value} {t : TypeId} {f : Nat × Nat} {v : Value} {K : Value → Prop} (h : Has w b (.cells c t f)) (hv : c[o]? = some v) (hK : K v) : LdV b o (At w) K :=
  LdV_of (fun w' ⟨d, hd⟩ => ⟨c, t, f, by subst hd; exact h, hv⟩) hK
theorem LdA_has {w : World} {n b o : Nat} {c : Array Value} {t : TypeId} {f : Nat × Nat} {cs : Array Value} {K : Array Value → Prop} (h : Has w b (.cells c t f)) (hle : o + n ≤ c.size) (he : c.extract o (o + n) = cs) (hK : K cs) :
    LdA n b o (At w) K :=
  LdA_of (by rw [← he]; simp; omega) (fun w' ⟨d, hd⟩ => ⟨c, t, f, by subst hd; exact h, hle, he⟩) hK
/-- a whole block of n cells -/
theorem LdA_all {w : World} {n b : Nat} {c : Array Value} {t : TypeId} {f : Nat × Nat} {K : Array Value → Prop} (h : Has w b (.cells c t f)) (hn : c.size = n) (hK : K c) : LdA n b 0 (At w) K :=
  LdA_has h (by omega) (by rw [← hn]; simp) hK
theorem spl_all (c cs : Array Value) (h : c.size = cs.size) : spl c 0 cs = cs := by
  unfold spl
  have : c.toList.length ≤ 0 + cs.size := by simp; omega
  rw [List.drop_eq_nil_of_le this]
  simp
/-- a store over a whole block -/
theorem StA_all {w : World} {n b : Nat} {c cs : Array Value} {t : TypeId} {K : World → Prop} (h : Has w b (.cells c t (0, 0))) (hs : cs.size = n) (hn : c.size = n) (h1 : ∀ v ∈ cs.toList, oneV v = true)
    (hK : K (w.upd b (.cells cs t (0, 0)))) : StA n b 0 cs w K :=
  StA_of h hs (by omega) h1 (by rw [spl_all _ _ (by omega)]; exact hK)
theorem DoQ_of {P : Program} {s : Sem Value} {w : World} {v : Value} {K : Value → Prop} (h : ∀ d, s.run P (w.dr d) = .ok v (w.dr d)) (hK : K v) : DoQ P s (At w) K :=
  ⟨v, fun _ ⟨d, hd⟩ => by subst hd; exact h d, hK⟩
theorem CallV.mono {P : Program} {f : FuncId} {args : Array Value} {w : World} {K K' : Value → World → Prop} (h : CallV P f args w K) (hk : ∀ v w', K v w' → K' v w') : CallV P f args w K' :=
  Calls.mono h fun _ _ ⟨v, hv, hK⟩ => ⟨v, hv, hk _ _ hK⟩
theorem LoopC_of {σ : Type} {body : (Nat → SV) → σ → World → (σ → World → Prop) → Prop} {s : σ} {w : World} (I : σ → World → Prop) (μ : σ → World → Nat) (h0 : I s w)
    (h : ∀ j s w, I s w → body j s w fun s' w' => ∃ m, m < μ s w ∧ (I s' w' ∧ μ s' w' = m)) : LoopC body s w :=
  ⟨fun m s w => I s w ∧ μ s w = m, ⟨_, h0, rfl⟩, fun j m s w ⟨hI, hm⟩ => by subst hm; exact h j s w hI⟩

/-! ### rows given by a function -/
/-- n cells, cell i holding g i -/
def ofF (n : Nat) (g : Nat → Value) : Array Value := ((List.range n).map g).toArray
@[simp] theorem size_ofF (n : Nat) (g : Nat → Value) : (ofF n g).size = n := by simp [ofF]
theorem get_ofF {n i : Nat} (g : Nat → Value) (h : i < n) : (ofF n g)[i]? = some (g i) := by simp [ofF, h]
theorem set_ofF (n k : Nat) (g : Nat → Value) (v : Value) : (ofF n g).setIfInBounds k v = ofF n fun i => if i = k then v else g i := by
  have h1 : ∀ (g : Nat → Value) (i : Nat), ¬ i < n → (ofF n g)[i]? = none := fun g i hi => by simp [ofF]; omega
  apply Array.ext_getElem?
  intro i
  rw [Array.getElem?_setIfInBounds]
  by_cases hi : i < n
  · rw [get_ofF _ hi]
    by_cases e : k = i
    · subst e; rw [if_pos rfl, if_pos (by simpa using hi), get_ofF _ hi, if_pos rfl]
    · rw [if_neg e, get_ofF _ hi, if_neg (fun h => e h.symm)]
  · rw [h1 _ _ hi, h1 _ _ hi]
    by_cases e : k = i
    · subst e; rw [if_pos rfl, if_neg (by simpa using hi)]
    · rw [if_neg e]
theorem ofF_congr {n : Nat} {g g' : Nat → Value} (h : ∀ i, i < n → g i = g' i) : ofF n g = ofF n g' := by
  unfold ofF
  congr 1
  exact List.map_congr_left fun i hi => h i (List.mem_range.1 hi)
theorem IdxS_own {b l : Nat} {i : Int} {K : Nat → Nat → Prop} (h0 : 0 ≤ i) (h1 : i < l) (hK : K b i.toNat) : IdxS (some ⟨b, 0, none⟩) l i 1 K :=
  ⟨b, 0, rfl, h0, h1, by simpa using hK⟩

theorem ld_own {w : World} {b n : Nat} {g : Nat → Value} {t : TypeId} {f : Nat × Nat} {i : Int} {K : Value → Prop} (h : Has w b (.cells (ofF n g) t f)) (h0 : 0 ≤ i) (h1 : i < n) :
    (IdxS (some ⟨b, 0, none⟩) n i 1 fun b o => LdV b o (At w) K) ↔ K (g i.toNat) := by
  have hc : w.cell? ⟨b, 0 + i.toNat * 1, none⟩ = some (g i.toNat) := by rw [cell_of h, Nat.zero_add, Nat.mul_one, get_ofF _ (by omega)]
  constructor
  · rintro ⟨b', o', hp, _, _, hK⟩
    cases hp
    obtain ⟨v, hv, hK⟩ := LdV_at.1 hK
    rw [hc] at hv
    cases hv
    exact hK
  · exact fun hK => ⟨b, 0, rfl, h0, h1, LdV_at.2 ⟨_, hc, hK⟩⟩
theorem st_own {w : World} {b n : Nat} {g : Nat → Value} {t : TypeId} {i : Int} {v : Value} {K : World → Prop} (h : Has w b (.cells (ofF n g) t (0, 0))) (h0 : 0 ≤ i) (h1 : i < n) :
    (IdxS (some ⟨b, 0, none⟩) n i 1 fun b o => StV b o v w K) ↔ (oneV v = true ∧ K (w.upd b (.cells (ofF n fun j => if j = i.toNat then v else g j) t (0, 0)))) := by
  constructor
  · rintro ⟨b', o', hp, _, _, h1v, _, _, hK⟩
    cases hp
    rw [setCell_upd h, Nat.zero_add, Nat.mul_one, set_ofF] at hK
    exact ⟨h1v, hK⟩
  · rintro ⟨h1v, hK⟩
    refine ⟨b, 0, rfl, h0, h1, StV_of h (by simp; omega) h1v ?_⟩
    rw [Nat.zero_add, Nat.mul_one, set_ofF]
    exact hK

/-! ### numbers that fit -/
theorem wrapI {x : Int} (h1 : -9223372036854775808 ≤ x) (h2 : x ≤ 9223372036854775807) : IntKind.wrap .i64 x = x := by rw [IntKind.wrap_i64]; omega
theorem wrapN {k : IntKind} {x : Int} (h1 : k.min ≤ x) (h2 : x ≤ k.max) : k.wrap x = x := by
  cases k <;> simp [IntKind.wrap, IntKind.min, IntKind.max, IntKind.signed, IntKind.bits] at * <;> omega
theorem wrapU64 {x : Int} (h1 : 0 ≤ x) (h2 : x ≤ 18446744073709551615) : IntKind.wrap .u64 x = x := wrapN h1 h2
theorem wrapU8 {x : Int} (h1 : 0 ≤ x) (h2 : x ≤ 255) : IntKind.wrap .u8 x = x := wrapN h1 h2
theorem wrapU32 {x : Int} (h1 : 0 ≤ x) (h2 : x ≤ 4294967295) : IntKind.wrap .u32 x = x := wrapN h1 h2

/-! ### loads and stores as equations, for simp -/
theorem LdV_iff {w : World} {b o : Nat} {c : Array Value} {t : TypeId} {f : Nat × Nat} {K : Value → Prop} (h : Has w b (.cells c t f)) : LdV b o (At w) K ↔ ∃ v, c[o]? = some v ∧ K v := by
  rw [LdV_at]; simp only [cell_of h]
theorem StV_iff {w : World} {b o : Nat} {c : Array Value} {t : TypeId} {v : Value} {K : World → Prop} (h : Has w b (.cells c t (0, 0))) :
    StV b o v w K ↔ oneV v = true ∧ o < c.size ∧ K (w.upd b (.cells (c.setIfInBounds o v) t (0, 0))) := by
  constructor
  · rintro ⟨h1, ⟨u, hu⟩, _, hK⟩
    rw [cell_of h] at hu
    rw [setCell_upd h] at hK
    exact ⟨h1, (Array.getElem?_eq_some_iff.1 hu).1, hK⟩
  · exact fun ⟨h1, h2, hK⟩ => StV_of h h2 h1 hK
theorem upd_upd (w : World) (b : Nat) (x y : Obj) : (w.upd b x).upd b y = w.upd b y := by
  unfold World.upd
  simp only
  congr 1
  apply Array.ext_getElem?
  intro i
  simp only [Array.getElem?_setIfInBounds, Array.size_setIfInBounds]
  split <;> rfl
theorem StV_upd {w : World} {b o : Nat} {c : Array Value} {t : TypeId} {v : Value} {K : World → Prop} (h : b < w.heap.size) :
    StV b o v (w.upd b (.cells c t (0, 0))) K ↔ oneV v = true ∧ o < c.size ∧ K (w.upd b (.cells (c.setIfInBounds o v) t (0, 0))) := by
  have hb : Has (w.upd b (.cells c t (0, 0))) b (.cells c t (0, 0)) := by
    unfold Has World.upd; simp [h]
  rw [StV_iff hb, upd_upd]
theorem LdV_upd {w : World} {b o : Nat} {c : Array Value} {t : TypeId} {f : Nat × Nat} {K : Value → Prop} (h : b < w.heap.size) : LdV b o (At (w.upd b (.cells c t f))) K ↔ ∃ v, c[o]? = some v ∧ K v := by
  have hb : Has (w.upd b (.cells c t f)) b (.cells c t f) := by
    unfold Has World.upd; simp [h]
  exact LdV_iff hb
end Go.Ev
