/-
  A SOUND EVALUATOR OVER THE MODEL'S CODE: 'den' reads a function's code as a predicate over memory operations and calls; 'den' implies the kit's 'Code.wp'. No program is named here.
-/
import Derived.Tactics
import Derived.StillTail
import Derived.Deep.Quiet
import Derived.OrdersHeld
namespace Go.Ev
open Go
set_option linter.unusedSimpArgs false
set_option linter.unusedVariables false

/-! ### the words of a printed function -/

/-- the world after some draws -/
def _root_.Go.World.dr (w : World) (d : Nat) : World := { w with drawn := d }

/-- memory row: cells of block b from o on are written -/
def spl (c : Array Value) (o : Nat) (cs : Array Value) : Array Value := (c.toList.take o ++ cs.toList ++ c.toList.drop (o + cs.size)).toArray
def _root_.Go.World.putRow (w : World) (b o : Nat) (cs : Array Value) : World :=
  { w with heap := w.heap.modify b fun
      | .cells c t f => .cells (spl c o cs) t f
      | x => x }

def oneV : Value → Bool
  | .agg _ | .tuple _ => false
  | _ => true

def Cb (b : Bool) (p q : Prop) : Prop := match b with
  | true => p
  | false => q
def Req (p q : Prop) : Prop := p ∧ q
def OpI (k : IntKind) (v : Value) (K : Int → Prop) : Prop := ∃ n, v = .int k n ∧ K n
def OpB (v : Value) (K : Bool → Prop) : Prop := ∃ b, v = .bool b ∧ K b
def OpT (v : Value) (K : ByteArray → Prop) : Prop := ∃ s, v = .string s ∧ K s
def OpP (v : Value) (p : Prop) (K : Nat → Nat → Prop) : Prop := (v = .pointer none ∧ p) ∨ ∃ b o, v = .pointer (some ⟨b, o, none⟩) ∧ K b o
def OpN (v : Value) (K : Nat → Nat → Prop) : Prop := ∃ b o, v = .pointer (some ⟨b, o, none⟩) ∧ K b o
def OpS (v : Value) (K : Option Addr → Nat → Nat → Prop) : Prop := ∃ p l c, v = .slice p l c ∧ K p l c
def OpM (v : Value) (K : Option Nat → Prop) : Prop := ∃ m, v = .map m ∧ K m
def OpA (n : Nat) (v : Value) (K : Array Value → Prop) : Prop := ∃ cs, v = .agg cs ∧ cs.size = n ∧ K cs
def T2 (v : Value) (K : Value → Value → Prop) : Prop := ∃ a b, v = .tuple #[a, b] ∧ K a b
def T3 (v : Value) (K : Value → Value → Value → Prop) : Prop := ∃ a b c, v = .tuple #[a, b, c] ∧ K a b c
def T4 (v : Value) (K : Value → Value → Value → Value → Prop) : Prop := ∃ a b c d, v = .tuple #[a, b, c, d] ∧ K a b c d
/-- the worlds that differ from w in the count of draws alone -/
def At (w : World) : World → Prop := fun w' => ∃ d, w' = w.dr d
def LdV (b o : Nat) (C : World → Prop) (K : Value → Prop) : Prop := ∃ v, (∀ w, C w → w.cell? ⟨b, o, none⟩ = some v) ∧ K v
def LdA (n b o : Nat) (C : World → Prop) (K : Array Value → Prop) : Prop := ∃ cs : Array Value, cs.size = n ∧ (∀ w, C w → ∀ i, i < n → w.cell? ⟨b, o + i, none⟩ = cs[i]?) ∧ K cs
def StV (b o : Nat) (v : Value) (w : World) (K : World → Prop) : Prop :=
  oneV v = true ∧ (∃ u, w.cell? ⟨b, o, none⟩ = some u) ∧ w.frozen? ⟨b, o, none⟩ = false ∧ K (w.setCell ⟨b, o, none⟩ v)
def StA (n b o : Nat) (cs : Array Value) (w : World) (K : World → Prop) : Prop :=
  cs.size = n ∧ (∀ v ∈ cs.toList, oneV v = true) ∧ (∃ c t, w.heap[b]? = some (.cells c t (0, 0)) ∧ o + n ≤ c.size) ∧ K (w.putRow b o cs)
def Alc (t : TypeId) (cs : Array Value) (w : World) (K : Nat → World → Prop) : Prop := K w.heap.size (w.alloc (.cells cs t))
def IdxS (p : Option Addr) (l : Nat) (i : Int) (sz : Nat) (K : Nat → Nat → Prop) : Prop :=
  ∃ b o, p = some ⟨b, o, none⟩ ∧ 0 ≤ i ∧ i < l ∧ K b (o + i.toNat * sz)
def Fld (cs : Array Value) (i : Nat) (K : Value → Prop) : Prop := ∃ v, cs[i]? = some v ∧ K v
/-- an operation that leaves the world alone, however many draws there have been -/
def DoQ (P : Program) (s : Sem Value) (C : World → Prop) (K : Value → Prop) : Prop := ∃ v, (∀ w, C w → s.run P w = .ok v w) ∧ K v
def DoV (P : Program) (s : Sem Value) (w : World) (K : Value → World → Prop) : Prop := ∃ v w', s.run P w = .ok v w' ∧ K v w'
def DoU (P : Program) (s : Sem Unit) (w : World) (K : World → Prop) : Prop := ∃ w', s.run P w = .ok () w' ∧ K w'
def DoN (P : Program) (s : Sem Next) (w : World) (K : Value → World → Prop) : Prop := ∃ v w', s.run P w = .ok (.value v) w' ∧ K v w'
def CallV (P : Program) (f : FuncId) (args : Array Value) (w : World) (K : Value → World → Prop) : Prop :=
  Calls P f args w fun e w' => ∃ v, e = .returned v ∧ K v w'
/-- a call that changes nothing but the count of draws -/
def CallQ (P : Program) (f : FuncId) (args : Array Value) (C : World → Prop) (K : Value → Prop) : Prop :=
  ∃ v, (∀ w, C w → Calls P f args w fun e w' => e = .returned v ∧ C w') ∧ K v
/-- a call that changes nothing at all -/
def CallS (P : Program) (f : FuncId) (args : Array Value) (w : World) (K : Value → Prop) : Prop :=
  ∃ v, (Calls P f args w fun e w' => e = .returned v ∧ w' = w) ∧ K v
/-- what the region's loads lean on holds still -/
def Hld (p q : Prop) : Prop := p ∧ q
/-- a region whose order is open: S is what its loads lean on -/
def HeldR (w : World) (K : (World → Prop) → World → Prop) : Prop := ∀ d, ∃ S : World → Prop, S (w.dr d) ∧ K S (w.dr d)
/-- ... with its draws counted -/
def HeldD (w : World) (K : (World → Prop) → World → Prop) : Prop := ∀ d, w.drawn ≤ d → ∃ S : World → Prop, S (w.dr d) ∧ K S (w.dr d)
def Drw (w : World) (K : World → Prop) : Prop := ∀ d, K (w.dr d)
/-- so many draws more -/
def Dr1 (w : World) (K : World → Prop) : Prop := ∀ d, w.drawn ≤ d → K (w.dr d)
/-- what a slot holds: a value; or, behind an operation that was guarded by a bool g, the value if g is as wanted -/
inductive SV where
  | val (v : Value)
  | gd (g want : Bool) (v : Value)
def SV.v : SV → Value
  | .val v => v
  | .gd g w v => cond (g == w) v undef
def LoopC {σ : Type} (body : (Nat → SV) → σ → World → (σ → World → Prop) → Prop) (s : σ) (w : World) : Prop :=
  ∃ I : Nat → σ → World → Prop, (∃ m, I m s w) ∧ ∀ j m s w, I m s w → body j s w fun s' w' => ∃ m', m' < m ∧ I m' s' w'
def JoinC {σ : Type} (body : (σ → World → Prop) → Prop) (rest : (Nat → SV) → σ → World → Prop) : Prop :=
  ∃ J : σ → World → Prop, body J ∧ ∀ j s w, J s w → rest j s w

/-! ### kinds -/
inductive Kd where
  | int (k : IntKind) | bool | str | ptr | slice | map | agg (n : Nat) | tup (l : List Kd) | any | bad

def kd1 (P : Program) (t : TypeId) : Kd :=
  match P.underlying t with
  | some (.int k) => .int k
  | some .bool => .bool
  | some .string => .str
  | some (.pointer _) => .ptr
  | some (.slice _) => .slice
  | some (.map _ _) => .map
  | some (.struct _) => .agg (P.cellsOf t)
  | some (.array _ _) => .agg (P.cellsOf t)
  | some _ => .any
  | none => .bad
def kd (P : Program) (t : TypeId) : Kd :=
  match P.underlying t with
  | some (.tuple ts) => .tup (ts.toList.map (kd1 P))
  | _ => kd1 P t

/-- a value of a kind, laid open; 'nl': may a pointer be nil? -/
def opn1 (nl : Bool) : Kd → Value → (Value → Prop) → Prop
  | .int k, v, K => OpI k v fun n => K (.int k n)
  | .bool, v, K => OpB v fun b => K (.bool b)
  | .str, v, K => OpT v fun s => K (.string s)
  | .ptr, v, K => match nl with
    | true => OpP v (K (.pointer none)) fun b o => K (.pointer (some ⟨b, o, none⟩))
    | false => OpN v fun b o => K (.pointer (some ⟨b, o, none⟩))
  | .slice, v, K => OpS v fun p l c => K (.slice p l c)
  | .map, v, K => OpM v fun m => K (.map m)
  | .agg n, v, K => OpA n v fun cs => K (.agg cs)
  | .tup _, v, K => K v
  | .any, v, K => K v
  | .bad, _, _ => False
def opn (nl : Bool) : Kd → Value → (Value → Prop) → Prop
  | .tup [a, b], v, K => T2 v fun x y => opn1 nl a x fun x => opn1 nl b y fun y => K (.tuple #[x, y])
  | .tup [a, b, c], v, K => T3 v fun x y z => opn1 nl a x fun x => opn1 nl b y fun y => opn1 nl c z fun z => K (.tuple #[x, y, z])
  | .tup [a, b, c, d], v, K => T4 v fun x y z u => opn1 nl a x fun x => opn1 nl b y fun y => opn1 nl c z fun z => opn1 nl d u fun u => K (.tuple #[x, y, z, u])
  | .tup _, v, K => K v
  | k, v, K => opn1 nl k v K

theorem opn1_of {nl : Bool} {k : Kd} {v : Value} {K : Value → Prop} (h : opn1 nl k v K) : K v := by
  cases k with
  | int k => obtain ⟨n, rfl, h⟩ := h; exact h
  | bool => obtain ⟨b, rfl, h⟩ := h; exact h
  | str => obtain ⟨s, rfl, h⟩ := h; exact h
  | ptr =>
    cases nl with
    | true => rcases h with ⟨rfl, h⟩ | ⟨b, o, rfl, h⟩ <;> exact h
    | false => obtain ⟨b, o, rfl, h⟩ := h; exact h
  | slice => obtain ⟨p, l, c, rfl, h⟩ := h; exact h
  | map => obtain ⟨m, rfl, h⟩ := h; exact h
  | agg n => obtain ⟨cs, rfl, _, h⟩ := h; exact h
  | tup l => exact h
  | any => exact h
  | bad => exact h.elim

theorem opn_of {nl : Bool} {k : Kd} {v : Value} {K : Value → Prop} (h : opn nl k v K) : K v := by
  unfold opn at h
  split at h
  · obtain ⟨a, b, rfl, h⟩ := h
    have h := opn1_of h
    exact opn1_of (K := fun y => K (.tuple #[a, y])) h
  · obtain ⟨a, b, c, rfl, h⟩ := h
    have h := opn1_of h
    have h := opn1_of (K := fun y => opn1 nl _ _ fun z => K (.tuple #[a, y, z])) h
    exact opn1_of (K := fun y => K (.tuple #[a, b, y])) h
  · obtain ⟨a, b, c, d, rfl, h⟩ := h
    have h := opn1_of h
    have h := opn1_of (K := fun y => opn1 nl _ _ fun z => opn1 nl _ _ fun u => K (.tuple #[a, y, z, u])) h
    have h := opn1_of (K := fun y => opn1 nl _ _ fun z => K (.tuple #[a, b, y, z])) h
    exact opn1_of (K := fun y => K (.tuple #[a, b, c, y])) h
  · exact h
  · exact opn1_of h

/-! ### the frame -/
structure Env where
  t : Nat → SV
  d : List Deferred

def Env.puts (e : Env) (d : Option Tmp) (v : SV) : Env := match d with
  | some d => ⟨fun i => cond (Nat.beq i d) v (e.t i), e.d⟩
  | none => e
def Env.put (e : Env) (d : Option Tmp) (v : Value) : Env := e.puts d (.val v)
def Env.sv (e : Env) : Operand → SV
  | .tmp t => e.t t
  | .const v => .val v
  | .global g => .val (.pointer (some ⟨g, 0, none⟩))
  | .func f => .val (.func (.func f) #[] #[])
def Env.ev (e : Env) : Operand → Value
  | .tmp t => (e.t t).v
  | .const v => v
  | .global g => .pointer (some ⟨g, 0, none⟩)
  | .func f => .func (.func f) #[] #[]

/-- the machine's frame a is the frame e, n slots -/
structure Rel (n : Nat) (e : Env) (a : Act) : Prop where
  size : a.tmps.size = n
  t : ∀ i, a.tmps.getD i undef = (e.t i).v
  d : a.defers = e.d

theorem Rel.ev {n : Nat} {e : Env} {a : Act} (h : Rel n e a) (x : Operand) : a.eval x = e.ev x := by
  cases x <;> simp [Act.eval, Env.ev, h.t]
theorem Rel.evf {n : Nat} {e : Env} {a : Act} (h : Rel n e a) : a.eval = e.ev := funext h.ev

def dstOk (n : Nat) : Option Tmp → Bool
  | none => true
  | some d => Nat.blt d n

theorem Rel.puts {n : Nat} {e : Env} {a : Act} (h : Rel n e a) {d : Option Tmp} (hd : dstOk n d = true) (v : SV) : Rel n (e.puts d v) (a.put d v.v) := by
  cases d with
  | none => exact h
  | some d =>
    have hd' : d < n := by simpa [dstOk, Nat.blt_eq] using hd
    refine ⟨by simp [Act.put, h.size], fun i => ?_, h.d⟩
    have hs := h.size
    by_cases hi : i = d
    · subst hi; simp [Act.put, Env.puts, hs, hd']
    · have hb : Nat.beq i d = false := Bool.eq_false_iff.2 fun h => hi (Nat.eq_of_beq_eq_true h)
      have := h.t i
      simp only [Act.put, Env.puts, hb, cond_false, ← this, Array.getD_eq_getD_getElem?]
      rw [Array.getElem?_setIfInBounds_ne (by omega)]
theorem Rel.put {n : Nat} {e : Env} {a : Act} (h : Rel n e a) {d : Option Tmp} (hd : dstOk n d = true) (v : Value) : Rel n (e.put d v) (a.put d v) := h.puts hd (.val v)

/-! ### what a printed function may be told beforehand -/
structure Ann where
  /-- a loop's variables, by the first region of its body -/
  loops : Nat → List (Tmp × Kd)
  /-- a block's variables, where its ways meet again, by its number -/
  joins : Nat → Option (List (Tmp × Kd))
  /-- an if's variables, where its ways meet again, by the first region of its first branch -/
  conds : Nat → Option (List (Tmp × Kd))
  /-- what a step over a map hands out, by the slot that it writes -/
  ents : Nat → Option (Kd × Kd)
  /-- loads that may give a nil pointer, by the slot that they write -/
  nilable : Nat → Bool
  /-- loads that give a function that is known, by the slot that they write -/
  fns : Nat → Option FuncId
  /-- a region's variables, where its orders meet again, by its number -/
  regs : Nat → Option (List (Tmp × Kd))

def lookL {α : Type} (l : List (Nat × α)) (i : Nat) : Option α := match l with
  | [] => none
  | x :: r => cond (Nat.beq x.1 i) (some x.2) (lookL r i)
def memL (l : List Nat) (i : Nat) : Bool := match l with
  | [] => false
  | x :: r => cond (Nat.beq x i) true (memL r i)
def mkAnn (loops joins conds : List (Nat × List (Tmp × Kd))) (ents : List (Nat × (Kd × Kd))) (nils : List Nat) : Ann :=
  ⟨fun i => (lookL loops i).getD [], lookL joins, lookL conds, lookL ents, memL nils, fun _ => none, fun _ => none⟩
def mkAnnF (loops joins conds : List (Nat × List (Tmp × Kd))) (ents : List (Nat × (Kd × Kd))) (nils : List Nat) (fns : List (Nat × FuncId)) : Ann :=
  ⟨fun i => (lookL loops i).getD [], lookL joins, lookL conds, lookL ents, memL nils, lookL fns, fun _ => none⟩
def mkAnnR (loops joins conds : List (Nat × List (Tmp × Kd))) (ents : List (Nat × (Kd × Kd))) (nils : List Nat) (fns : List (Nat × FuncId)) (regs : List (Nat × List (Tmp × Kd))) : Ann :=
  ⟨fun i => (lookL loops i).getD [], lookL joins, lookL conds, lookL ents, memL nils, lookL fns, lookL regs⟩
def Ann.entK (A : Ann) : Option Tmp → Kd
  | some d => match A.ents d with
    | some (a, b) => .tup [a, b]
    | none => .any
  | none => .any
def zc (P : Program) (t : TypeId) : Array Value := match (P.info? t).bind (·.zero) with
  | some z => z.cells
  | none => #[]

def Ann.nl (A : Ann) : Option Tmp → Bool
  | some d => A.nilable d
  | none => false

/-- may a pointer that a call answers be nil? (no, if the slot stands among the nilable ones with 100000 added) -/
def Ann.callNl (A : Ann) : Option Tmp → Bool
  | some d => !A.nilable (100000 + d)
  | none => true

def Ann.fn (A : Ann) : Option Tmp → Option FuncId
  | some d => A.fns d
  | none => none
/-- a function that is known, with what it has captured -/
def OpG (g : FuncId) (v : Value) (K : Array Value → Prop) : Prop := ∃ ca, v = .func (.func g) #[] ca ∧ K ca
def opnF (g : Option FuncId) (nl : Bool) (k : Kd) (v : Value) (K : Value → Prop) : Prop := match g with
  | some g => match k with
    | .any => OpG g v fun ca => K (.func (.func g) #[] ca)
    | _ => False
  | none => opn1 nl k v K
theorem opnF_of {g : Option FuncId} {nl : Bool} {k : Kd} {v : Value} {K : Value → Prop} (h : opnF g nl k v K) : K v := by
  cases g with
  | none => exact opn1_of h
  | some g =>
    cases k
    case any => obtain ⟨ca, rfl, h⟩ := h; exact h
    all_goals exact h.elim
theorem opnF_bad {g : Option FuncId} {nl : Bool} {v : Value} {K : Value → Prop} (h : opnF g nl .bad v K) : False := by cases g <;> exact h
/-! ### operations that leave the world alone -/
def ibits (op : BinOp) (k : IntKind) (x y : Int) : Int :=
  match op with
  | .and => k.wrap (BitVec.ofInt k.bits x &&& BitVec.ofInt k.bits y).toNat
  | .or => k.wrap (BitVec.ofInt k.bits x ||| BitVec.ofInt k.bits y).toNat
  | .xor => k.wrap (BitVec.ofInt k.bits x ^^^ BitVec.ofInt k.bits y).toNat
  | _ => k.wrap (BitVec.ofInt k.bits x &&& ~~~BitVec.ofInt k.bits y).toNat
def ishl (k : IntKind) (x y : Int) : Int := k.wrap (x * 2 ^ (min y.toNat k.bits))
def ishr (k : IntKind) (x y : Int) : Int := x.fdiv (2 ^ (min y.toNat k.bits))

/-- an equation between aggregates, or whatever the words above do not reckon -/
def EqB (P : Program) (op : BinOp) (t : TypeId) (x y : Operand) (a b : Value) (C : World → Prop) (K : Bool → Prop) : Prop :=
  ∃ r : Bool, (∀ w, C w → (do eqGuard op t x y a b; binOp op t a b : Sem Value).run P w = .ok (.bool r) w) ∧ K r

def denInt (op : BinOp) (k : IntKind) (a b : Int) (K : Value → Prop) : Prop :=
  match op with
  | .add => K (.int k (k.wrap (a + b)))
  | .sub => K (.int k (k.wrap (a - b)))
  | .mul => K (.int k (k.wrap (a * b)))
  | .quo => Req (b ≠ 0) (K (.int k (k.wrap (a.tdiv b))))
  | .rem => Req (b ≠ 0) (K (.int k (a.tmod b)))
  | .and => K (.int k (ibits .and k a b))
  | .or => K (.int k (ibits .or k a b))
  | .xor => K (.int k (ibits .xor k a b))
  | .andNot => K (.int k (ibits .andNot k a b))
  | .eql => K (.bool (a == b))
  | .neq => K (.bool (a != b))
  | .lss => K (.bool (decide (a < b)))
  | .leq => K (.bool (decide (a ≤ b)))
  | .gtr => K (.bool (decide (a > b)))
  | .geq => K (.bool (decide (a ≥ b)))
  | _ => False

def denBin (P : Program) (op : BinOp) (t : TypeId) (x y : Operand) (C : World → Prop) (K : Value → Prop) : Value → Value → Prop
  | .int k a, .int k' b => match op with
    | .shl => Req (0 ≤ b) (K (.int k (ishl k a b)))
    | .shr => Req (0 ≤ b) (K (.int k (ishr k a b)))
    | op => cond (decide (k = k')) (denInt op k a b K) False
  | .pointer none, .pointer none => match op, P.underlying t with
    | .eql, some (.pointer _) => K (.bool true)
    | .neq, some (.pointer _) => K (.bool false)
    | _, _ => False
  | .pointer none, .pointer (some _) => match op, P.underlying t with
    | .eql, some (.pointer _) => K (.bool false)
    | .neq, some (.pointer _) => K (.bool true)
    | _, _ => False
  | .pointer (some _), .pointer none => match op, P.underlying t with
    | .eql, some (.pointer _) => K (.bool false)
    | .neq, some (.pointer _) => K (.bool true)
    | _, _ => False
  | .slice p _ _, .slice none 0 0 => match op, P.underlying t with
    | .eql, some (.slice _) => K (.bool p.isNone)
    | .neq, some (.slice _) => K (.bool (!p.isNone))
    | _, _ => False
  | .bool a, .bool b => match op, P.underlying t with
    | .eql, some .bool => K (.bool (a == b))
    | .neq, some .bool => K (.bool (!(a == b)))
    | _, _ => False
  | a, b => EqB P op t x y a b C fun r => K (.bool r)

theorem run_dr_underlying {P : Program} {t : TypeId} {d : TypeDesc} (h : P.underlying t = some d) (w : World) : (underlying t).run P w = .ok d w := by
  simp [underlying, program, Sem.run, h, bind, Sem.bind, pure]

theorem denInt_of {P : Program} {op : BinOp} {t : TypeId} {k : IntKind} {a b : Int} {K : Value → Prop} (hs : op ≠ .shl) (hr : op ≠ .shr) (h : denInt op k a b K) :
    ∃ v, (∀ w : World, (binOp op t (.int k a) (.int k b)).run P w = .ok v w) ∧ K v := by
  cases op
  case shl => exact absurd rfl hs
  case shr => exact absurd rfl hr
  case quo => obtain ⟨h0, h⟩ := h; exact ⟨_, fun w => by simp [binOp, Op.intDiv, h0, Sem.run_pure], h⟩
  case rem => obtain ⟨h0, h⟩ := h; exact ⟨_, fun w => by simp [binOp, Op.intDiv, h0, Sem.run_pure], h⟩
  case eql => exact ⟨_, fun w => by simp [binOp, Op.intCmp, Sem.run_pure], h⟩
  case neq => exact ⟨_, fun w => by simp [binOp, Op.intCmp, Sem.run_pure], h⟩
  case lss => exact ⟨_, fun w => by simp [binOp, Op.intCmp, Sem.run_pure], h⟩
  case leq => exact ⟨_, fun w => by simp [binOp, Op.intCmp, Sem.run_pure], h⟩
  case gtr => exact ⟨_, fun w => by simp [binOp, Op.intCmp, Sem.run_pure], h⟩
  case geq => exact ⟨_, fun w => by simp [binOp, Op.intCmp, Sem.run_pure], h⟩
  all_goals exact ⟨_, fun w => by simp [binOp, Op.intArith, Op.intBits, ibits, Sem.run_pure], h⟩

theorem cb_of {K : Value → Prop} {c : Bool} (h : Cb c (K (.bool true)) (K (.bool false))) : K (.bool c) := by cases c <;> exact h
theorem cb_not {K : Value → Prop} {c : Bool} (h : Cb c (K (.bool false)) (K (.bool true))) : K (.bool !c) := by cases c <;> exact h

theorem eqGuard_int (op : BinOp) (t : TypeId) (x y : Operand) (k k' : IntKind) (a b : Int) (P : Program) (w : World) : (eqGuard op t x y (.int k a) (.int k' b)).run P w = .ok () w := by
  unfold eqGuard; split <;> simp [Sem.run_pure]
theorem eqGuard_ptr (op : BinOp) (t : TypeId) (x y : Operand) (a b : Option Addr) (P : Program) (w : World) : (eqGuard op t x y (.pointer a) (.pointer b)).run P w = .ok () w := by
  unfold eqGuard; split <;> simp [Sem.run_pure]
theorem eqGuard_slice (op : BinOp) (t : TypeId) (x y : Operand) (a b : Option Addr) (l c m d : Nat) (P : Program) (w : World) : (eqGuard op t x y (.slice a l c) (.slice b m d)).run P w = .ok () w := by
  unfold eqGuard; split <;> simp [Sem.run_pure]

theorem eqGuard_bool (op : BinOp) (t : TypeId) (x y : Operand) (a b : Bool) (P : Program) (w : World) : (eqGuard op t x y (.bool a) (.bool b)).run P w = .ok () w := by
  unfold eqGuard; split <;> simp [Sem.run_pure]
theorem equal_bool {P : Program} {t : TypeId} (ht : P.underlying t = some .bool) (a b : Bool) (w : World) : (Op.equal t (.bool a) (.bool b)).run P w = .ok (a == b) w := by
  unfold Op.equal Op.maxDepth
  rw [Op.equalIn]
  simp [Sem.run_bind, run_dr_underlying ht, Sem.run_pure]
theorem equal_ptr_nil {P : Program} {t e : TypeId} (ht : P.underlying t = some (.pointer e)) (a b : Option Addr) (hab : a = none ∨ b = none) (w : World) :
    (Op.equal t (.pointer a) (.pointer b)).run P w = .ok (a.isNone && b.isNone) w := by
  unfold Op.equal Op.maxDepth
  rw [Op.equalIn]
  rcases hab with rfl | rfl
  · simp [Sem.run_bind, run_dr_underlying ht, Sem.run_pure]
  · cases a <;> simp [Sem.run_bind, run_dr_underlying ht, Sem.run_pure]
theorem equal_slice_nil {P : Program} {t e : TypeId} (ht : P.underlying t = some (.slice e)) (a : Option Addr) (l c : Nat) (w : World) :
    (Op.equal t (.slice a l c) (.slice none 0 0)).run P w = .ok a.isNone w := by
  unfold Op.equal Op.maxDepth
  rw [Op.equalIn]
  cases a <;> simp [Sem.run_bind, run_dr_underlying ht, Sem.run_pure]

theorem denBin_of {P : Program} {op : BinOp} {t : TypeId} {x y : Operand} {C : World → Prop} {K : Value → Prop} {a b : Value} (h : denBin P op t x y C K a b) :
    ∃ v, (∀ w, C w → (do eqGuard op t x y a b; binOp op t a b : Sem Value).run P w = .ok v w) ∧ K v := by
  unfold denBin at h
  split at h
  · rename_i k a k' b
    split at h
    · obtain ⟨h0, h⟩ := h
      exact ⟨_, fun w _ => by simp [Sem.run_bind, eqGuard_int, binOp, Op.shift, Sem.run_pure, ishl, show ¬ b < 0 by omega], h⟩
    · obtain ⟨h0, h⟩ := h
      exact ⟨_, fun w _ => by simp [Sem.run_bind, eqGuard_int, binOp, Op.shift, Sem.run_pure, ishr, show ¬ b < 0 by omega], h⟩
    · rename_i hs hr
      by_cases hk : k = k'
      · subst hk
        simp only [decide_true, cond_true] at h
        obtain ⟨v, hv, hK⟩ := denInt_of (P := P) (t := t) hs hr h
        exact ⟨v, fun w _ => by rw [Sem.run_bind, eqGuard_int]; exact hv _, hK⟩
      · simp [hk] at h
  · split at h
    · rename_i ht
      exact ⟨_, fun w _ => by simp [Sem.run_bind, eqGuard_ptr, binOp, equal_ptr_nil ht, Sem.run_pure], h⟩
    · rename_i ht
      exact ⟨_, fun w _ => by simp [Sem.run_bind, eqGuard_ptr, binOp, equal_ptr_nil ht, Sem.run_pure], h⟩
    · exact h.elim
  · split at h
    · rename_i ht
      exact ⟨_, fun w _ => by simp [Sem.run_bind, eqGuard_ptr, binOp, equal_ptr_nil ht, Sem.run_pure], h⟩
    · rename_i ht
      exact ⟨_, fun w _ => by simp [Sem.run_bind, eqGuard_ptr, binOp, equal_ptr_nil ht, Sem.run_pure], h⟩
    · exact h.elim
  · split at h
    · rename_i ht
      exact ⟨_, fun w _ => by simp [Sem.run_bind, eqGuard_ptr, binOp, equal_ptr_nil ht, Sem.run_pure], h⟩
    · rename_i ht
      exact ⟨_, fun w _ => by simp [Sem.run_bind, eqGuard_ptr, binOp, equal_ptr_nil ht, Sem.run_pure], h⟩
    · exact h.elim
  · split at h
    · rename_i ht
      exact ⟨_, fun w _ => by simp [Sem.run_bind, eqGuard_slice, binOp, equal_slice_nil ht, Sem.run_pure], h⟩
    · rename_i ht
      exact ⟨_, fun w _ => by simp [Sem.run_bind, eqGuard_slice, binOp, equal_slice_nil ht, Sem.run_pure], h⟩
    · exact h.elim
  · split at h
    · rename_i ht
      exact ⟨_, fun w _ => by simp [Sem.run_bind, eqGuard_bool, binOp, equal_bool ht, Sem.run_pure], h⟩
    · rename_i ht
      exact ⟨_, fun w _ => by simp [Sem.run_bind, eqGuard_bool, binOp, equal_bool ht, Sem.run_pure], h⟩
    · exact h.elim
  · obtain ⟨r, hr, h⟩ := h
    exact ⟨_, hr, h⟩

/-- a slice expression's bounds -/
def Slc (len cap : Nat) (lo hi mx : Option Int) (K : Nat → Nat → Nat → Prop) : Prop :=
  let m := mx.getD cap; let h := hi.getD (match mx with | none => len | some _ => -1); let l := lo.getD 0
  0 ≤ l ∧ l ≤ h ∧ h ≤ m ∧ m ≤ cap ∧ K l.toNat h.toNat m.toNat
/-- where a slice of a slice begins -/
def slcP (sz l m : Nat) (p : Option Addr) : Option Addr := if m = l then p else p.map (·.add (l * sz))
def StrAt (s : ByteArray) (i : Int) (K : Int → Prop) : Prop := ∃ b : UInt8, 0 ≤ i ∧ s[i.toNat]? = some b ∧ K b.toNat

def SlArr (p : Option Addr) (l n : Nat) (K : Nat → Nat → Prop) : Prop := ∃ b o, p = some ⟨b, o, none⟩ ∧ n ≤ l ∧ K b o

def intOf? : Option Value → Option (Option Int)
  | none => some none
  | some (.int _ n) => some (some n)
  | some _ => none

def partQ (P : Program) (nl : Bool) (t : TypeId) (cs : Array Value) (off : Nat) (K : Value → Prop) : Prop :=
  match kd1 P t with
  | .agg n => K (.agg (cs.extract off (off + n)))
  | k => Fld cs off fun v => opn1 nl k v K

def okCall (P : Program) (f : FuncId) : Bool :=
  match P.funcs[f]? with
  | some fn => !(fn.name == "runtime.NumGoroutine") && !fn.body.isNone
  | none => false

def denQ (P : Program) (A : Ann) (o : Oper) (e : Env) (C : World → Prop) (K : Value → Prop) : Prop :=
  match o.op with
  | .move x => K (e.ev x)
  | .assign x => K (e.ev x)
  | .pick c a b => match e.ev c with
    | .bool t => match e.sv a, e.sv b with
      | .val (.bool x), .val (.bool y) => K (.bool (cond t x y))
      | .val (.bool x), .gd g false (.bool y) => Req (g = t) (K (.bool (cond t x y)))
      | .gd g true (.bool x), .val (.bool y) => Req (g = t) (K (.bool (cond t x y)))
      | .val x, .val y => Cb t (K x) (K y)
      | _, _ => False
    | _ => False
  | .load t ad => match e.ev ad with
    | .pointer (some ⟨b, o', none⟩) => match kd1 P t with
      | .agg n => LdA n b o' C fun cs => K (.agg cs)
      | k => LdV b o' C fun v => opnF (A.fn o.dst) (A.nl o.dst) k v K
    | _ => False
  | .nilCheck x => match e.ev x with
    | .pointer (some a) => K (.pointer (some a))
    | .func (.func f) fi ca => K (.func (.func f) fi ca)
    | _ => False
  | .binOp op t x y _ => denBin P op t x y C K (e.ev x) (e.ev y)
  | .unOp op _ x => match op, e.ev x with
    | .not, .bool b => K (.bool (!b))
    | .neg, .int k n => K (.int k (k.wrap (0 - n)))
    | .xor, .int k n => K (.int k (ibits .xor k (cond k.signed (-1) k.max) n))
    | _, _ => False
  | .convert src dst x => match P.underlying src, P.underlying dst, e.ev x with
    | some (.int _), some (.int k'), .int _ n => K (.int k' (k'.wrap n))
    | some _, some .string, v => DoQ P (convert src dst v) C fun v => OpT v fun s => K (.string s)
    | _, _, _ => False
  | .fieldAddr s x f => match P.underlying s, e.ev x with
    | some (.struct fs), .pointer (some ⟨b, o', none⟩) => match fs.toList[f]? with
      | some fd => cond (Nat.beq (P.cellsOf fd.type) 0) False (K (.pointer (some ⟨b, o' + fd.offset, none⟩)))
      | none => False
    | _, _ => False
  | .field s x f => match P.underlying s, e.ev x with
    | some (.struct fs), .agg cs => match fs.toList[f]? with
      | some fd => partQ P (A.nl o.dst) fd.type cs fd.offset K
      | none => False
    | _, _ => False
  | .indexAddr t x i => match P.underlying t, e.ev x, e.ev i with
    | some (.array n el), .pointer (some ⟨b, o', none⟩), .int _ i => cond (P.info? el).isSome (Req (0 ≤ i ∧ i < n) (K (.pointer (some ⟨b, o' + i.toNat * P.cellsOf el, none⟩)))) False
    | some (.slice el), .slice p l _, .int _ i => cond (P.info? el).isSome (IdxS p l i (P.cellsOf el) fun b o' => K (.pointer (some ⟨b, o', none⟩))) False
    | _, _, _ => False
  | .index t x i => match P.underlying t, e.ev x, e.ev i with
    | some (.array n el), .agg cs, .int _ i => cond (P.info? el).isSome (Req (0 ≤ i ∧ i < n) (partQ P (A.nl o.dst) el cs (i.toNat * P.cellsOf el) K)) False
    | some .string, .string s, .int _ i => StrAt s i fun n => K (.int .u8 n)
    | _, _, _ => False
  | .slice t x lo hi mx => match intOf? (lo.map e.ev), intOf? (hi.map e.ev), intOf? (mx.map e.ev) with
    | some lo, some hi, some mx => match P.underlying t, e.ev x with
      | some (.array n el), .pointer (some ⟨b, o', none⟩) => cond (P.info? el).isSome (Slc n n lo hi mx fun l h m => K (.slice (slcP (P.cellsOf el) l m (some ⟨b, o', none⟩)) (h - l) (m - l))) False
      | some (.slice el), .slice p len cap => cond (P.info? el).isSome (Slc len cap lo hi mx fun l h m => K (.slice (slcP (P.cellsOf el) l m p) (h - l) (m - l))) False
      | some .string, .string s => match mx with
        | none => Slc s.size s.size lo hi none fun l h _ => K (.string (s.extract l h))
        | some _ => False
      | _, _ => False
    | _, _, _ => False
  | .lookup t x i ok => DoQ P (Instr.lookup t (e.ev x) (e.ev i) ok) C fun v => opn (A.nl o.dst) (kd P o.type) v K
  | .entry x => DoQ P (Instr.entry (e.ev x)) C fun v => opn (A.nl o.dst) (A.entK o.dst) v K
  | .extract t i => match e.ev t with
    | .tuple vs => match vs.toList[i]? with
      | some v => K v
      | none => False
    | _ => False
  | .build t parts => DoQ P (Instr.build t (parts.toList.map fun p => (p.1, e.ev p.2)).toArray) C fun v => OpA (P.cellsOf t) v fun cs => K (.agg cs)
  | .makeFunc fn fi ca => K (.func fn (fi.toList.map e.ev).toArray (ca.toList.map e.ev).toArray)
  | .sliceToArrayPointer t x => match P.underlying t, e.ev x with
    | some (.array n _), .slice p l _ => SlArr p l n fun b o' => K (.pointer (some ⟨b, o', none⟩))
    | _, _ => False
  | .call { callee := .builtin .len, args, argTypes } => match args.toList, argTypes.toList with
    | [x], [t] => match P.underlying t, e.ev x with
      | some (.slice _), .slice _ n _ => K (.int .i64 n)
      | some .string, .string s => K (.int .i64 s.size)
      | some (.array n _), _ => K (.int .i64 n)
      | some (.map _ _), v => DoQ P (Builtin.len_ #[t] o.type #[v]) C fun v => OpI .i64 v fun n => K (.int .i64 n)
      | _, _ => False
    | _, _ => False
  | .call { callee := .builtin .cap, args, argTypes } => match args.toList, argTypes.toList with
    | [x], [t] => match P.underlying t, e.ev x with
      | some (.slice _), .slice _ _ c => K (.int .i64 c)
      | _, _ => False
    | _, _ => False
  | .call { callee := .builtin .min, args, argTypes } => DoQ P (Builtin.min_ argTypes o.type (args.toList.map e.ev).toArray) C fun v => opn false (kd P o.type) v K
  | .call { callee := .builtin .max, args, argTypes } => DoQ P (Builtin.max_ argTypes o.type (args.toList.map e.ev).toArray) C fun v => opn false (kd P o.type) v K
  | _ => False

section sound
variable {P : Program} {A : Ann} {e : Env} {w : World} {C : World → Prop} {K : Value → Prop}

theorem cell?_dr (w : World) (d : Nat) (a : Addr) : (w.dr d).cell? a = w.cell? a := rfl
theorem frozen?_dr (w : World) (d : Nat) (a : Addr) : (w.dr d).frozen? a = w.frozen? a := rfl
theorem heap_dr (w : World) (d : Nat) : (w.dr d).heap = w.heap := rfl
theorem dr_self (w : World) : w.dr w.drawn = w := rfl
theorem dr_dr (w : World) (d d' : Nat) : (w.dr d).dr d' = w.dr d' := rfl

theorem kd1_agg {t : TypeId} {n : Nat} (h : kd1 P t = .agg n) : ((∃ fs, P.underlying t = some (.struct fs)) ∨ ∃ m el, P.underlying t = some (.array m el)) ∧ n = P.cellsOf t := by
  unfold kd1 at h
  split at h <;> first
    | (cases h; rename_i hu; exact ⟨.inl ⟨_, hu⟩, rfl⟩)
    | (cases h; rename_i hu; exact ⟨.inr ⟨_, _, hu⟩, rfl⟩)
    | cases h

theorem run_isAgg_true {t : TypeId} {n : Nat} (h : kd1 P t = .agg n) (w : World) : (isAgg t).run P w = .ok true w := by
  obtain ⟨h | h, _⟩ := kd1_agg h
  · obtain ⟨fs, h⟩ := h; simp [isAgg, Sem.run_bind, run_dr_underlying h, Sem.run_pure]
  · obtain ⟨m, el, h⟩ := h; simp [isAgg, Sem.run_bind, run_dr_underlying h, Sem.run_pure]

theorem underlying_info {t : TypeId} {d : TypeDesc} (h : P.underlying t = some d) : ∃ i, P.info? t = some i := by
  unfold Program.underlying at h
  split at h
  · rename_i hi; exact ⟨_, hi⟩
  · rename_i hi; exact ⟨_, hi⟩
  · cases h

theorem run_isAgg_false {t : TypeId} {d : TypeDesc} (hu : P.underlying t = some d) (h : ∀ n, kd1 P t ≠ .agg n) (w : World) : (isAgg t).run P w = .ok false w := by
  unfold kd1 at h
  rw [hu] at h
  cases d <;> first
    | (simp [isAgg, Sem.run_bind, run_dr_underlying hu, Sem.run_pure]; done)
    | exact absurd rfl (h _)

theorem run_typeInfo {t : TypeId} {i : TypeInfo} (h : P.info? t = some i) (w : World) : (typeInfo t).run P w = .ok i w := by
  simp [typeInfo, program, Sem.run, h, bind, Sem.bind, pure]
theorem run_sizeOf {t : TypeId} {d : TypeDesc} (hu : P.underlying t = some d) (w : World) : (sizeOf t).run P w = .ok (P.cellsOf t) w := by
  obtain ⟨i, hi⟩ := underlying_info hu
  simp [sizeOf, Sem.run_bind, run_typeInfo hi, Sem.run_pure, Program.cellsOf, hi]

theorem addr_add (b o n : Nat) : (⟨b, o, none⟩ : Addr).add n = ⟨b, o + n, none⟩ := by
  unfold Addr.add; split
  · subst_vars; rfl
  · rfl

theorem run_loadCellsFrom (b o : Nat) (cs : Array Value) (w : World) : ∀ (n i : Nat) (acc : Array Value), i + n = cs.size → (∀ j, i ≤ j → j < cs.size → w.cell? ⟨b, o + j, none⟩ = cs[j]?) →
    acc = cs.extract 0 i → (loadCellsFrom ⟨b, o, none⟩ i n acc).run P w = .ok cs w
  | 0, i, acc, hi, _, ha => by
    simp only [loadCellsFrom, Sem.run_pure]
    subst ha
    have : i = cs.size := by omega
    subst this
    simp
  | n + 1, i, acc, hi, hc, ha => by
    have hlt : i < cs.size := by omega
    have h0 := hc i (Nat.le_refl _) hlt
    rw [Array.getElem?_eq_getElem hlt] at h0
    simp only [loadCellsFrom, addr_add, Sem.run_bind, load, Sem.run, h0, Result.andThen_ok]
    refine run_loadCellsFrom b o cs w n (i + 1) _ (by omega) (fun j hj hj' => hc j (by omega) hj') ?_
    subst ha
    rw [Array.push_extract_getElem (by omega)]
    simp [Nat.min_eq_left (show 0 ≤ i by omega)]

theorem run_load_agg {w : World} {t : TypeId} {n b o : Nat} {cs : Array Value} (hk : kd1 P t = .agg n) (hs : cs.size = n) (hc : ∀ i, i < n → w.cell? ⟨b, o + i, none⟩ = cs[i]?) :
    (loadVar t ⟨b, o, none⟩).run P w = .ok (.agg cs) w := by
  obtain ⟨h, hn⟩ := kd1_agg hk
  have hu : ∃ d, P.underlying t = some d := by rcases h with ⟨_, h⟩ | ⟨_, _, h⟩ <;> exact ⟨_, h⟩
  obtain ⟨d, hu⟩ := hu
  have hl := run_loadCellsFrom (P := P) b o cs w cs.size 0 #[] (by omega) (fun j _ hj => hc j (by omega)) (by simp)
  simp only [loadVar, Sem.run_bind, run_isAgg_true hk, Result.andThen_ok, if_true, run_sizeOf hu, loadCells, ← hn, ← hs, hl, Sem.run_pure]

theorem run_load_one {w : World} {t : TypeId} {d : TypeDesc} (hu : P.underlying t = some d) (hk : ∀ n, kd1 P t ≠ .agg n) {a : Addr} {v : Value} (hc : w.cell? a = some v) :
    (loadVar t a).run P w = .ok v w := by
  simp [loadVar, Sem.run_bind, run_isAgg_false hu hk, load, Sem.run, hc]

theorem kd1_some {t : TypeId} (h : kd1 P t ≠ .bad) : ∃ d, P.underlying t = some d := by
  cases hu : P.underlying t with
  | some d => exact ⟨d, rfl⟩
  | none => exact absurd (by unfold kd1; rw [hu]) h

theorem partQ_of {nl : Bool} {t : TypeId} {cs : Array Value} {off : Nat} (h : partQ P nl t cs off K) :
    ∃ v, (∀ w, (part t cs off).run P w = .ok v w) ∧ K v := by
  unfold partQ at h
  split at h
  · rename_i n hk
    obtain ⟨_, hn⟩ := kd1_agg hk
    obtain ⟨d, hu⟩ := kd1_some (P := P) (t := t) (by rw [hk]; simp)
    exact ⟨_, fun w => by simp [part, Sem.run_bind, run_isAgg_true hk, run_sizeOf hu, Sem.run_pure, hn], h⟩
  · rename_i hk
    obtain ⟨v, hv, h⟩ := h
    have hk' : ∀ n, kd1 P t ≠ .agg n := fun n h => hk n h
    obtain ⟨d, hu⟩ := kd1_some (P := P) (t := t) (fun hb => by rw [hb] at h; exact h)
    exact ⟨v, fun w => by simp [part, Sem.run_bind, run_isAgg_false hu hk', hv, Sem.run_pure], opn1_of h⟩

/-- what a run of an operation that leaves the world alone comes to -/
def QRun (P : Program) (s : Sem Next) (C : World → Prop) (v : Value) : Prop := ∀ w, C w → s.run P w = .ok (.value v) w

theorem QRun.of {s : Sem Value} {v : Value} (h : ∀ w, C w → s.run P w = .ok v w) : QRun P (do pure (.value (← s))) C v := fun w hw => by
  rw [Sem.run_bind, h w hw]; rfl

theorem sureAddr_run (b o : Nat) (w : World) : (Instr.sureAddr (.pointer (some ⟨b, o, none⟩))).run P w = .ok ⟨b, o, none⟩ w := by
  simp [Instr.sureAddr, Sem.run_pure]

theorem sliceBound_run {n : Int} {y : Nat} {c : BoundsCode} {k : IntKind} (h0 : 0 ≤ n) (h1 : n ≤ y) (w : World) : (Instr.sliceBound (.int k n) y c).run P w = .ok n.toNat w := by
  simp [Instr.sliceBound, asIntOf, Sem.run_bind, Sem.run_pure, h0, h1]

theorem slc_run {b : Bool} {len cap : Nat} {lo hi mx : Option Value} {lo' hi' mx' : Option Int} (hl : intOf? lo = some lo') (hh : intOf? hi = some hi') (hm : intOf? mx = some mx')
    {K : Nat → Nat → Nat → Prop} (h : Slc len cap lo' hi' mx' K) : ∃ l h m, (∀ w, (Instr.sliceBounds b len cap lo hi mx).run P w = .ok (l, h, m) w) ∧ K l h m := by
  have key : ∀ {x : Option Value} {x' : Option Int}, intOf? x = some x' → (x = none ∧ x' = none) ∨ ∃ k n, x = some (.int k n) ∧ x' = some n := by
    intro x x' hx
    unfold intOf? at hx
    split at hx
    · cases hx; exact .inl ⟨rfl, rfl⟩
    · cases hx; exact .inr ⟨_, _, rfl, rfl⟩
    · cases hx
  obtain ⟨h1, h2, h3, h4, hK⟩ := h
  refine ⟨_, _, _, fun w => ?_, hK⟩
  have e2 : ∀ {n m : Int}, 0 ≤ n → n ≤ m → n ≤ (m.toNat : Int) := fun h0 h => by omega
  rcases key hm with ⟨rfl, rfl⟩ | ⟨km, m, rfl, rfl⟩ <;> rcases key hh with ⟨rfl, rfl⟩ | ⟨kh, hh', rfl, rfl⟩ <;> rcases key hl with ⟨rfl, rfl⟩ | ⟨kl, l, rfl, rfl⟩ <;>
    simp only [Option.getD_none, Option.getD_some] at h1 h2 h3 h4 <;>
    (try omega) <;>
    simp only [Instr.sliceBounds, Sem.run_bind, Sem.run_pure, Result.andThen_ok, Option.getD_none, Option.getD_some, Int.toNat_natCast, Int.toNat_zero]
  · rw [sliceBound_run h1 (by omega)]; simp [Sem.run_pure]
  · rw [sliceBound_run (by omega) (by omega)]; simp [Sem.run_pure]
  · rw [sliceBound_run (by omega) (by omega)]
    simp only [Result.andThen_ok]
    rw [sliceBound_run (by omega) (by omega)]; simp [Sem.run_pure]
  · rw [sliceBound_run (by omega) (by omega)]
    simp only [Result.andThen_ok]
    rw [sliceBound_run (by omega) (by omega)]; simp [Sem.run_pure]
  · rw [sliceBound_run (by omega) (by omega)]
    simp only [Result.andThen_ok]
    rw [sliceBound_run (by omega) (by omega)]
    simp only [Result.andThen_ok]
    rw [sliceBound_run (by omega) (by omega)]; simp [Sem.run_pure]

theorem map_arr (l : Array Operand) (f : Operand → Value) : l.map f = (l.toList.map f).toArray := by
  cases l; simp
theorem map_parts (l : Array (Nat × Operand)) (f : Operand → Value) : (l.map fun (i, x) => (i, f x)) = (l.toList.map fun p => (p.1, f p.2)).toArray := by
  cases l; simp

theorem run_callBuiltin {o : Oper} {b : Builtin} {args : Array Operand} {ts : Array TypeId} (ho : o.op = .call { callee := .builtin b, args := args, argTypes := ts }) (ρ : Operand → Value) :
    ∃ cs, execOp ρ o = builtin b ts o.type cs (args.toList.map ρ).toArray := by
  refine ⟨args.map fun | .const _ => true | _ => false, ?_⟩
  simp only [execOp, ho, resolve, map_arr args ρ]
  rfl

theorem isSome_of {α : Type} {x : Option α} {p : Prop} (h : cond x.isSome p False) : ∃ i, x = some i ∧ p := by
  cases x with
  | none => exact h.elim
  | some i => exact ⟨i, rfl, h⟩

set_option maxHeartbeats 1000000 in
theorem denQ_of {o : Oper} (h : denQ P A o e C K) : ∃ v, QRun P (execOp e.ev o) C v ∧ K v := by
  unfold denQ at h
  split at h
  · rename_i x ho; exact ⟨_, fun w hw => by simp [execOp, ho, Sem.run_pure], h⟩
  · rename_i x ho; exact ⟨_, fun w hw => by simp [execOp, ho, Sem.run_pure], h⟩
  · rename_i c a b ho
    split at h
    · rename_i t hc
      have hrun : ∀ w, C w → (execOp e.ev o).run P w = .ok (.value (cond t (e.ev a) (e.ev b))) w := fun w _ => by
        simp only [execOp, ho, hc, asBool, Sem.run_bind, Sem.run_pure, Result.andThen_ok]
        cases t <;> rfl
      have hsv : ∀ x : Operand, e.ev x = (e.sv x).v := fun x => by cases x <;> rfl
      split at h
      · rename_i x y ha hb
        refine ⟨_, fun w hw => (hrun w hw).trans ?_, h⟩
        rw [hsv a, hsv b, ha, hb]
        cases t <;> rfl
      · rename_i x g y ha hb
        obtain ⟨rfl, h⟩ := h
        refine ⟨_, fun w hw => (hrun w hw).trans ?_, h⟩
        rw [hsv a, hsv b, ha, hb]
        cases g <;> rfl
      · rename_i g x y ha hb
        obtain ⟨rfl, h⟩ := h
        refine ⟨_, fun w hw => (hrun w hw).trans ?_, h⟩
        rw [hsv a, hsv b, ha, hb]
        cases g <;> rfl
      · rename_i x y _ ha hb
        refine ⟨cond t x y, fun w hw => (hrun w hw).trans ?_, by cases t <;> exact h⟩
        rw [hsv a, hsv b, ha, hb]
        rfl
      · exact h.elim
    · exact h.elim
  · rename_i t ad ho
    split at h
    · rename_i b o' had
      have ha := fun w => sureAddr_run (P := P) b o' w
      split at h
      · rename_i n hk
        obtain ⟨cs, hs, hc, h⟩ := h
        refine ⟨_, ?_, h⟩
        simp only [execOp, ho, had]
        refine QRun.of fun w hw => ?_
        simp only [Instr.loadAt, Sem.run_bind, ha, Result.andThen_ok]
        exact run_load_agg hk hs (fun i hi => hc w hw i hi)
      · rename_i hk
        obtain ⟨v, hv, h⟩ := h
        have hk' : ∀ n, kd1 P t ≠ .agg n := fun n h => hk n h
        obtain ⟨d, hu⟩ := kd1_some (P := P) (t := t) (fun hb => by rw [hb] at h; exact opnF_bad h)
        refine ⟨v, ?_, opnF_of h⟩
        simp only [execOp, ho, had]
        refine QRun.of fun w hw => ?_
        simp only [Instr.loadAt, Sem.run_bind, ha, Result.andThen_ok]
        exact run_load_one hu hk' (hv w hw)
    · exact h.elim
  · rename_i x ho
    split at h
    · rename_i a hx; exact ⟨_, fun w hw => by simp [execOp, ho, hx, Sem.run_pure], h⟩
    · rename_i f fi ca hx; exact ⟨_, fun w hw => by simp [execOp, ho, hx, Sem.run_pure], h⟩
    · exact h.elim
  · rename_i op t x y z ho
    obtain ⟨v, hv, h⟩ := denBin_of h
    refine ⟨v, ?_, h⟩
    simp only [execOp, ho]
    exact QRun.of hv
  · rename_i op t x ho
    split at h
    · rename_i b hx; refine ⟨_, ?_, h⟩; simp only [execOp, ho, hx]; exact QRun.of fun w hw => by simp [Op.unary, Sem.run_pure]
    · rename_i k n hx; refine ⟨_, ?_, h⟩; simp only [execOp, ho, hx]; exact QRun.of fun w hw => by simp [Op.unary, Op.intArith, Sem.run_pure]
    · rename_i k n hx; refine ⟨_, ?_, h⟩; simp only [execOp, ho, hx]; exact QRun.of fun w hw => by cases k <;> simp [Op.unary, Op.intBits, ibits, IntKind.signed, Sem.run_pure]
    · exact h.elim
  · rename_i src dst x ho
    split at h
    · rename_i k k' q n hs hd hx
      refine ⟨_, ?_, h⟩
      simp only [execOp, ho, hx]
      exact QRun.of fun w hw => by simp [convert, Sem.run_bind, run_dr_underlying hs, run_dr_underlying hd, Conv.intToInt, Sem.run_pure]
    · obtain ⟨v, hv, s, rfl, h⟩ := h
      refine ⟨_, ?_, h⟩
      simp only [execOp, ho]
      exact QRun.of hv
    · exact h.elim
  · rename_i s x f ho
    split at h
    · rename_i fs b o' hs hx
      split at h
      · rename_i fd hf
        cases hz : Nat.beq (P.cellsOf fd.type) 0
        · rw [hz] at h
          refine ⟨_, ?_, h⟩
          simp only [execOp, ho, hx]
          have hne : P.cellsOf fd.type ≠ 0 := fun h0 => by rw [h0] at hz; cases hz
          have hi : ∃ i, P.info? fd.type = some i := by
            cases hi : P.info? fd.type with
            | some i => exact ⟨i, rfl⟩
            | none => exact absurd (by simp [Program.cellsOf, hi]) hne
          obtain ⟨i, hi⟩ := hi
          have hf' : fs[f]? = some fd := by simpa using hf
          have hsz : i.size ≠ 0 := by simpa [Program.cellsOf, hi] using hne
          exact QRun.of fun w hw => by
            simp [Instr.fieldAt, Sem.run_bind, run_dr_underlying hs, hf', sureAddr_run, fieldPlace, sizeOf, run_typeInfo hi, hsz, addr_add, Sem.run_pure]
        · rw [hz] at h; exact h.elim
      · exact h.elim
    · exact h.elim
  · rename_i s x f ho
    split at h
    · rename_i fs cs hs hx
      split at h
      · rename_i fd hf
        obtain ⟨v, hv, h⟩ := partQ_of h
        refine ⟨v, ?_, h⟩
        have hf' : fs[f]? = some fd := by simpa using hf
        simp only [execOp, ho, hx]
        exact QRun.of fun w hw => by simp [Instr.field, Sem.run_bind, run_dr_underlying hs, hf', asAgg, Sem.run_pure, hv]
      · exact h.elim
    · exact h.elim
  · rename_i t x i ho
    split at h
    · rename_i n el b o' k i' ht hx hi
      obtain ⟨ie, hel, h⟩ := isSome_of h
      obtain ⟨⟨h0, h1⟩, h⟩ := h
      refine ⟨_, ?_, h⟩
      simp only [execOp, ho, hx, hi]
      refine QRun.of fun w hw => ?_
      simp [Instr.indexAt, Sem.run_bind, asIntOf, run_dr_underlying ht, sureAddr_run, h0, h1, sizeOf, run_typeInfo hel, Program.cellsOf, hel, addr_add, Sem.run_pure]
    · rename_i el p l c k i' ht hx hi
      obtain ⟨ie, hel, h⟩ := isSome_of h
      obtain ⟨b, o', rfl, h0, h1, h⟩ := h
      refine ⟨_, ?_, h⟩
      simp only [execOp, ho, hx, hi]
      refine QRun.of fun w hw => ?_
      simp [Instr.indexAt, Sem.run_bind, asIntOf, run_dr_underlying ht, h0, h1, sizeOf, run_typeInfo hel, Program.cellsOf, hel, addr_add, Sem.run_pure]
    · exact h.elim
  · rename_i t x i ho
    split at h
    · rename_i n el cs k i' ht hx hi
      obtain ⟨ie, hel, h⟩ := isSome_of h
      obtain ⟨⟨h0, h1⟩, h⟩ := h
      obtain ⟨v, hv, h⟩ := partQ_of h
      refine ⟨v, ?_, h⟩
      simp only [execOp, ho, hx, hi]
      refine QRun.of fun w hw => ?_
      have hv' := hv w
      simp only [Program.cellsOf, hel, Option.map_some, Option.getD_some] at hv'
      simp [Instr.index, Sem.run_bind, asIntOf, run_dr_underlying ht, h0, h1, sizeOf, run_typeInfo hel, Sem.run_pure, hv']
    · rename_i s k i' ht hx hi
      obtain ⟨b, h0, hb, h⟩ := h
      refine ⟨_, ?_, h⟩
      simp only [execOp, ho, hx, hi]
      exact QRun.of fun w hw => by simp [Instr.index, Sem.run_bind, asIntOf, run_dr_underlying ht, h0, hb, Sem.run_pure]
    · exact h.elim
  · rename_i t x lo hi mx ho
    split at h
    · rename_i lo' hi' mx' hl hh hm
      split at h
      · rename_i n el b o' ht hx
        obtain ⟨ie, hel, h⟩ := isSome_of h
        obtain ⟨l, u, m, hr, h⟩ := slc_run (P := P) (b := false) hl hh hm h
        refine ⟨_, ?_, h⟩
        simp only [execOp, ho, hx]
        refine QRun.of fun w hw => ?_
        simp only [Instr.sliceAt, Sem.run_bind, run_dr_underlying ht, Result.andThen_ok, sureAddr_run, hr, sizeOf, run_typeInfo hel, Sem.run_pure, slcP, Program.cellsOf, hel, Option.map_some, Option.getD_some]
        split <;> rfl
      · rename_i el p len cap ht hx
        obtain ⟨ie, hel, h⟩ := isSome_of h
        obtain ⟨l, u, m, hr, h⟩ := slc_run (P := P) (b := true) hl hh hm h
        refine ⟨_, ?_, h⟩
        simp only [execOp, ho, hx]
        refine QRun.of fun w hw => ?_
        simp only [Instr.sliceAt, Sem.run_bind, run_dr_underlying ht, Result.andThen_ok, Instr.slice, hr, sizeOf, run_typeInfo hel, Sem.run_pure, slcP, Program.cellsOf, hel, Option.map_some, Option.getD_some]
      · rename_i s ht hx
        split at h
        · obtain ⟨l, u, m, hr, h⟩ := slc_run (P := P) (b := false) (mx := none) hl hh rfl h
          have hmx : mx.map e.ev = none := by
            cases mx with
            | none => rfl
            | some z => simp only [Option.map_some] at hm; unfold intOf? at hm; split at hm <;> simp_all
          refine ⟨_, ?_, h⟩
          simp only [execOp, ho, hx, hmx]
          refine QRun.of fun w hw => ?_
          simp [Instr.sliceAt, Sem.run_bind, run_dr_underlying ht, Instr.slice, hr, Sem.run_pure]
        · exact h.elim
      · exact h.elim
    · exact h.elim
  · rename_i t x i ok ho
    obtain ⟨v, hv, h⟩ := h
    refine ⟨v, ?_, opn_of h⟩
    simp only [execOp, ho]
    exact QRun.of hv
  · rename_i x ho
    obtain ⟨v, hv, h⟩ := h
    refine ⟨v, ?_, opn_of h⟩
    simp only [execOp, ho]
    exact QRun.of hv
  · rename_i t i ho
    split at h
    · rename_i vs ht
      split at h
      · rename_i v hv
        refine ⟨v, ?_, h⟩
        simp only [execOp, ho, ht]
        have hv' : vs[i]? = some v := by simpa using hv
        exact QRun.of fun w hw => by simp [Instr.extract, hv', Sem.run_pure]
      · exact h.elim
    · exact h.elim
  · rename_i t parts ho
    obtain ⟨v, hv, cs, rfl, _, h⟩ := h
    refine ⟨_, ?_, h⟩
    simp only [execOp, ho, map_parts]
    exact QRun.of hv
  · rename_i fn fi ca ho
    refine ⟨_, ?_, h⟩
    simp only [execOp, ho, map_arr]
    exact QRun.of fun w hw => by simp [Instr.makeFunc, Sem.run_pure]
  · rename_i t x ho
    split at h
    · rename_i n el p l c ht hx
      obtain ⟨b, o', rfl, hn, h⟩ := h
      refine ⟨_, ?_, h⟩
      simp only [execOp, ho, hx]
      exact QRun.of fun w hw => by simp [Instr.arrayAt, Sem.run_bind, run_dr_underlying ht, show ¬ l < n by omega, Sem.run_pure]
    · exact h.elim
  · rename_i args ts ho
    split at h
    · rename_i x t ha ht
      have hts : ts = #[t] := by cases ts; simp_all
      obtain ⟨c, hc⟩ := run_callBuiltin ho e.ev
      rw [ha, hts] at hc
      rw [hc]
      simp only [List.map_cons, List.map_nil]
      split at h
      · rename_i el p n c' hu hx
        refine ⟨_, ?_, h⟩
        simp only [hx, builtin]
        exact QRun.of fun w hw => by simp [Builtin.len_, Sem.run_bind, run_dr_underlying hu, Sem.run_pure, goInt]
      · rename_i s hu hx
        refine ⟨_, ?_, h⟩
        simp only [hx, builtin]
        exact QRun.of fun w hw => by simp [Builtin.len_, Sem.run_bind, run_dr_underlying hu, Sem.run_pure, goInt]
      · rename_i n el v hu
        refine ⟨_, ?_, h⟩
        simp only [builtin]
        exact QRun.of fun w hw => by simp [Builtin.len_, Sem.run_bind, run_dr_underlying hu, Sem.run_pure, goInt]
      · rename_i k el v hu
        obtain ⟨v, hv, n, rfl, h⟩ := h
        refine ⟨_, ?_, h⟩
        simp only [builtin]
        exact QRun.of hv
      · exact h.elim
    · exact h.elim
  · rename_i args ts ho
    split at h
    · rename_i x t ha ht
      have hts : ts = #[t] := by cases ts; simp_all
      obtain ⟨c, hc⟩ := run_callBuiltin ho e.ev
      rw [ha, hts] at hc
      rw [hc]
      simp only [List.map_cons, List.map_nil]
      split at h
      · rename_i el p n c' hu hx
        refine ⟨_, ?_, h⟩
        simp only [hx, builtin]
        exact QRun.of fun w hw => by simp [Builtin.cap_, Sem.run_bind, run_dr_underlying hu, Sem.run_pure, goInt]
      · exact h.elim
    · exact h.elim
  · rename_i args ts ho
    obtain ⟨v, hv, h⟩ := h
    obtain ⟨c, hc⟩ := run_callBuiltin ho e.ev
    refine ⟨v, ?_, opn_of h⟩
    rw [hc]
    exact QRun.of hv
  · rename_i args ts ho
    obtain ⟨v, hv, h⟩ := h
    obtain ⟨c, hc⟩ := run_callBuiltin ho e.ev
    refine ⟨v, ?_, opn_of h⟩
    rw [hc]
    exact QRun.of hv
  · exact h.elim
end sound

/-! ### operations that turn the world -/
def OpX (v : Value) (K : Value → Value → Prop) (q : Prop) : Prop := (∃ k x, v = .tuple #[.bool true, k, x] ∧ K k x) ∨ (v = .tuple #[.bool false] ∧ q)

def denCall (P : Program) (A : Ann) (o : Oper) (e : Env) (w : World) (c : Call) (K : Value → World → Prop) : Prop :=
  match c.callee with
  | .value f => match e.ev f with
    | .func (.func g) fi ca => cond (okCall P g)
        (CallV P g (fi.toList ++ c.args.toList.map e.ev ++ ca.toList).toArray w fun v w' => opn (A.callNl o.dst) (kd P o.type) v fun v => K v w')
        (DoN P (callFunc g (fi.toList ++ c.args.toList.map e.ev ++ ca.toList).toArray) w fun v w' => opn (A.callNl o.dst) (kd P o.type) v fun v => K v w')
    | _ => False
  | .builtin .append => DoV P (Builtin.append_ c.argTypes o.type (c.args.toList.map e.ev).toArray) w fun v w' => OpS v fun p l q => K (.slice p l q) w'
  | .builtin .copy => DoV P (Builtin.copy_ c.argTypes o.type (c.args.toList.map e.ev).toArray) w fun v w' => OpI .i64 v fun n => K (.int .i64 n) w'
  | .builtin .delete => DoV P (Builtin.delete_ c.argTypes o.type (c.args.toList.map e.ev).toArray) w K
  | .builtin .clear => DoV P (Builtin.clear_ c.argTypes o.type (c.args.toList.map e.ev).toArray) w K
  | _ => denQ P A o e (At w) fun v => K v w

def denL (P : Program) (A : Ann) (o : Oper) (e : Env) (w : World) (K : Value → World → Prop) : Prop :=
  match o.op with
  | .alloc t => match (P.info? t).bind (·.zero) with
    | some z => Alc t z.cells w fun b w' => K (.pointer (some ⟨b, 0, none⟩)) w'
    | none => False
  | .box t x => Alc t (e.ev x).cells w fun b w' => K (.pointer (some ⟨b, 0, none⟩)) w'
  | .store t ad x => match e.ev ad with
    | .pointer (some ⟨b, o', none⟩) => match kd1 P t with
      | .agg n => match e.ev x with
        | .agg cs => StA n b o' cs w fun w' => K undef w'
        | _ => False
      | .bad => False
      | _ => cond (Nat.beq (P.cellsOf t) 1) (StV b o' (e.ev x) w fun w' => K undef w') False
    | _ => False
  | .buildSlice t len parts => DoV P (Instr.buildSlice t len (parts.toList.map fun p => (p.1, e.ev p.2)).toArray) w fun v w' => OpS v fun p l c => K (.slice p l c) w'
  | .makeSlice t l c => DoV P (Instr.makeSlice t (e.ev l) (e.ev c)) w fun v w' => OpS v fun p l c => K (.slice p l c) w'
  | .makeMap t r => DoV P (Instr.makeMap t (r.map e.ev)) w fun v w' => OpM v fun m => K (.map m) w'
  | .mapUpdate t m k x => DoU P (Instr.mapUpdate t (e.ev m) (e.ev k) (e.ev x)) w fun w' => K undef w'
  | .insert t m k x => DoU P (Instr.mapUpdate t (e.ev m) (e.ev k) (e.ev x)) w fun w' => K undef w'
  | .mapEntry t m k => DoV P (Instr.mapEntry t (e.ev m) (e.ev k)) w K
  | .entryStore t m s x => DoU P (Instr.entryStore t (e.ev m) (e.ev s) (e.ev x)) w fun w' => K undef w'
  | .range t x => DoV P (Instr.range t (e.ev x)) w fun v w' => OpN v fun b o' => K (.pointer (some ⟨b, o', none⟩)) w'
  | .next it st => DoV P (Instr.next (e.ev it) st o.type) w fun v w' => OpX v (fun k x => K (.tuple #[.bool true, k, x]) w') (K (.tuple #[.bool false]) w')
  | .convert src dst x => match P.underlying dst with
    | some (.slice _) => DoV P (convert src dst (e.ev x)) w fun v w' => OpS v fun p l c => K (.slice p l c) w'
    | _ => denQ P A o e (At w) fun v => K v w
  | .call c => denCall P A o e w c K
  | _ => denQ P A o e (At w) fun v => K v w

section sound2
variable {P : Program} {A : Ann} {e : Env} {w : World}

theorem spl_cons (c : Array Value) (o : Nat) (v : Value) (cs : List Value) (h : o < c.size) :
    spl (c.setIfInBounds o v) (o + 1) cs.toArray = spl c o (v :: cs).toArray := by
  have hl : o < c.toList.length := by simpa using h
  apply Array.ext'
  simp only [spl, Array.toList_setIfInBounds, List.size_toArray, List.length_cons]
  rw [List.take_add_one]
  simp only [List.take_set, List.getElem?_set_self hl, Option.toList_some]
  rw [List.set_eq_of_length_le (by simp; omega)]
  rw [List.drop_set_of_lt (by omega)]
  simp [List.append_assoc, Nat.add_assoc, Nat.add_comm 1]

theorem putRow_cons (w : World) (b o : Nat) (v : Value) (cs : List Value) {c : Array Value} {t : TypeId} {f : Nat × Nat} (hb : w.heap[b]? = some (.cells c t f)) (h : o < c.size) :
    (w.setCell ⟨b, o, none⟩ v).putRow b (o + 1) cs.toArray = w.putRow b o (v :: cs).toArray := by
  unfold World.putRow World.setCell
  congr 1
  apply Array.ext_getElem?
  intro i
  simp only [Array.getElem?_modify]
  by_cases hi : b = i
  · subst hi
    simp only [if_true, hb, Option.map_some]
    simp [spl_cons c o v cs h]
  · simp [hi]

theorem putRow_nil (w : World) (b o : Nat) : w.putRow b o #[] = w := by
  unfold World.putRow
  have : (w.heap.modify b fun | .cells c t f => .cells (spl c o #[]) t f | x => x) = w.heap := by
    apply Array.ext_getElem?
    intro i
    simp only [Array.getElem?_modify]
    by_cases hi : b = i
    · subst hi
      simp only [if_true]
      cases h : w.heap[b]? with
      | none => rfl
      | some x => cases x <;> simp [spl]
    · simp [hi]
  rw [this]

theorem run_storeCells (b : Nat) (P : Program) : ∀ (cs : List Value) (o i : Nat) (w : World), (∀ v ∈ cs, oneV v = true) → (∃ c t, w.heap[b]? = some (.cells c t (0, 0)) ∧ o + i + cs.length ≤ c.size) →
    (storeCells ⟨b, o, none⟩ cs i).run P w = .ok () (w.putRow b (o + i) cs.toArray)
  | [], o, i, w, _, _ => by simp [storeCells, Sem.run_pure, putRow_nil]
  | v :: cs, o, i, w, h1, ⟨c, t, hb, hs⟩ => by
    simp only [List.length_cons] at hs
    have hv := h1 v (List.mem_cons_self ..)
    have hlt : o + i < c.size := by omega
    have hcell : w.cell? ⟨b, o + i, none⟩ = some c[o + i] := by simp [World.cell?, hb, hlt]
    have hfr : w.frozen? ⟨b, o + i, none⟩ = false := by simp [World.frozen?, hb]
    have hst : (store ⟨b, o + i, none⟩ v).run P w = .ok () (w.setCell ⟨b, o + i, none⟩ v) := by
      unfold store
      cases v <;> first | (cases hv; done) | (simp [Sem.run, hcell, hfr])
    simp only [storeCells, addr_add, Sem.run_bind, hst, Result.andThen_ok]
    have hb' : (w.setCell ⟨b, o + i, none⟩ v).heap[b]? = some (.cells (c.setIfInBounds (o + i) v) t (0, 0)) := by
      simp [World.setCell, Array.getElem?_modify, hb]
    rw [run_storeCells b P cs o (i + 1) _ (fun u hu => h1 u (List.mem_cons_of_mem _ hu)) ⟨_, t, hb', by simp; omega⟩]
    rw [← Nat.add_assoc, putRow_cons w b (o + i) v cs hb hlt]

theorem wp_value {o : Oper} {a : Act} {next : Act → World → Prop} {Q : Exit → Act → World → Prop} {v : Value} {w' : World} (h : (execOp a.eval o).run P w = .ok (.value v) w') (hn : next (a.put o.dst v) w') :
    o.wp P a w next Q := by unfold Oper.wp; rw [h]; exact hn
theorem wp_skip' {o : Oper} {a : Act} {next : Act → World → Prop} {Q : Exit → Act → World → Prop} {w' : World} (h : (execOp a.eval o).run P w = .ok .skip w') (hn : next (a.put o.dst undef) w') :
    o.wp P a w next Q := by unfold Oper.wp; rw [h]; exact hn
theorem run_v {s : Sem Value} {v : Value} {w' : World} (h : s.run P w = .ok v w') : (do pure (.value (← s)) : Sem Next).run P w = .ok (.value v) w' := by
  rw [Sem.run_bind, h]; rfl
theorem run_u {s : Sem Unit} {w' : World} (h : s.run P w = .ok () w') : (do s; pure .skip : Sem Next).run P w = .ok .skip w' := by
  rw [Sem.run_bind, h]; rfl

theorem wp_quiet {o : Oper} {a : Act} {next : Act → World → Prop} {Q : Exit → Act → World → Prop} {K : Value → World → Prop} (he : a.eval = e.ev) (h : denQ P A o e (At w) fun v => K v w)
    (hn : ∀ v w', K v w' → next (a.put o.dst v) w') : o.wp P a w next Q := by
  obtain ⟨v, hv, h⟩ := denQ_of h
  exact wp_value (by rw [he]; exact hv w ⟨w.drawn, rfl⟩) (hn _ _ h)

theorem okCall_run {g : FuncId} (h : okCall P g = true) (args : Array Value) (w : World) : (callFunc g args).run P w = .ok (.enter g args) w := by
  unfold okCall at h
  split at h
  · rename_i fn hf
    simp only [Bool.and_eq_true, Bool.not_eq_true'] at h
    obtain ⟨h1, h2⟩ := h
    simp only [callFunc, program, Sem.run_bind, Sem.run, Result.andThen_ok, hf, h1, h2]
    simp [Sem.run_pure]
  · cases h

theorem denCall_of {o : Oper} {a : Act} {next : Act → World → Prop} {Q : Exit → Act → World → Prop} {c : Call} {K : Value → World → Prop} (ho : o.op = .call c) (he : a.eval = e.ev)
    (h : denCall P A o e w c K) (hn : ∀ v w', K v w' → next (a.put o.dst v) w') : o.wp P a w next Q := by
  obtain ⟨callee, args, ts⟩ := c
  unfold denCall at h
  split at h
  · rename_i f hc
    simp only at hc
    subst hc
    split at h
    · rename_i g fi ca hf
      have hr : (execOp a.eval o).run P w = (callFunc g (fi.toList ++ args.toList.map e.ev ++ ca.toList).toArray).run P w := by
        simp only [execOp, ho, he, resolve, hf, Deferred.ofValue, Sem.run_bind, Sem.run_pure, Result.andThen_ok, invoke]
        congr 2
        apply Array.ext'
        simp
      cases hk : okCall P g
      · rw [hk] at h
        obtain ⟨v, w', hv, h⟩ := h
        exact wp_value (hr.trans hv) (hn _ _ (opn_of h))
      · rw [hk] at h
        unfold Oper.wp
        rw [hr, okCall_run hk]
        exact Calls.mono h fun e w' ⟨v, hv, hK⟩ => by subst hv; exact hn _ _ (opn_of hK)
    · exact h.elim
  · rename_i hc; simp only at hc; subst hc
    obtain ⟨cs, hcs⟩ := run_callBuiltin ho e.ev
    obtain ⟨v, w', hv, p, l, q, rfl, h⟩ := h
    exact wp_value (by rw [he, hcs]; exact run_v hv) (hn _ _ h)
  · rename_i hc; simp only at hc; subst hc
    obtain ⟨cs, hcs⟩ := run_callBuiltin ho e.ev
    obtain ⟨v, w', hv, n, rfl, h⟩ := h
    exact wp_value (by rw [he, hcs]; exact run_v hv) (hn _ _ h)
  · rename_i hc; simp only at hc; subst hc
    obtain ⟨cs, hcs⟩ := run_callBuiltin ho e.ev
    obtain ⟨v, w', hv, h⟩ := h
    exact wp_value (by rw [he, hcs]; exact run_v hv) (hn _ _ h)
  · rename_i hc; simp only at hc; subst hc
    obtain ⟨cs, hcs⟩ := run_callBuiltin ho e.ev
    obtain ⟨v, w', hv, h⟩ := h
    exact wp_value (by rw [he, hcs]; exact run_v hv) (hn _ _ h)
  · exact wp_quiet he h hn

theorem denL_of {o : Oper} {a : Act} {next : Act → World → Prop} {Q : Exit → Act → World → Prop} {K : Value → World → Prop} (he : a.eval = e.ev)
    (h : denL P A o e w K) (hn : ∀ v w', K v w' → next (a.put o.dst v) w') : o.wp P a w next Q := by
  unfold denL at h
  split at h
  · rename_i t ho
    split at h
    · rename_i z hz
      have hi : ∃ i, P.info? t = some i ∧ i.zero = some z := by
        cases hi : P.info? t with
        | none => simp [hi] at hz
        | some i => exact ⟨i, rfl, by simpa [hi] using hz⟩
      obtain ⟨i, hi, hz'⟩ := hi
      refine wp_value (v := .pointer (some ⟨w.heap.size, 0, none⟩)) (w' := w.alloc (.cells z.cells t)) ?_ (hn _ _ h)
      simp only [execOp, ho]
      refine run_v ?_
      simp only [Instr.alloc, zeroValue, Sem.run_bind, run_typeInfo hi, Result.andThen_ok, hz', Sem.run_pure, newVar, newRow, newObj, Sem.run]
      rfl
    · exact h.elim
  · rename_i t x ho
    refine wp_value (v := .pointer (some ⟨w.heap.size, 0, none⟩)) (w' := w.alloc (.cells (e.ev x).cells t)) ?_ (hn _ _ h)
    simp only [execOp, ho, he]
    refine run_v ?_
    simp only [Instr.box, newVar, newRow, newObj, Sem.run_bind, Sem.run, Result.andThen_ok, Sem.run_pure]
    rfl
  · rename_i t ad x ho
    split at h
    · rename_i b o' had
      split at h
      · rename_i n hk
        split at h
        · rename_i cs hx
          obtain ⟨hs, h1, ⟨c, ty, hb, hle⟩, h⟩ := h
          obtain ⟨hh, hn'⟩ := kd1_agg hk
          have hu : ∃ d, P.underlying t = some d := by rcases hh with ⟨_, h⟩ | ⟨_, _, h⟩ <;> exact ⟨_, h⟩
          obtain ⟨d, hu⟩ := hu
          refine wp_skip' (w' := w.putRow b o' cs) ?_ (hn _ _ h)
          simp only [execOp, ho, he, had, hx]
          refine run_u ?_
          have hst := run_storeCells b P cs.toList o' 0 w h1 ⟨c, ty, hb, by simpa [hs] using hle⟩
          simp only [Instr.storeAt, Sem.run_bind, sureAddr_run, Result.andThen_ok, storeVar, run_sizeOf hu, Value.cells, hs, hn', ne_eq, not_true_eq_false, if_false, Sem.run_pure]
          simpa using hst
        · exact h.elim
      · exact h.elim
      · rename_i hk1 hk2
        cases hsz : Nat.beq (P.cellsOf t) 1
        · rw [hsz] at h; exact h.elim
        · rw [hsz] at h
          obtain ⟨h1, ⟨u, hu⟩, hf, h⟩ := h
          have hc : P.cellsOf t = 1 := Nat.eq_of_beq_eq_true hsz
          obtain ⟨d, hd⟩ := kd1_some (P := P) (t := t) (fun hb => hk2 hb)
          refine wp_skip' (w' := w.setCell ⟨b, o', none⟩ (e.ev x)) ?_ (hn _ _ h)
          simp only [execOp, ho, he, had]
          refine run_u ?_
          have hcells : (e.ev x).cells = #[e.ev x] := by
            cases hx : e.ev x <;> first | rfl | (rw [hx] at h1; cases h1)
          simp only [Instr.storeAt, Sem.run_bind, sureAddr_run, Result.andThen_ok, storeVar, run_sizeOf hd, hcells, hc, List.size_toArray, List.length_cons, List.length_nil, Nat.zero_add, ne_eq, not_true_eq_false, if_false, Sem.run_pure]
          have hst : (store ⟨b, o', none⟩ (e.ev x)).run P w = .ok () (w.setCell ⟨b, o', none⟩ (e.ev x)) := by
            unfold store
            cases hx : e.ev x <;> first | (rw [hx] at h1; cases h1; done) | (simp [Sem.run, hu, hf])
          simp only [storeCells, addr_add, Nat.add_zero, Sem.run_bind, hst, Result.andThen_ok, Sem.run_pure]
    · exact h.elim
  · rename_i t len parts ho
    obtain ⟨v, w', hv, p, l, c, rfl, h⟩ := h
    exact wp_value (by simp only [execOp, ho, he, map_parts]; exact run_v hv) (hn _ _ h)
  · rename_i t l c ho
    obtain ⟨v, w', hv, p, l, c, rfl, h⟩ := h
    exact wp_value (by simp only [execOp, ho, he]; exact run_v hv) (hn _ _ h)
  · rename_i t r ho
    obtain ⟨v, w', hv, m, rfl, h⟩ := h
    exact wp_value (by simp only [execOp, ho, he]; exact run_v hv) (hn _ _ h)
  · rename_i t m k x ho
    obtain ⟨w', hv, h⟩ := h
    exact wp_skip' (by simp only [execOp, ho, he]; exact run_u hv) (hn _ _ h)
  · rename_i t m k x ho
    obtain ⟨w', hv, h⟩ := h
    exact wp_skip' (by simp only [execOp, ho, he]; exact run_u hv) (hn _ _ h)
  · rename_i t m k ho
    obtain ⟨v, w', hv, h⟩ := h
    exact wp_value (by simp only [execOp, ho, he]; exact run_v hv) (hn _ _ h)
  · rename_i t m st x ho
    obtain ⟨w', hv, h⟩ := h
    exact wp_skip' (by simp only [execOp, ho, he]; exact run_u hv) (hn _ _ h)
  · rename_i t x ho
    obtain ⟨v, w', hv, b, o', rfl, h⟩ := h
    exact wp_value (by simp only [execOp, ho, he]; exact run_v hv) (hn _ _ h)
  · rename_i it st ho
    obtain ⟨v, w', hv, h⟩ := h
    refine wp_value (v := v) (w' := w') (by simp only [execOp, ho, he]; exact run_v hv) ?_
    rcases h with ⟨k, x, rfl, h⟩ | ⟨rfl, h⟩ <;> exact hn _ _ h
  · rename_i src dst x ho
    split at h
    · obtain ⟨v, w', hv, p, l, c, rfl, h⟩ := h
      exact wp_value (by simp only [execOp, ho, he]; exact run_v hv) (hn _ _ h)
    · exact wp_quiet he h hn
  · rename_i c ho
    exact denCall_of ho he h hn
  · exact wp_quiet he h hn
end sound2

/-! ### lists of operations, regions -/
def simpleB : BinOp → Bool
  | .quo | .rem | .shl | .shr => false
  | _ => true
def isK : Operand → Bool
  | .const _ => true
  | _ => false
/-- may the operation be reckoned ahead of its guard? -/
def pureOp (P : Program) : Op → Bool
  | .move _ | .assign _ => true
  | .binOp op t _ y _ => match kd1 P t with
    | .int _ => simpleB op
    | .bool => simpleB op
    | .ptr => isK y
    | .slice => isK y
    | _ => false
  | .unOp op _ _ => match op with
    | .not => true
    | _ => false
  | .convert src dst _ => match kd1 P src, kd1 P dst with
    | .int _, .int _ => true
    | _, _ => false
  | _ => false
def flatPure (P : Program) (ops : List Oper) (j : Nat) : Bool :=
  (match ops[j]? with
    | some o => o.guard.isNone
    | none => false) &&
  ops.all fun o => match o.guard with
    | none => true
    | some (i, _) => cond (Nat.beq i j) (pureOp P o.op) (match ops[i]? with
      | some t => match t.guard with
        | some (i', _) => !(Nat.beq i' j)
        | none => true
      | none => true)
def fetG (e : Env) (b want : Bool) (x : Operand) (K : Value → Prop) : Prop := match e.sv x with
  | .val v => K v
  | .gd g w v => cond (w == want) (Req (g = b) (K v)) False
def pureG (P : Program) (o : Oper) (e : Env) (C : World → Prop) (b want : Bool) (K : Value → Prop) : Prop := match o.op with
  | .move x => fetG e b want x K
  | .assign x => fetG e b want x K
  | .binOp op t x y _ => fetG e b want x fun u => fetG e b want y fun v => denBin P op t x y C K u v
  | .unOp .not _ x => fetG e b want x fun u => match u with
    | .bool t => K (.bool (!t))
    | _ => False
  | .convert src dst x => fetG e b want x fun u => match P.underlying src, P.underlying dst, u with
    | some (.int _), some (.int k'), .int _ n => K (.int k' (k'.wrap n))
    | _, _, _ => False
  | _ => False

def gd (P : Program) (ops : Array Oper) (o : Oper) (e : Env) (C : World → Prop) (yes no : Env → Prop) (pur : SV → Prop) : Prop :=
  match o.guard with
  | none => yes e
  | some (j, want) => match (ops.toList[j]?).bind (·.dst) with
    | none => no e
    | some d => match e.t d with
      | .val (.bool b) => cond (flatPure P ops.toList j)
        (pureG P o e C b want fun v => pur (.gd b want v))
        (Cb b (cond want (yes (e.put (some d) (.bool true))) (no (e.put (some d) (.bool true)))) (cond want (no (e.put (some d) (.bool false))) (yes (e.put (some d) (.bool false)))))
      | .val _ => no e
      | .gd _ _ _ => False

def denOps (P : Program) (A : Ann) (n : Nat) (ops : Array Oper) (K : Env → World → Prop) : List Oper → Env → World → Prop
  | [], e, w => K e w
  | o :: rest, e, w => cond (dstOk n o.dst)
    (gd P ops o e (At w)
      (fun e => match o.op with
        | .defer c => match c.callee with
          | .value f => match e.ev f with
            | .func fn fi ca => denOps P A n ops K rest ((⟨e.t, { target := .fn fn ca, args := (fi.toList ++ c.args.toList.map e.ev).toArray } :: e.d⟩ : Env).put o.dst undef) w
            | _ => False
          | _ => False
        | _ => denL P A o e w fun v w' => denOps P A n ops K rest (e.put o.dst v) w')
      (fun e => denOps P A n ops K rest (e.put o.dst undef) w)
      (fun v => denOps P A n ops K rest (e.puts o.dst v) w))
    False

/-- calls that change nothing, besides the quiet ones -/
def denQC (P : Program) (A : Ann) (o : Oper) (e : Env) (C : World → Prop) (K : Value → Prop) : Prop :=
  match o.op with
  | .call { callee := .value f, args, argTypes := _ } => match e.ev f with
    | .func (.func g) fi ca => cond (okCall P g) (CallQ P g (fi.toList ++ args.toList.map e.ev ++ ca.toList).toArray C fun v => opn (A.callNl o.dst) (kd P o.type) v K) False
    | _ => False
  | _ => denQ P A o e C K

def denSC (P : Program) (A : Ann) (o : Oper) (e : Env) (w : World) (K : Value → Prop) : Prop :=
  match o.op with
  | .call { callee := .value f, args, argTypes := _ } => match e.ev f with
    | .func (.func g) fi ca => cond (okCall P g) (CallS P g (fi.toList ++ args.toList.map e.ev ++ ca.toList).toArray w fun v => opn (A.callNl o.dst) (kd P o.type) v K) False
    | _ => False
  | _ => denQ P A o e (At w) K

/-- operations that leave the world alone but for draws -/
def denQs (P : Program) (A : Ann) (n : Nat) (ops : Array Oper) (w : World) (K : Env → Prop) : List Oper → Env → Prop
  | [], e => K e
  | o :: rest, e => cond (dstOk n o.dst)
    (gd P ops o e (At w) (fun e => denQC P A o e (At w) fun v => denQs P A n ops w K rest (e.put o.dst v)) (fun e => denQs P A n ops w K rest (e.put o.dst undef)) (fun v => denQs P A n ops w K rest (e.puts o.dst v))) False
def denSs (P : Program) (A : Ann) (n : Nat) (ops : Array Oper) (w : World) (K : Env → Prop) : List Oper → Env → Prop
  | [], e => K e
  | o :: rest, e => cond (dstOk n o.dst)
    (gd P ops o e (At w) (fun e => denSC P A o e w fun v => denSs P A n ops w K rest (e.put o.dst v)) (fun e => denSs P A n ops w K rest (e.put o.dst undef)) (fun v => denSs P A n ops w K rest (e.puts o.dst v))) False

def loudOp : Op → Bool
  | .alloc _ | .box _ _ | .store _ _ _ | .buildSlice _ _ _ | .makeSlice _ _ _ | .makeMap _ _ | .mapUpdate _ _ _ _ | .insert _ _ _ _ | .mapEntry _ _ _ | .entryStore _ _ _ _ | .range _ _ | .next _ _ => true
  | .call { callee := .builtin .append, .. } | .call { callee := .builtin .copy, .. } | .call { callee := .builtin .delete, .. } | .call { callee := .builtin .clear, .. } | .call { callee := .value _, .. } => true
  | _ => false
def quietable : Op → Bool
  | .call { callee := .value _, .. } => true
  | op => !loudOp op
def tailAt : List Oper → Nat → Nat
  | [], i => i
  | o :: r, i => cond (loudOp o.op) i (tailAt r (i + 1))
def tailAt2 : List Oper → Nat → Nat
  | [], i => i
  | o :: r, i => cond (quietable o.op) (tailAt2 r (i + 1)) i

def isDef' : Op → Bool
  | .defer _ => true
  | _ => false
/-- may the operation be taken first? -/
def takeB (ops : Array Oper) (listed : Array Bool) (i : Nat) : Bool := match ops.toList[i]? with
  | some o => !loudOp o.op && Region.free .any ops listed i
  | none => false
def allOf : List Nat → (Nat → Prop) → Prop
  | [], _ => True
  | [i], f => f i
  | i :: j :: r, f => f i ∧ allOf (j :: r) f
/-- does the operation leave the world alone? -/
def quietB (ops : Array Oper) (i : Nat) : Bool := match ops.toList[i]? with
  | some o => !loudOp o.op
  | none => false
def bindB (i : Nat) (e : Edge) : Bool := Region.binds .any e && Nat.beq e.on i
def unboundB (i : Nat) : List Oper → List Bool → Nat → Bool
  | [], _, _ => false
  | o :: r, l, j => (loudOp o.op && !(Nat.beq j i) && !(l.headD false) && !(o.after.toList.any (bindB i))) || unboundB i r l.tail (j + 1)
/-- does all that may change the world wait for operation i? -/
def boundB (ops : Array Oper) (listed : Array Bool) (i : Nat) : Bool := !(unboundB i ops.toList listed.toList 0)
def waitsAll (o : Oper) (j : Nat) : Nat → Bool
  | 0 => true
  | k + 1 => (Nat.beq k j || o.after.toList.any (bindB k)) && waitsAll o j k
/-- does the operation wait for all others? -/
def lastB (ops : Array Oper) (j : Nat) : Bool := match ops.toList[j]? with
  | some o => waitsAll o j ops.size
  | none => false
/-- a region whose order is open: what leaves the world alone is taken first; of the rest whatever may come up -/
def denH (P : Program) (A : Ann) (n : Nat) (ops : Array Oper) (S : World → Prop) (K : Env → World → Prop) : Nat → Array Bool → Env → World → Prop
  | 0, listed, e, w => match Region.ready .any ops listed with
    | [] => K e w
    | _ :: _ => False
  | f + 1, listed, e, w => match Region.ready .any ops listed with
    | [] => K e w
    | i :: rs => match (i :: rs).find? (takeB ops listed) with
      | some j => match ops.toList[j]? with
        | some o => cond (dstOk n o.dst)
          (gd P ops o e (cond (boundB ops listed j) (At w) S) (fun e => denQ P A o e (cond (boundB ops listed j) (At w) S) fun v => denH P A n ops S K f (listed.setIfInBounds j true) (e.put o.dst v) w)
            (fun e => denH P A n ops S K f (listed.setIfInBounds j true) (e.put o.dst undef) w) (fun v => denH P A n ops S K f (listed.setIfInBounds j true) (e.puts o.dst v) w)) False
        | none => False
      | none => allOf (i :: rs) fun j => match ops.toList[j]? with
        | some o => cond (dstOk n o.dst && !isDef' o.op)
          (gd P ops o e (At w) (fun e => cond (loudOp o.op) (denL P A o e w fun v w' => cond (A.nilable 300000 && lastB ops j) (match Region.ready .any ops (listed.setIfInBounds j true) with
                | [] => K (e.put o.dst v) w'
                | _ :: _ => False) (Hld (S w') (denH P A n ops S K f (listed.setIfInBounds j true) (e.put o.dst v) w')))
              (denQ P A o e (At w) fun v => Hld (S w) (denH P A n ops S K f (listed.setIfInBounds j true) (e.put o.dst v) w)))
            (fun e => Hld (S w) (denH P A n ops S K f (listed.setIfInBounds j true) (e.put o.dst undef) w)) (fun v => Hld (S w) (denH P A n ops S K f (listed.setIfInBounds j true) (e.puts o.dst v) w))) False
        | none => False

/-- a call that is marked as one that makes memory -/
def marked (A : Ann) (o : Oper) : Bool := A.nl o.dst && quietable o.op && loudOp o.op
/-- a call whose region's draws are to be counted (the mark: function 0) -/
def counted (A : Ann) (o : Oper) : Bool := match A.fn o.dst with
  | some 0 => true
  | _ => false
def denDraw (P : Program) (A : Ann) (n : Nat) (ops : Array Oper) (K : Env → World → Prop) (e : Env) (w : World) : Prop :=
  cond (ops.toList.any (marked A))
    (cond (Region.noSelect ops)
      (cond (ops.toList.any (counted A)) (HeldD w fun S w => denH P A n ops S K ops.size (Array.replicate ops.size false) e w)
        (HeldR w fun S w => denH P A n ops S K ops.size (Array.replicate ops.size false) e w))
      False)
  (cond (ops.toList.all (fun o => quietable o.op) && Region.lexB .any ops)
    (denQs P A n ops w (fun e => Drw w fun w => K e w) ops.toList e)
    (cond (Region.lexTailB .any ops (tailAt ops.toList 0))
      (Dr1 w fun w => denSs P A n ops w (fun e => denOps P A n ops K (ops.toList.drop (tailAt ops.toList 0)) e w) (ops.toList.take (tailAt ops.toList 0)) e)
      (cond (Region.lexTailB .any ops (tailAt2 ops.toList 0))
        (Dr1 w fun w => denSs P A n ops w (fun e => denOps P A n ops K (ops.toList.drop (tailAt2 ops.toList 0)) e w) (ops.toList.take (tailAt2 ops.toList 0)) e)
        (cond (Region.noSelect ops)
          (HeldR w fun S w => denH P A n ops S K ops.size (Array.replicate ops.size false) e w)
          False))))

def isDef : Op → Bool
  | .defer _ => true
  | _ => false
/-- e' is e but for the slots that the operations write -/
structure Off (L : List Oper) (e e' : Env) : Prop where
  t : ∀ i, (∀ o ∈ L, o.dst ≠ some i) → e'.t i = e.t i
  d : (∀ o ∈ L, isDef o.op = false) → e'.d = e.d
theorem Off.refl (L : List Oper) (e : Env) : Off L e e := ⟨fun _ _ => rfl, fun _ => rfl⟩
theorem puts_ne {e : Env} {d : Option Tmp} {v : SV} {i : Nat} (h : d ≠ some i) : (e.puts d v).t i = e.t i := by
  cases d with
  | none => rfl
  | some d =>
    have hb : Nat.beq i d = false := Bool.eq_false_iff.2 fun hb => h (by rw [Nat.eq_of_beq_eq_true hb])
    simp [Env.puts, hb]
theorem puts_d {e : Env} {d : Option Tmp} {v : SV} : (e.puts d v).d = e.d := by cases d <;> rfl
theorem Off.puts {L : List Oper} {e e' : Env} (h : Off L e e') {o : Oper} (ho : o ∈ L) (v : SV) : Off L e (e'.puts o.dst v) :=
  ⟨fun i hi => (puts_ne (hi o ho)).trans (h.t i hi), fun hd => puts_d.trans (h.d hd)⟩
theorem Off.put {L : List Oper} {e e' : Env} (h : Off L e e') {o : Oper} (ho : o ∈ L) (v : Value) : Off L e (e'.put o.dst v) := h.puts ho (.val v)
theorem Off.trans {L L' : List Oper} {e e' e'' : Env} (h : Off L e e') (h' : Off L' e' e'') (hs : ∀ o ∈ L', o ∈ L) : Off L e e'' :=
  ⟨fun i hi => (h'.t i fun o ho => hi o (hs o ho)).trans (h.t i hi), fun hd => (h'.d fun o ho => hd o (hs o ho)).trans (h.d hd)⟩

section sound3
variable {P : Program} {A : Ann} {n : Nat}

theorem env_ext {e e' : Env} (h : ∀ i, e.t i = e'.t i) (hd : e.d = e'.d) : e = e' := by
  cases e; cases e'; simp only at h hd; subst hd; congr; exact funext h
theorem put_same {e : Env} {d : Tmp} {v : Value} (h : e.t d = .val v) : e.put (some d) v = e := by
  refine env_ext (fun i => ?_) rfl
  by_cases hi : i = d
  · subst hi; simp [Env.put, Env.puts, h]
  · exact puts_ne (by simp; exact fun h => hi h.symm)
theorem ev_sv (e : Env) (x : Operand) : e.ev x = (e.sv x).v := by cases x <;> rfl
theorem fetG_of {e : Env} {b want : Bool} {x : Operand} {K : Value → Prop} (h : fetG e b want x K) (hb : b = want) : K (e.ev x) := by
  unfold fetG at h
  rw [ev_sv]
  split at h
  · rename_i v hv; rw [hv]; exact h
  · rename_i g w v hv
    rw [hv]
    cases w <;> cases want <;> first
      | exact h.elim
      | (obtain ⟨rfl, h⟩ := h; subst hb; exact h)
theorem fetG_ex {e : Env} {b want : Bool} {x : Operand} {K : Value → Prop} (h : fetG e b want x K) : ∃ v, K v ∧ (b = want → v = e.ev x) := by
  unfold fetG at h
  split at h
  · rename_i v hv; exact ⟨v, h, fun _ => by rw [ev_sv, hv]; rfl⟩
  · rename_i g w v hv
    cases hw : (w == want)
    · rw [hw] at h; exact h.elim
    · rw [hw] at h
      obtain ⟨rfl, h⟩ := h
      refine ⟨v, h, fun hb => ?_⟩
      rw [ev_sv, hv]
      have : w = want := by simpa using hw
      subst this; subst hb
      cases g <;> rfl
theorem pureG_of {o : Oper} {e : Env} {C : World → Prop} {b want : Bool} {K : Value → Prop} (h : pureG P o e C b want K) : ∃ v, K v ∧ (b = want → QRun P (execOp e.ev o) C v) := by
  unfold pureG at h
  split at h
  · rename_i x ho
    obtain ⟨v, h, hv⟩ := fetG_ex h
    exact ⟨v, h, fun hb w hw => by rw [hv hb]; simp [execOp, ho, Sem.run_pure]⟩
  · rename_i x ho
    obtain ⟨v, h, hv⟩ := fetG_ex h
    exact ⟨v, h, fun hb w hw => by rw [hv hb]; simp [execOp, ho, Sem.run_pure]⟩
  · rename_i op t x y z ho
    obtain ⟨u, h, hu⟩ := fetG_ex h
    obtain ⟨v, h, hv⟩ := fetG_ex h
    obtain ⟨r, hr, h⟩ := denBin_of h
    refine ⟨r, h, fun hb => ?_⟩
    rw [hu hb, hv hb] at hr
    simp only [execOp, ho]
    exact QRun.of hr
  · rename_i t x ho
    obtain ⟨u, h, hu⟩ := fetG_ex h
    split at h
    · rename_i r
      refine ⟨_, h, fun hb => ?_⟩
      simp only [execOp, ho, ← hu hb]
      exact QRun.of fun w hw => by simp [Op.unary, Sem.run_pure]
    · exact h.elim
  · rename_i src dst x ho
    obtain ⟨u, h, hu⟩ := fetG_ex h
    split at h
    · rename_i k k' q n hs hd
      refine ⟨_, h, fun hb => ?_⟩
      simp only [execOp, ho, ← hu hb]
      exact QRun.of fun w hw => by simp [convert, Sem.run_bind, run_dr_underlying hs, run_dr_underlying hd, Conv.intToInt, Sem.run_pure]
    · exact h.elim
  · exact h.elim

theorem gd_of {ops : Array Oper} {o : Oper} {e : Env} {a : Act} {C : World → Prop} (hr : Rel n e a) {yes no : Env → Prop} {pur : SV → Prop} (h : gd P ops o e C yes no pur) :
    (Region.wanted o (yielded ops a.tmps) = true ∧ yes e) ∨ (Region.wanted o (yielded ops a.tmps) = false ∧ no e) ∨
    ∃ g want v, pur (.gd g want v) ∧ Region.wanted o (yielded ops a.tmps) = (g == want) ∧ (g = want → QRun P (execOp e.ev o) C v) := by
  unfold gd at h
  unfold Region.wanted
  cases hg : o.guard with
  | none => simp only [hg] at h; exact .inl ⟨rfl, h⟩
  | some jw =>
    obtain ⟨j, want⟩ := jw
    simp only [hg] at h ⊢
    unfold yielded
    have hops : ops.toList[j]? = ops[j]? := by simp
    rw [hops] at h
    cases hd : (ops[j]?).bind (·.dst) with
    | none => simp only [hd, Option.bind_none] at h ⊢; exact .inr (.inl ⟨rfl, h⟩)
    | some d =>
      simp only [hd, Option.bind_some] at h ⊢
      have ht := hr.t d
      rw [Array.getD_eq_getD_getElem?] at ht
      split at h
      · rename_i b hb
        rw [hb] at ht
        have hx : a.tmps[d]? = some (.bool b) := by
          cases hx : a.tmps[d]? with
          | none => rw [hx] at ht; simp only [Option.getD_none] at ht; exact absurd ht (by simp [undef, SV.v])
          | some v => rw [hx] at ht; simp only [Option.getD_some] at ht; rw [ht]; rfl
        rw [hx]
        cases hf : flatPure P ops.toList j
        · rw [hf] at h
          cases b
          · have h : cond want (no (e.put (some d) (.bool false))) (yes (e.put (some d) (.bool false))) := h
            rw [put_same hb] at h
            cases want
            · exact .inl ⟨rfl, h⟩
            · exact .inr (.inl ⟨rfl, h⟩)
          · have h : cond want (yes (e.put (some d) (.bool true))) (no (e.put (some d) (.bool true))) := h
            rw [put_same hb] at h
            cases want
            · exact .inr (.inl ⟨rfl, h⟩)
            · exact .inl ⟨rfl, h⟩
        · rw [hf] at h
          obtain ⟨v, h, hv⟩ := pureG_of h
          exact .inr (.inr ⟨b, want, v, h, by cases b <;> cases want <;> rfl, hv⟩)
      · rename_i v hb hv
        refine .inr (.inl ⟨?_, h⟩)
        rw [hv] at ht
        cases hx : a.tmps[d]? with
        | none => rfl
        | some u =>
          rw [hx] at ht
          simp only [Option.getD_some, SV.v] at ht
          subst ht
          cases u <;> first | rfl | (exact (hb _ rfl).elim)
      · exact h.elim

theorem denOps_of {ops : Array Oper} {K : Env → World → Prop} {Q : Exit → Act → World → Prop} {L : List Oper} {e0 : Env} (hQ : ∀ e a w, Rel n e a → Off L e0 e → K e w → Q .normal a w) :
    ∀ (l : List Oper) (e : Env) (a : Act) (w : World), (∀ o ∈ l, o ∈ L) → Off L e0 e → Rel n e a → denOps P A n ops K l e w → wpList P ops Q l a w
  | [], e, a, w, _, hof, hr, h => hQ e a w hr hof h
  | o :: rest, e, a, w, hs, hof, hr, h => by
    have ho' := hs o (List.mem_cons_self ..)
    have hs' : ∀ o ∈ rest, o ∈ L := fun x hx => hs x (List.mem_cons_of_mem _ hx)
    unfold denOps at h
    cases hd : dstOk n o.dst
    · rw [hd] at h; exact h.elim
    · rw [hd] at h
      simp only [cond_true] at h
      refine wpList_step fun Kn hKn => ?_
      rcases gd_of hr h with ⟨hw, h⟩ | ⟨hw, h⟩ | ⟨g, want, v, h, hw, hv⟩
      · rw [hw]
        simp only [if_true]
        split at h
        · rename_i c ho
          split at h
          · rename_i f hc
            split at h
            · rename_i fn fi ca hf
              unfold Oper.wp
              have hrun : (execOp a.eval o).run P w = .ok (.defer { target := .fn fn ca, args := (fi.toList ++ c.args.toList.map e.ev).toArray }) w := by
                simp only [execOp, ho, hr.evf, resolve, hc, hf, Deferred.ofValue, Sem.run_bind, Sem.run_pure, Result.andThen_ok]
                congr 3
                apply Array.ext'
                simp
              rw [hrun]
              refine hKn _ _ (denOps_of hQ rest _ _ w hs' ?_ ?_ h)
              · exact Off.put (e' := ⟨e.t, _ :: e.d⟩) ⟨hof.t, fun hd => by have := hd o ho'; rw [ho] at this; cases this⟩ ho' undef
              · exact Rel.put (e := ⟨e.t, _ :: e.d⟩) (a := { a with defers := _ :: a.defers }) ⟨hr.size, hr.t, by simp [hr.d]⟩ hd undef
            · exact h.elim
          · exact h.elim
        · exact denL_of hr.evf h fun v w' h => hKn _ _ (denOps_of hQ rest _ _ w' hs' (hof.put ho' v) (hr.put hd v) h)
      · rw [hw]
        simp only [Bool.false_eq_true, if_false]
        exact hKn _ _ (denOps_of hQ rest _ _ w hs' (hof.put ho' undef) (hr.put hd undef) h)
      · rw [hw]
        have hp := hr.puts hd (.gd g want v)
        cases hgw : (g == want)
        · simp only [Bool.false_eq_true, if_false]
          have hu : (SV.gd g want v).v = undef := by simp only [SV.v, hgw, cond_false]
          rw [hu] at hp
          exact hKn _ _ (denOps_of hQ rest _ _ w hs' (hof.puts ho' _) hp h)
        · simp only [if_true]
          have hu : (SV.gd g want v).v = v := by simp only [SV.v, hgw, cond_true]
          rw [hu] at hp
          have hq := hv (by simpa using hgw) w ⟨w.drawn, rfl⟩
          exact wp_value (by rw [hr.evf]; exact hq) (hKn _ _ (denOps_of hQ rest _ _ w hs' (hof.puts ho' _) hp h))

theorem run_callG {o : Oper} {f : Operand} {args : Array Operand} {ts : Array TypeId} {e : Env} {g : FuncId} {fi ca : Array Value} (ho : o.op = .call { callee := .value f, args := args, argTypes := ts })
    (hf : e.ev f = .func (.func g) fi ca) (w : World) : (execOp e.ev o).run P w = (callFunc g (fi.toList ++ args.toList.map e.ev ++ ca.toList).toArray).run P w := by
  simp only [execOp, ho, resolve, hf, Deferred.ofValue, Sem.run_bind, Sem.run_pure, Result.andThen_ok, invoke]
  congr 2
  apply Array.ext'
  simp

theorem denQC_quiet {o : Oper} {e : Env} {a : Act} {C : World → Prop} {K : Value → Prop} {next : Act → Prop} (hr : a.eval = e.ev) (h : denQC P A o e C K) (hn : ∀ v, K v → next (a.put o.dst v)) :
    o.quiet P a C next := by
  have plain : denQ P A o e C K → o.quiet P a C next := fun h => by
    obtain ⟨v, hv, h⟩ := denQ_of h
    refine ⟨v, fun w' hw' => ?_, hn v h⟩
    unfold Oper.quietAt
    rw [hr, hv w' hw']
    exact ⟨rfl, rfl⟩
  unfold denQC at h
  split at h
  · rename_i f args ts ho
    split at h
    · rename_i g fi ca hf
      cases hk : okCall P g
      · rw [hk] at h; exact h.elim
      · rw [hk] at h
        obtain ⟨v, hv, h⟩ := h
        refine ⟨v, fun w' hw' => ?_, hn v (opn_of h)⟩
        unfold Oper.quietAt
        rw [hr, run_callG ho hf, okCall_run hk]
        exact ⟨rfl, Calls.mono (hv w' hw') fun e w'' ⟨he, hd⟩ => ⟨he, hd⟩⟩
    · exact h.elim
  · exact plain h

theorem denSC_still {o : Oper} {e : Env} {a : Act} {w : World} {K : Value → Prop} {next : Act → Prop} (hr : a.eval = e.ev) (h : denSC P A o e w K) (hn : ∀ v, K v → next (a.put o.dst v)) :
    o.still P a w next := by
  have plain : denQ P A o e (At w) K → o.still P a w next := fun h => by
    obtain ⟨v, hv, h⟩ := denQ_of h
    unfold Oper.still
    rw [hr, hv w ⟨w.drawn, rfl⟩]
    exact ⟨rfl, hn v h⟩
  unfold denSC at h
  split at h
  · rename_i f args ts ho
    split at h
    · rename_i g fi ca hf
      cases hk : okCall P g
      · rw [hk] at h; exact h.elim
      · rw [hk] at h
        obtain ⟨v, hv, h⟩ := h
        unfold Oper.still
        rw [hr, run_callG ho hf, okCall_run hk]
        exact ⟨rfl, v, hv, hn v (opn_of h)⟩
    · exact h.elim
  · exact plain h

theorem denQs_of {ops : Array Oper} {w : World} {K : Env → Prop} {K' : Act → Prop} {L : List Oper} {e0 : Env} (hK : ∀ e a, Rel n e a → Off L e0 e → K e → K' a) :
    ∀ (l : List Oper) (e : Env) (a : Act), (∀ o ∈ l, o ∈ L) → Off L e0 e → Rel n e a → denQs P A n ops w K l e → wpQuiet P ops (At w) K' l a
  | [], e, a, _, hof, hr, h => hK e a hr hof h
  | o :: rest, e, a, hs, hof, hr, h => by
    have ho' := hs o (List.mem_cons_self ..)
    have hs' : ∀ o ∈ rest, o ∈ L := fun x hx => hs x (List.mem_cons_of_mem _ hx)
    unfold denQs at h
    cases hd : dstOk n o.dst
    · rw [hd] at h; exact h.elim
    · rw [hd] at h
      simp only [cond_true] at h
      unfold wpQuiet
      rcases gd_of hr h with ⟨hw, h⟩ | ⟨hw, h⟩ | ⟨g, want, v, h, hw, hv⟩
      · rw [hw]; simp only [if_true]
        exact denQC_quiet hr.evf h fun v h => denQs_of hK rest _ _ hs' (hof.put ho' v) (hr.put hd v) h
      · rw [hw]; simp only [Bool.false_eq_true, if_false]
        exact denQs_of hK rest _ _ hs' (hof.put ho' undef) (hr.put hd undef) h
      · rw [hw]
        have hp := hr.puts hd (.gd g want v)
        cases hgw : (g == want)
        · simp only [Bool.false_eq_true, if_false]
          have hu : (SV.gd g want v).v = undef := by simp only [SV.v, hgw, cond_false]
          rw [hu] at hp
          exact denQs_of hK rest _ _ hs' (hof.puts ho' _) hp h
        · simp only [if_true]
          have hu : (SV.gd g want v).v = v := by simp only [SV.v, hgw, cond_true]
          rw [hu] at hp
          refine ⟨v, fun w' hw' => ?_, denQs_of hK rest _ _ hs' (hof.puts ho' _) hp h⟩
          unfold Oper.quietAt
          rw [hr.evf, hv (by simpa using hgw) w' hw']
          exact ⟨rfl, rfl⟩

theorem denSs_of {ops : Array Oper} {w : World} {K : Env → Prop} {K' : Act → Prop} {L : List Oper} {e0 : Env} (hK : ∀ e a, Rel n e a → Off L e0 e → K e → K' a) :
    ∀ (l : List Oper) (e : Env) (a : Act), (∀ o ∈ l, o ∈ L) → Off L e0 e → Rel n e a → denSs P A n ops w K l e → wpStill P ops w K' l a
  | [], e, a, _, hof, hr, h => hK e a hr hof h
  | o :: rest, e, a, hs, hof, hr, h => by
    have ho' := hs o (List.mem_cons_self ..)
    have hs' : ∀ o ∈ rest, o ∈ L := fun x hx => hs x (List.mem_cons_of_mem _ hx)
    unfold denSs at h
    cases hd : dstOk n o.dst
    · rw [hd] at h; exact h.elim
    · rw [hd] at h
      simp only [cond_true] at h
      unfold wpStill
      rcases gd_of hr h with ⟨hw, h⟩ | ⟨hw, h⟩ | ⟨g, want, v, h, hw, hv⟩
      · rw [hw]; simp only [if_true]
        exact denSC_still hr.evf h fun v h => denSs_of hK rest _ _ hs' (hof.put ho' v) (hr.put hd v) h
      · rw [hw]; simp only [Bool.false_eq_true, if_false]
        exact denSs_of hK rest _ _ hs' (hof.put ho' undef) (hr.put hd undef) h
      · rw [hw]
        have hp := hr.puts hd (.gd g want v)
        cases hgw : (g == want)
        · simp only [Bool.false_eq_true, if_false]
          have hu : (SV.gd g want v).v = undef := by simp only [SV.v, hgw, cond_false]
          rw [hu] at hp
          exact denSs_of hK rest _ _ hs' (hof.puts ho' _) hp h
        · simp only [if_true]
          have hu : (SV.gd g want v).v = v := by simp only [SV.v, hgw, cond_true]
          rw [hu] at hp
          unfold Oper.still
          have hq := hv (by simpa using hgw) w ⟨w.drawn, rfl⟩
          rw [hr.evf, hq]
          exact ⟨rfl, denSs_of hK rest _ _ hs' (hof.puts ho' _) hp h⟩

theorem denTail_of {id : Nat} {ops : Array Oper} {K : Env → World → Prop} {Q : Exit → Act → World → Prop} {L : List Oper} {e0 : Env} (hm : P.follows .mixedOrders = true)
    (hQ : ∀ e a w, Rel n e a → Off L e0 e → K e w → Q .normal a w) (hs : ∀ o ∈ ops.toList, o ∈ L) {e : Env} {a : Act} {w : World} (hof : Off L e0 e) (hr : Rel n e a) (t : Nat) (hT : Region.lexTailB .any ops t = true)
    (h : Dr1 w fun w => denSs P A n ops w (fun e => denOps P A n ops K (ops.toList.drop t) e w) (ops.toList.take t) e) : (Code.region id ops true).wp P Q a w := by
  have h' := h (w.drawn + 1) (Nat.le_succ _)
  have key : wpStill P ops (w.dr (w.drawn + 1)) (fun a' => wpList P ops Q (ops.toList.drop t) a' (w.dr (w.drawn + 1))) (ops.toList.take t) a :=
    denSs_of (fun e a hr hof h => denOps_of hQ _ e a _ (fun o ho => hs o (List.mem_of_mem_drop ho)) hof hr h) _ e a (fun o ho => hs o (List.mem_of_mem_take ho)) hof hr h'
  have := wp_region_still_tail (P := P) (id := id) (Q := Q) (a := a) (w := w) (l := ops.toList) t hm (by simpa using hT) (by rw [Array.toArray_toList]; exact key)
  simpa using this

/-- Q, where nothing panics -/
def NoPan (Q : Exit → Act → World → Prop) : Exit → Act → World → Prop
  | .panic _, _, _ => False
  | x, a, w => Q x a w
theorem allOf_mem : ∀ {l : List Nat} {f : Nat → Prop}, allOf l f → ∀ i ∈ l, f i
  | [i], f, h, j, hj => by simp at hj; subst hj; exact h
  | i :: k :: r, f, h, j, hj => by
    rcases List.mem_cons.1 hj with rfl | hj
    · exact h.1
    · exact allOf_mem h.2 j hj

section G
variable {ops : Array Oper} {Q : Exit → Act → World → Prop} {md : Region.Mode} {S T : World → Prop}
/-- whatever order is picked from here on; what leaves the world alone does so, and S holds behind each operation -/
def wpAnyG (P : Program) (md : Region.Mode) (ops : Array Oper) (Q : Exit → Act → World → Prop) (S : World → Prop) : Nat → Array Bool → Act → World → Prop
  | 0, listed, a, w => Region.ready md ops listed = [] ∧ Q .normal a w
  | fuel + 1, listed, a, w =>
    (Region.ready md ops listed = [] → Q .normal a w) ∧
    ∀ i ∈ Region.ready md ops listed, wpOp P ops Q i (fun a' w' => (quietB ops i = true → w' = w) ∧ (lastB ops i = true ∨ S w') ∧ wpAnyG P md ops Q S fuel (listed.setIfInBounds i true) a' w') a w
theorem wpAny_of_G : ∀ (fuel : Nat) (listed : Array Bool) (a : Act) (w : World), wpAnyG P md ops Q S fuel listed a w → wpAny P md ops Q fuel listed a w
  | 0, _, _, _, h => h
  | fuel + 1, _, _, _, h => ⟨h.1, fun i hi => wpOp_mono (fun a' w' h' => wpAny_of_G fuel _ a' w' h'.2.2) (h.2 i hi)⟩
theorem wpAnyG_first {i : Nat} {oi : Oper} {v : Value} (hi : ops[i]? = some oi) (hsel : ∀ (j : Nat) (o : Oper) cs b, ops[j]? = some o → o.op ≠ .select cs b)
    (hQ : ∀ c a w, Q (.panic c) (a.put oi.dst v) w → Q (.panic c) a w) :
    ∀ (fuel : Nat) (listed : Array Bool) (a : Act) (w : World),
      (∀ j oj, ops[j]? = some oj → j ≠ i → listed.getD j true = false → (∀ e ∈ oj.after, Region.binds md e = true → e.on ≠ i) → oi.apart ops oj = true) →
      ((∀ w, S w → T w) ∨ ∀ j oj, ops[j]? = some oj → j ≠ i → listed.getD j true = false → quietB ops j = false → ∃ e ∈ oj.after, Region.binds md e = true ∧ e.on = i) →
      (∀ j oj, ops[j]? = some oj → j ≠ i → lastB ops j = true → ∃ e ∈ oj.after, Region.binds md e = true ∧ e.on = i) →
      i ∈ Region.ready md ops listed → YieldsIf P ops T oi v a → S w → T w →
      wpAnyG P md ops Q S fuel (listed.setIfInBounds i true) (a.put oi.dst v) w → wpAnyG P md ops Q S (fuel + 1) listed a w := by
  intro fuel
  induction fuel with
  | zero =>
    intro listed a w _ _ _ hr hy hS hT H
    refine ⟨fun h => (by rw [h] at hr; cases hr), fun j hj => ?_⟩
    by_cases hji : j = i
    · subst hji; exact hy.wpOp hi hT ⟨fun _ => rfl, .inr hS, H⟩
    · have := ready_mono hj hji
      rw [H.1] at this
      cases this
  | succ fuel ih =>
    intro listed a w hfree hbd hlast hr hy hS hT H
    refine ⟨fun h => (by rw [h] at hr; cases hr), fun j hj => ?_⟩
    by_cases hji : j = i
    · subst hji; exact hy.wpOp hi hT ⟨fun _ => rfl, .inr hS, H⟩
    · have h1 := H.2 j (ready_mono hj hji)
      obtain ⟨hjun, oj, hoj, hall⟩ := mem_ready.1 hj
      have hnot : ∀ e ∈ oj.after, Region.binds md e = true → e.on ≠ i := fun e he hb heq => by
        have h1 := hall e he hb
        have h0 := (mem_ready.1 hr).1
        rw [heq] at h1
        rcases Nat.lt_or_ge i listed.size with h' | h'
        · simp [h'] at h0 h1; rw [h0] at h1; cases h1
        · simp [Array.getElem?_eq_none h'] at h1
      have h2 := wpOp_putIf hoj (hfree j oj hoj hji hjun hnot) (fun cs b => hsel i oi cs b hi) (fun cs b => hsel j oj cs b hoj) hQ hy h1
      have hun' : ∀ k, (listed.setIfInBounds j true).getD k true = false → listed.getD k true = false := fun k hun => by
        by_cases hjk : j = k
        · subst hjk; exact hjun
        · rw [getD_set_ne true hjk] at hun; exact hun
      have hfree' : ∀ k ok, ops[k]? = some ok → k ≠ i → (listed.setIfInBounds j true).getD k true = false →
          (∀ e ∈ ok.after, Region.binds md e = true → e.on ≠ i) → oi.apart ops ok = true := fun k ok hk hki hun hno => hfree k ok hk hki (hun' k hun) hno
      have hbd' : (∀ w, S w → T w) ∨ ∀ k ok, ops[k]? = some ok → k ≠ i → (listed.setIfInBounds j true).getD k true = false → quietB ops k = false → ∃ e ∈ ok.after, Region.binds md e = true ∧ e.on = i :=
        hbd.imp id fun h k ok hk hki hun hq => h k ok hk hki (hun' k hun) hq
      have hSw : ∀ w', (lastB ops j = true ∨ S w') → S w' := fun w' h => h.elim (fun hl => by
        obtain ⟨e, he, hb, heq⟩ := hlast j oj hoj hji hl
        exact absurd heq (hnot e he hb)) id
      refine wpOp_mono (fun a' w' h3 => ⟨h3.2.1, .inr (hSw _ h3.2.2.1), ih (listed.setIfInBounds j true) a' w' hfree' hbd' hlast (ready_mono hr (Ne.symm hji)) h3.1 (hSw _ h3.2.2.1) ?_ ?_⟩) h2
      · rcases hbd with hst | hbd
        · exact hst _ (hSw _ h3.2.2.1)
        · cases hq : quietB ops j
          · obtain ⟨e, he, hb, heq⟩ := hbd j oj hoj hji hjun hq
            exact absurd heq (hnot e he hb)
          · rw [h3.2.1 hq]; exact hT
      · rw [Array.setIfInBounds_comm _ _ hji]
        exact h3.2.2.2
theorem unboundB_spec {i : Nat} : ∀ (l : List Oper) (ls : List Bool) (k : Nat), unboundB i l ls k = false → ∀ j oj, l[j]? = some oj → k + j ≠ i → ls[j]? ≠ some true → loudOp oj.op = true → ∃ e ∈ oj.after, Region.binds .any e = true ∧ e.on = i
  | [], _, _, _, j, oj, h, _, _, _ => by simp at h
  | o :: r, ls, k, hu, j, oj, h, hk, hl, hq => by
    unfold unboundB at hu
    simp only [Bool.or_eq_false_iff] at hu
    obtain ⟨h1, h2⟩ := hu
    cases j with
    | zero =>
      simp only [List.getElem?_cons_zero, Option.some.injEq] at h
      subst h
      have hbk : Nat.beq k i = false := Bool.eq_false_iff.2 fun hb => hk (by simpa using Nat.eq_of_beq_eq_true hb)
      have hhd : ls.headD false = false := by
        cases ls with
        | nil => rfl
        | cons b ls => cases b <;> simp_all
      simp only [hq, hbk, hhd, Bool.not_false, Bool.true_and, Bool.and_true, Bool.not_eq_eq_eq_not] at h1
      obtain ⟨e, he, hb⟩ := List.any_eq_true.1 h1
      unfold bindB at hb
      simp only [Bool.and_eq_true] at hb
      exact ⟨e, by simpa using he, hb.1, Nat.eq_of_beq_eq_true hb.2⟩
    | succ j =>
      refine unboundB_spec r ls.tail (k + 1) h2 j oj (by simpa using h) (by omega) ?_ hq
      intro hh
      apply hl
      cases ls with
      | nil => simp at hh
      | cons b ls => simpa using hh
theorem boundB_spec {listed : Array Bool} {i : Nat} (h : boundB ops listed i = true) : ∀ j oj, ops[j]? = some oj → j ≠ i → listed.getD j true = false → quietB ops j = false → ∃ e ∈ oj.after, Region.binds .any e = true ∧ e.on = i := by
  intro j oj hj hji hun hq
  have h' : unboundB i ops.toList listed.toList 0 = false := by simpa [boundB] using h
  refine unboundB_spec _ _ 0 h' j oj (by simpa using hj) (by omega) ?_ ?_
  · intro hh
    have : listed[j]? = some true := by simpa using hh
    simp [Array.getD_eq_getD_getElem?, this] at hun
  · unfold quietB at hq
    rw [show ops.toList[j]? = some oj by simpa using hj] at hq
    simpa using hq
theorem waitsAll_spec {o : Oper} {j : Nat} : ∀ {n : Nat}, waitsAll o j n = true → ∀ i, i < n → i ≠ j → ∃ e ∈ o.after, Region.binds .any e = true ∧ e.on = i
  | 0, _, i, h, _ => absurd h (Nat.not_lt_zero _)
  | n + 1, hw, i, h, hij => by
    unfold waitsAll at hw
    simp only [Bool.and_eq_true, Bool.or_eq_true] at hw
    obtain ⟨h1, h2⟩ := hw
    rcases Nat.lt_succ_iff_lt_or_eq.1 h with h | h
    · exact waitsAll_spec h2 i h hij
    · subst h
      rcases h1 with h1 | h1
      · exact absurd (Nat.eq_of_beq_eq_true h1) hij
      · obtain ⟨e, he, hb⟩ := List.any_eq_true.1 h1
        unfold bindB at hb
        simp only [Bool.and_eq_true] at hb
        exact ⟨e, by simpa using he, hb.1, Nat.eq_of_beq_eq_true hb.2⟩
theorem lastB_spec {i : Nat} {oi : Oper} (hi : ops[i]? = some oi) : ∀ j oj, ops[j]? = some oj → j ≠ i → lastB ops j = true → ∃ e ∈ oj.after, Region.binds .any e = true ∧ e.on = i := by
  intro j oj hj hji hl
  unfold lastB at hl
  rw [show ops.toList[j]? = some oj by simpa using hj] at hl
  exact waitsAll_spec hl i (Array.getElem?_eq_some_iff.1 hi).1 (Ne.symm hji)
theorem wpAnyG_take {i : Nat} {oi : Oper} {v : Value} {fuel : Nat} {listed : Array Bool} {a : Act} {w : World} (hi : ops[i]? = some oi)
    (hs : Region.noSelect ops = true) (hf : Region.free .any ops listed i = true) (hr : (Region.ready .any ops listed).contains i = true)
    (hQ : ∀ c a w, Q (.panic c) (a.put oi.dst v) w → Q (.panic c) a w) (hy : YieldsIf P ops (cond (boundB ops listed i) (At w) S) oi v a) (hS : S w)
    (h : wpAnyG P .any ops Q S fuel (listed.setIfInBounds i true) (a.put oi.dst v) w) : wpAnyG P .any ops Q S (fuel + 1) listed a w := by
  cases hb : boundB ops listed i
  · rw [hb] at hy
    exact wpAnyG_first hi (Region.noSelect_spec hs) hQ fuel listed a w (Region.free_spec hi hf) (.inl fun _ h => h) (lastB_spec hi) (by simpa using hr) hy hS hS h
  · rw [hb] at hy
    exact wpAnyG_first hi (Region.noSelect_spec hs) hQ fuel listed a w (Region.free_spec hi hf) (.inr (boundB_spec hb)) (lastB_spec hi) (by simpa using hr) hy hS ⟨w.drawn, rfl⟩ h
theorem wpAnyG_all {rs : List Nat} {fuel : Nat} {listed : Array Bool} {a : Act} {w : World} (hr : Region.ready md ops listed = rs) (hne : rs ≠ [])
    (h : ∀ i ∈ rs, wpOp P ops Q i (fun a' w' => (quietB ops i = true → w' = w) ∧ (lastB ops i = true ∨ S w') ∧ wpAnyG P md ops Q S fuel (listed.setIfInBounds i true) a' w') a w) : wpAnyG P md ops Q S (fuel + 1) listed a w :=
  ⟨fun h0 => absurd (hr ▸ h0) hne, hr ▸ h⟩
theorem wpAnyG_done {listed : Array Bool} {a : Act} {w : World} (hr : Region.ready md ops listed = []) (h : Q .normal a w) :
    ∀ fuel, wpAnyG P md ops Q S fuel listed a w
  | 0 => ⟨hr, h⟩
  | _ + 1 => ⟨fun _ => h, by rw [hr]; simp⟩
theorem wp_region_G {id : Nat} {a : Act} {w : World} (hm : P.follows .mixedOrders = true)
    (h : wpAnyG P .any ops Q S ops.size (Array.replicate ops.size false) a { w with drawn := w.drawn + 1 }) : (Code.region id ops true).wp P Q a w :=
  wp_region_any hm (wpAny_of_G _ _ _ _ h)
end G

theorem denH_of {ops : Array Oper} {S : World → Prop} {K : Env → World → Prop} {Q : Exit → Act → World → Prop} {L : List Oper} {e0 : Env} (hsel : Region.noSelect ops = true)
    (hQ : ∀ e a w, Rel n e a → Off L e0 e → K e w → Q .normal a w) (hs : ∀ o ∈ ops.toList, o ∈ L) :
    ∀ (f : Nat) (listed : Array Bool) (e : Env) (a : Act) (w : World), Off L e0 e → Rel n e a → S w → denH P A n ops S K f listed e w → wpAnyG P .any ops (NoPan Q) S f listed a w := by
  intro f
  induction f with
  | zero =>
    intro listed e a w hof hr hS h
    unfold denH at h
    split at h
    · rename_i h0; exact ⟨h0, hQ e a w hr hof h⟩
    · exact h.elim
  | succ f ih =>
    intro listed e a w hof hr hS h
    unfold denH at h
    split at h
    · rename_i h0; exact wpAnyG_done (Q := NoPan Q) h0 (hQ e a w hr hof h) _
    · rename_i i rs h0
      split at h
      · rename_i j hj
        have hjm := List.mem_of_find?_eq_some hj
        have hjt := List.find?_some hj
        split at h
        · rename_i o ho
          have ho' : ops[j]? = some o := by simpa using ho
          have hoL := hs o (List.mem_of_getElem? ho)
          cases hd : dstOk n o.dst
          · rw [hd] at h; exact h.elim
          · rw [hd] at h
            simp only [cond_true] at h
            have hfree : Region.free .any ops listed j = true := by
              unfold takeB at hjt
              rw [ho] at hjt
              simp only [Bool.and_eq_true] at hjt
              exact hjt.2
            have take := fun v f listed a w => @wpAnyG_take P ops (NoPan Q) S j o v f listed a w
            rcases gd_of hr h with ⟨hw, h⟩ | ⟨hw, h⟩ | ⟨g, want, v, h, hw, hv⟩
            · obtain ⟨v, hv, h⟩ := denQ_of h
              exact take v f listed a w ho' hsel hfree (by rw [h0]; simpa using hjm) (fun c a w hp => hp.elim) (.inl ⟨hw, fun w' hw' => by rw [hr.evf]; exact hv w' hw'⟩) hS
                (ih _ _ _ w (hof.put hoL v) (hr.put hd v) hS h)
            · exact take undef f listed a w ho' hsel hfree (by rw [h0]; simpa using hjm) (fun c a w hp => hp.elim) (.inr ⟨hw, rfl⟩) hS
                (ih _ _ _ w (hof.put hoL undef) (hr.put hd undef) hS h)
            · have hp := hr.puts hd (.gd g want v)
              cases hgw : (g == want)
              · have hu : (SV.gd g want v).v = undef := by simp only [SV.v, hgw, cond_false]
                rw [hu] at hp
                exact take undef f listed a w ho' hsel hfree (by rw [h0]; simpa using hjm) (fun c a w hp => hp.elim) (.inr ⟨by rw [hw, hgw], rfl⟩) hS
                  (ih _ _ _ w (hof.puts hoL _) hp hS h)
              · have hu : (SV.gd g want v).v = v := by simp only [SV.v, hgw, cond_true]
                rw [hu] at hp
                exact take v f listed a w ho' hsel hfree (by rw [h0]; simpa using hjm) (fun c a w hp => hp.elim)
                  (.inl ⟨by rw [hw, hgw], fun w' hw' => by rw [hr.evf]; exact hv (by simpa using hgw) w' hw'⟩) hS (ih _ _ _ w (hof.puts hoL _) hp hS h)
        · exact h.elim
      · refine wpAnyG_all h0 (by simp) fun j hj => ?_
        have h := allOf_mem h j hj
        split at h
        · rename_i o ho
          have ho' : ops[j]? = some o := by simpa using ho
          have hoL := hs o (List.mem_of_getElem? ho)
          cases hd : (dstOk n o.dst && !isDef' o.op)
          · rw [hd] at h; exact h.elim
          · rw [hd] at h
            simp only [cond_true] at h
            simp only [Bool.and_eq_true] at hd
            have hqB : quietB ops j = !loudOp o.op := by unfold quietB; rw [ho]
            unfold wpOp
            simp only [ho']
            rcases gd_of hr h with ⟨hw, h⟩ | ⟨hw, h⟩ | ⟨g, want, v, h, hw, hv⟩
            · rw [hw]; simp only [if_true]
              cases hlo : loudOp o.op
              · rw [hlo] at h
                simp only [cond_false] at h
                obtain ⟨v, hv, h⟩ := denQ_of h
                exact .inl (wp_value (by rw [hr.evf]; exact hv w ⟨w.drawn, rfl⟩) ⟨fun _ => rfl, .inr h.1, ih _ _ _ w (hof.put hoL v) (hr.put hd.1 v) hS h.2⟩)
              · rw [hlo] at h
                simp only [cond_true] at h
                refine .inl (denL_of hr.evf h fun v w' h => ⟨fun hq => by rw [hqB, hlo] at hq; simp at hq, ?_⟩)
                cases hlb : (A.nilable 300000 && lastB ops j)
                · rw [hlb] at h
                  simp only [cond_false] at h
                  exact ⟨.inr h.1, ih _ _ _ w' (hof.put hoL v) (hr.put hd.1 v) h.1 h.2⟩
                · rw [hlb] at h
                  simp only [cond_true] at h
                  simp only [Bool.and_eq_true] at hlb
                  refine ⟨.inl hlb.2, ?_⟩
                  split at h
                  · rename_i h0'
                    exact wpAnyG_done (Q := NoPan Q) h0' (hQ _ _ _ (hr.put hd.1 v) (hof.put hoL v) h) _
                  · exact h.elim
            · rw [hw]; simp only [Bool.false_eq_true, if_false]
              exact ⟨fun _ => by trivial, .inr h.1, ih _ _ _ w (hof.put hoL undef) (hr.put hd.1 undef) hS h.2⟩
            · rw [hw]
              have hp := hr.puts hd.1 (.gd g want v)
              cases hgw : (g == want)
              · simp only [Bool.false_eq_true, if_false]
                have hu : (SV.gd g want v).v = undef := by simp only [SV.v, hgw, cond_false]
                rw [hu] at hp
                exact ⟨fun _ => by trivial, .inr h.1, ih _ _ _ w (hof.puts hoL _) hp hS h.2⟩
              · simp only [if_true]
                have hu : (SV.gd g want v).v = v := by simp only [SV.v, hgw, cond_true]
                rw [hu] at hp
                exact .inl (wp_value (by rw [hr.evf]; exact hv (by simpa using hgw) w ⟨w.drawn, rfl⟩) ⟨fun _ => rfl, .inr h.1, ih _ _ _ w (hof.puts hoL _) hp hS h.2⟩)
        · exact h.elim

theorem denDraw_of {id : Nat} {ops : Array Oper} {K : Env → World → Prop} {Q : Exit → Act → World → Prop} {L : List Oper} {e0 : Env} (hm : P.follows .mixedOrders = true)
    (hQ : ∀ e a w, Rel n e a → Off L e0 e → K e w → Q .normal a w) (hs : ∀ o ∈ ops.toList, o ∈ L) {e : Env} {a : Act} {w : World} (hof : Off L e0 e) (hr : Rel n e a) (h : denDraw P A n ops K e w) :
    (Code.region id ops true).wp P Q a w := by
  unfold denDraw at h
  cases hM : ops.toList.any (marked A)
  case true =>
    rw [hM] at h
    simp only [cond_true] at h
    cases hsel : Region.noSelect ops
    · rw [hsel] at h; exact h.elim
    · rw [hsel] at h
      simp only [cond_true] at h
      have h : ∃ S : World → Prop, S (w.dr (w.drawn + 1)) ∧ denH P A n ops S K ops.size (Array.replicate ops.size false) e (w.dr (w.drawn + 1)) := by
        cases hC : ops.toList.any (counted A)
        · rw [hC] at h; exact h (w.drawn + 1)
        · rw [hC] at h; exact h (w.drawn + 1) (by omega)
      obtain ⟨S, hS, h⟩ := h
      refine wp_mono (wp_region_G (S := S) (Q := NoPan Q) hm (denH_of hsel hQ hs _ _ e a _ hof hr hS h)) fun x a w hx => ?_
      cases x <;> first | exact hx | exact hx.elim
  rw [hM] at h
  simp only [cond_false] at h
  cases hB : (ops.toList.all (fun o => quietable o.op) && Region.lexB .any ops)
  · rw [hB] at h
    simp only [cond_false] at h
    cases hT : Region.lexTailB .any ops (tailAt ops.toList 0)
    · rw [hT] at h
      simp only [cond_false] at h
      cases hT2 : Region.lexTailB .any ops (tailAt2 ops.toList 0)
      · rw [hT2] at h
        simp only [cond_false] at h
        cases hsel : Region.noSelect ops
        · rw [hsel] at h; exact h.elim
        · rw [hsel] at h
          obtain ⟨S, hS, h⟩ := h (w.drawn + 1)
          refine wp_mono (wp_region_G (S := S) (Q := NoPan Q) hm (denH_of hsel hQ hs _ _ e a _ hof hr hS h)) fun x a w hx => ?_
          cases x <;> first | exact hx | exact hx.elim
      · rw [hT2] at h
        exact denTail_of hm hQ hs hof hr _ hT2 h
    · rw [hT] at h
      exact denTail_of hm hQ hs hof hr _ hT h
  · rw [hB] at h
    simp only [cond_true] at h
    have hB : Region.lexB .any ops = true := by simp only [Bool.and_eq_true] at hB; exact hB.2
    refine wp_region_quiet (C := At w) hm hB ⟨w.drawn + 1, rfl⟩ ?_
    exact denQs_of (fun e a hr hof h w' ⟨d, hw'⟩ => by subst hw'; exact hQ e a _ hr hof (h d)) _ e a hs hof hr h
end sound3

/-! ### code -/
/-- a bit for each slot that the code writes -/
def opsMask : List Oper → Nat
  | [] => 0
  | o :: r => match o.dst with
    | some d => Nat.lor (Nat.shiftLeft 1 d) (opsMask r)
    | none => opsMask r
def asgMask : Code → Nat
  | .region _ ops _ => opsMask ops.toList
  | .seq a b => Nat.lor (asgMask a) (asgMask b)
  | .cond _ a b => Nat.lor (asgMask a) (asgMask b)
  | .block _ c => asgMask c
  | .loop c => asgMask c
  | .scope c => asgMask c
  | _ => 0
def firstRegion : Code → Option Nat
  | .region id _ _ => some id
  | .seq a b => match firstRegion a with
    | some i => some i
    | none => firstRegion b
  | .cond _ a b => match firstRegion a with
    | some i => some i
    | none => firstRegion b
  | .block _ c => firstRegion c
  | .loop c => firstRegion c
  | .scope c => firstRegion c
  | _ => none
def condKey (x y : Code) : Option Nat := match firstRegion x with
  | some i => some i
  | none => (firstRegion y).map (50000 + ·)
def ndOps : List Oper → Bool
  | [] => true
  | o :: r => !isDef o.op && ndOps r
def noDef : Code → Bool
  | .region _ ops _ => ndOps ops.toList
  | .seq a b => noDef a && noDef b
  | .cond _ a b => noDef a && noDef b
  | .block _ c => noDef c
  | .loop c => noDef c
  | .scope c => noDef c
  | _ => true
def Vt : Kd → Type
  | .int _ => Int
  | .bool => Bool
  | .str => ByteArray
  | .ptr => Nat × Nat
  | .slice => Option Addr × Nat × Nat
  | .map => Option Nat
  | .agg _ => Array Value
  | _ => Value
def mkV : (k : Kd) → Vt k → Value
  | .int k, n => .int k n
  | .bool, b => .bool b
  | .str, s => .string s
  | .ptr, p => .pointer (some ⟨p.1, p.2, none⟩)
  | .slice, s => .slice s.1 s.2.1 s.2.2
  | .map, m => .map m
  | .agg _, cs => .agg cs
  | .tup _, v => v
  | .any, v => v
  | .bad, v => v
def inV : (k : Kd) → Vt k → (Value → Prop) → Prop
  | .bool, b, K => K (.bool b)
  | .int k, n, K => K (.int k n)
  | .str, s, K => K (.string s)
  | .ptr, p, K => K (.pointer (some ⟨p.1, p.2, none⟩))
  | .slice, s, K => K (.slice s.1 s.2.1 s.2.2)
  | .map, m, K => K (.map m)
  | .agg _, cs, K => K (.agg cs)
  | .tup _, v, K => K v
  | .any, v, K => K v
  | .bad, v, K => K v
def outV : (k : Kd) → Value → (Vt k → Prop) → Prop
  | .int k, .int k' n, K => cond (decide (k = k')) (K n) False
  | .bool, .bool b, K => K b
  | .str, .string s, K => K s
  | .ptr, .pointer (some ⟨b, o, none⟩), K => K (b, o)
  | .slice, .slice p l c, K => K (p, l, c)
  | .map, .map m, K => K m
  | .agg _, .agg cs, K => K cs
  | .any, v, K => K v
  | _, _, _ => False

def St : List (Tmp × Kd) → Type
  | [] => Unit
  | x :: r => Vt x.2 × St r
/-- the frame in which the slots of the mask are forgotten but for the state's variables -/
def setSt : (l : List (Tmp × Kd)) → St l → Env → (Env → Prop) → Prop
  | [], _, e, K => K e
  | x :: r, s, e, K => inV x.2 s.1 fun v => setSt r s.2 (e.put (some x.1) v) K
def getSt : (l : List (Tmp × Kd)) → Env → (St l → Prop) → Prop
  | [], _, K => K ()
  | x :: r, e, K => match e.t x.1 with
    | .val v => outV x.2 v fun v => getSt r e fun s => K (v, s)
    | .gd _ _ _ => False
def forget (m : Nat) (j : Nat → SV) (e : Env) : Env := ⟨fun i => cond (Nat.testBit m i) (j i) (e.t i), e.d⟩

def maskOk (n m : Nat) : Bool := Nat.blt m (Nat.shiftLeft 1 n)
def stOk (n : Nat) : List (Tmp × Kd) → Bool
  | [] => true
  | x :: r => Nat.blt x.1 n && stOk n r

def denReg (P : Program) (A : Ann) (n : Nat) (ops : Array Oper) (draw : Bool) (K : Env → World → Prop) (e : Env) (w : World) : Prop := match draw with
  | true => denDraw P A n ops K e w
  | false => denOps P A n ops K ops.toList e w
def den (P : Program) (A : Ann) (n : Nat) : Code → (Exit → Env → World → Prop) → Env → World → Prop
  | .skip, Q, e, w => Q .normal e w
  | .ret, Q, e, w => Q .ret e w
  | .exit i, Q, e, w => Q (.exit i) e w
  | .region i ops draw, Q, e, w => match A.regs i with
    | none => denReg P A n ops draw (fun e w => Q .normal e w) e w
    | some l => cond (noDef (.region i ops draw) && maskOk n (asgMask (.region i ops draw)) && stOk n l) (JoinC (σ := St l)
        (fun J => denReg P A n ops draw (fun e' w => getSt l e' fun s => J s w) e w)
        (fun j s w => setSt l s (forget (asgMask (.region i ops draw)) j e) fun e => Q .normal e w)) False
  | .seq x y, Q, e, w => den P A n x (fun
      | .normal, e, w => den P A n y Q e w
      | q, e, w => Q q e w) e w
  | .cond c x y, Q, e, w => match e.ev c with
    | .bool b => match (condKey x y).bind A.conds with
      | none => Cb b (den P A n x Q e w) (den P A n y Q e w)
      | some l => cond (noDef (.cond c x y) && maskOk n (asgMask (.cond c x y)) && stOk n l) (JoinC (σ := St l)
        (fun J => Cb b
          (den P A n x (fun
            | .normal, e', w => getSt l e' fun s => J s w
            | q, e', w => Q q e' w) e w)
          (den P A n y (fun
            | .normal, e', w => getSt l e' fun s => J s w
            | q, e', w => Q q e' w) e w))
        (fun j s w => setSt l s (forget (asgMask (.cond c x y)) j e) fun e => Q .normal e w)) False
    | _ => False
  | .block i c, Q, e, w => match A.joins i with
    | none => den P A n c (fun
        | .exit i', e, w => cond (Nat.beq i' i) (Q .normal e w) (Q (.exit i') e w)
        | q, e, w => Q q e w) e w
    | some l => cond (noDef c && maskOk n (asgMask c) && stOk n l) (JoinC (σ := St l)
        (fun J => den P A n c (fun
          | .exit i', e', w => cond (Nat.beq i' i) (getSt l e' fun s => J s w) (Q (.exit i') e' w)
          | .normal, e', w => getSt l e' fun s => J s w
          | q, e', w => Q q e' w) e w)
        (fun j s w => setSt l s (forget (asgMask c) j e) fun e => Q .normal e w)) False
  | .loop c, Q, e, w => match firstRegion c with
    | none => False
    | some r => cond (noDef c && maskOk n (asgMask c) && stOk n (A.loops r)) (getSt (A.loops r) e fun s => LoopC (σ := St (A.loops r))
        (fun j s w K => setSt (A.loops r) s (forget (asgMask c) j e) fun e => den P A n c (fun
          | .normal, e', w => getSt (A.loops r) e' fun s => K s w
          | q, e', w => Q q e' w) e w)
        s w) False
  | _, _, _, _ => False

def codeOps : Code → List Oper
  | .region _ ops _ => ops.toList
  | .seq a b => codeOps a ++ codeOps b
  | .cond _ a b => codeOps a ++ codeOps b
  | .block _ c => codeOps c
  | .loop c => codeOps c
  | .scope c => codeOps c
  | _ => []

theorem testBit_lor {a b i : Nat} (h : Nat.testBit (Nat.lor a b) i = false) : Nat.testBit a i = false ∧ Nat.testBit b i = false := by
  have : Nat.testBit (a ||| b) i = false := h
  rw [Nat.testBit_or] at this
  simpa using this
theorem testBit_one (d i : Nat) : Nat.testBit (Nat.shiftLeft 1 d) i = decide (d = i) := by
  show Nat.testBit (1 <<< d) i = _
  rw [Nat.one_shiftLeft, Nat.testBit_two_pow]
theorem opsMask_spec : ∀ (l : List Oper) (i : Nat), Nat.testBit (opsMask l) i = false → ∀ o ∈ l, o.dst ≠ some i
  | [], _, _, _, ho => by cases ho
  | o :: r, i, h, o', ho => by
    unfold opsMask at h
    split at h
    · rename_i d hd
      obtain ⟨h1, h2⟩ := testBit_lor h
      rw [testBit_one] at h1
      rcases List.mem_cons.1 ho with rfl | ho
      · rw [hd]; intro he; cases he; simp at h1
      · exact opsMask_spec r i h2 o' ho
    · rename_i hd
      rcases List.mem_cons.1 ho with rfl | ho
      · rw [hd]; simp
      · exact opsMask_spec r i h o' ho
theorem asgMask_spec : ∀ (c : Code) (i : Nat), Nat.testBit (asgMask c) i = false → ∀ o ∈ codeOps c, o.dst ≠ some i := by
  intro c
  induction c with
  | region id ops d => exact fun i h => opsMask_spec _ i h
  | seq a b iha ihb =>
    intro i h o ho
    obtain ⟨h1, h2⟩ := testBit_lor h
    rcases List.mem_append.1 ho with ho | ho
    · exact iha i h1 o ho
    · exact ihb i h2 o ho
  | cond x a b iha ihb =>
    intro i h o ho
    obtain ⟨h1, h2⟩ := testBit_lor h
    rcases List.mem_append.1 ho with ho | ho
    · exact iha i h1 o ho
    · exact ihb i h2 o ho
  | block id c ih => exact ih
  | loop c ih => exact ih
  | scope c ih => exact ih
  | _ => intro i _ o ho; cases ho
theorem ndOps_spec : ∀ (l : List Oper), ndOps l = true → ∀ o ∈ l, isDef o.op = false
  | [], _, _, ho => by cases ho
  | o :: r, h, o', ho => by
    simp only [ndOps, Bool.and_eq_true, Bool.not_eq_true'] at h
    rcases List.mem_cons.1 ho with rfl | ho
    · exact h.1
    · exact ndOps_spec r h.2 o' ho
theorem noDef_spec : ∀ (c : Code), noDef c = true → ∀ o ∈ codeOps c, isDef o.op = false := by
  intro c
  induction c with
  | region id ops d => exact fun h => ndOps_spec _ h
  | seq a b iha ihb =>
    intro h o ho
    simp only [noDef, Bool.and_eq_true] at h
    rcases List.mem_append.1 ho with ho | ho
    · exact iha h.1 o ho
    · exact ihb h.2 o ho
  | cond x a b iha ihb =>
    intro h o ho
    simp only [noDef, Bool.and_eq_true] at h
    rcases List.mem_append.1 ho with ho | ho
    · exact iha h.1 o ho
    · exact ihb h.2 o ho
  | block id c ih => exact ih
  | loop c ih => exact ih
  | scope c ih => exact ih
  | _ => intro _ o ho; cases ho

section sound4
variable {P : Program} {A : Ann} {n : Nat}

theorem inV_of {k : Kd} {x : Vt k} {K : Value → Prop} (h : inV k x K) : K (mkV k x) := by
  cases k <;> exact h
theorem outV_of {k : Kd} {v : Value} {K : Vt k → Prop} (h : outV k v K) : ∃ x, v = mkV k x ∧ K x := by
  cases k with
  | int k =>
    cases v <;> first | exact h.elim | skip
    rename_i k' m
    unfold outV at h
    by_cases hk : k = k'
    · subst hk; simp only [decide_true, cond_true] at h; exact ⟨m, rfl, h⟩
    · simp [hk] at h
  | ptr =>
    cases v <;> first | exact h.elim | skip
    rename_i a
    cases a with
    | none => exact h.elim
    | some a =>
      obtain ⟨b, o, sp⟩ := a
      cases sp with
      | none => exact ⟨(b, o), rfl, h⟩
      | some _ => exact h.elim
  | slice => cases v <;> first | exact h.elim | exact ⟨_, rfl, h⟩
  | bool => cases v <;> first | exact h.elim | exact ⟨_, rfl, h⟩
  | str => cases v <;> first | exact h.elim | exact ⟨_, rfl, h⟩
  | map => cases v <;> first | exact h.elim | exact ⟨_, rfl, h⟩
  | agg m => cases v <;> first | exact h.elim | exact ⟨_, rfl, h⟩
  | any => exact ⟨v, rfl, h⟩
  | tup l => exact h.elim
  | bad => exact h.elim

/-- the state's variables stand in the frame -/
def Holds : (l : List (Tmp × Kd)) → St l → Env → Prop
  | [], _, _ => True
  | x :: r, s, e => e.t x.1 = .val (mkV x.2 s.1) ∧ Holds r s.2 e
theorem getSt_of : ∀ {l : List (Tmp × Kd)} {e : Env} {K : St l → Prop}, getSt l e K → ∃ s, Holds l s e ∧ K s
  | [], _, _, h => ⟨(), trivial, h⟩
  | _ :: _, _, _, h => by
    unfold getSt at h
    split at h
    · rename_i u hu
      obtain ⟨v, hv, h⟩ := outV_of h
      obtain ⟨s, hs, h⟩ := getSt_of h
      exact ⟨(v, s), ⟨by rw [hu, hv], hs⟩, h⟩
    · exact h.elim
theorem setSt_of : ∀ {l : List (Tmp × Kd)} {s : St l} {e : Env} {K : Env → Prop}, Holds l s e → setSt l s e K → K e
  | [], _, _, _, _, h => h
  | x :: _, s, e, _, hh, h => by
    have h := inV_of h
    rw [put_same hh.1] at h
    exact setSt_of hh.2 h
theorem forget_same {c : Code} {e e' : Env} (hof : Off (codeOps c) e e') (hnd : noDef c = true) : forget (asgMask c) e'.t e = e' := by
  refine env_ext (fun i => ?_) ?_
  · show cond (Nat.testBit (asgMask c) i) (e'.t i) (e.t i) = e'.t i
    cases hb : Nat.testBit (asgMask c) i
    · exact (hof.t i (asgMask_spec c i hb)).symm
    · rfl
  · exact (hof.d (noDef_spec c hnd)).symm

theorem wp_loop_rel {c : Code} {Q : Exit → Act → World → Prop} {a : Act} {w : World} (I : Nat → Act → World → Prop) (h₀ : ∃ m, I m a w)
    (round : ∀ m a w, I m a w → c.wp P (Exit.then (fun a' w' => ∃ m', m' < m ∧ I m' a' w') Q) a w) : (Code.loop c).wp P Q a w := by
  intro b k cs
  have key : ∀ m a w, I m a w → ∃ e a' w', Q e a' w' ∧ Arrives P (lone (b.at a (.code c :: .inLoop c :: k)) cs w) b k cs e a' w' := by
    intro m
    induction m using Nat.strongRecOn with
    | _ m ih =>
      intro a w hI
      obtain ⟨e, a₁, w₁, hq, harr⟩ := round m a w hI b (.inLoop c :: k) cs
      cases e with
      | normal =>
        obtain ⟨m', hlt, hI₁⟩ := hq
        obtain ⟨e₂, a₂, w₂, hq₂, harr₂⟩ := ih m' hlt a₁ w₁ hI₁
        exact ⟨e₂, a₂, w₂, hq₂, .of_steps (Steps.trans harr (.one step_inLoop)) harr₂⟩
      | exit id => exact ⟨_, a₁, w₁, hq, .pass (x := .inLoop c) rfl (fun _ _ => .inl (by simp)) harr⟩
      | goto l => exact ⟨_, a₁, w₁, hq, .pass (x := .inLoop c) rfl (fun _ _ => .inl (by simp)) harr⟩
      | ret => exact ⟨_, a₁, w₁, hq, .pass (x := .inLoop c) rfl (fun _ _ => .inl (by simp)) harr⟩
      | panic ch => exact ⟨_, a₁, w₁, hq, .pass (x := .inLoop c) rfl (fun _ _ => .inl (by simp)) harr⟩
      | outgrown => exact ⟨_, a₁, w₁, hq, .pass (x := .inLoop c) rfl (fun _ _ => .inl (by simp)) harr⟩
  obtain ⟨m, h₀⟩ := h₀
  obtain ⟨e, a', w', hq, harr⟩ := key m a w h₀
  exact ⟨e, a', w', hq, .of_steps (.one step_loop) harr⟩

/-- **THE EVALUATOR IS SOUND.** -/
theorem den_of (hm : P.follows .mixedOrders = true) : ∀ (c : Code) (Q : Exit → Env → World → Prop) (e : Env) (a : Act) (w : World) (L : List Oper) (e0 : Env), (∀ o ∈ codeOps c, o ∈ L) → Off L e0 e →
    Rel n e a → den P A n c Q e w → c.wp P (fun x a' w' => ∃ e', Rel n e' a' ∧ Off L e0 e' ∧ Q x e' w') a w := by
  intro c
  induction c with
  | skip => exact fun Q e a w L e0 hs hof hr h => wp_skip ⟨e, hr, hof, h⟩
  | ret => exact fun Q e a w L e0 hs hof hr h => wp_ret ⟨e, hr, hof, h⟩
  | exit i => exact fun Q e a w L e0 hs hof hr h => wp_exit ⟨e, hr, hof, h⟩
  | region id ops draw =>
    intro Q e a w L e0 hs hof hr h
    unfold den at h
    split at h
    · cases draw with
      | true => exact denDraw_of hm (K := fun e w => Q .normal e w) (fun e a w hr hof h => ⟨e, hr, hof, h⟩) hs hof hr h
      | false => exact wp_region_list (denOps_of (K := fun e w => Q .normal e w) (fun e a w hr hof h => ⟨e, hr, hof, h⟩) _ e a w hs hof hr h)
    · rename_i l hl
      cases hb : (noDef (.region id ops draw) && maskOk n (asgMask (.region id ops draw)) && stOk n l)
      · rw [hb] at h; exact h.elim
      · rw [hb] at h
        simp only [Bool.and_eq_true] at hb
        obtain ⟨J, hJ, hrest⟩ := h
        have back : ∀ e' a' w', Rel n e' a' → Off (codeOps (.region id ops draw)) e e' → getSt l e' (fun s => J s w') → ∃ e', Rel n e' a' ∧ Off L e0 e' ∧ Q .normal e' w' := by
          intro e' a' w' hr' hof' h'
          obtain ⟨s, hh, h'⟩ := getSt_of h'
          have := hrest e'.t s w' h'
          simp only [forget_same hof' hb.1.1] at this
          exact ⟨e', hr', hof.trans hof' hs, setSt_of hh this⟩
        cases draw with
        | true => exact denDraw_of hm (K := fun e w => getSt l e fun s => J s w) (L := codeOps (.region id ops true)) (e0 := e) (fun e' a' w' hr' hof' h' => back e' a' w' hr' hof' h') (fun o ho => ho) (Off.refl _ _) hr hJ
        | false => exact wp_region_list (denOps_of (K := fun e w => getSt l e fun s => J s w) (L := codeOps (.region id ops false)) (e0 := e) (fun e' a' w' hr' hof' h' => back e' a' w' hr' hof' h') _ e a w (fun o ho => ho) (Off.refl _ _) hr hJ)
  | seq x y ihx ihy =>
    intro Q e a w L e0 hs hof hr h
    refine wp_seq (wp_mono (ihx _ e a w L e0 (fun o ho => hs o (List.mem_append_left _ ho)) hof hr h) fun q a' w' ⟨e', hr', hof', h'⟩ => ?_)
    cases q <;> first
      | exact ihy Q e' a' w' L e0 (fun o ho => hs o (List.mem_append_right _ ho)) hof' hr' h'
      | exact ⟨e', hr', hof', h'⟩
  | cond cnd x y ihx ihy =>
    intro Q e a w L e0 hs hof hr h
    unfold den at h
    split at h
    · rename_i b hc
      split at h
      · refine wp_cond (t := b) ((hr.ev cnd).trans hc) ?_
        cases b
        · exact ihy Q e a w L e0 (fun o ho => hs o (List.mem_append_right _ ho)) hof hr h
        · exact ihx Q e a w L e0 (fun o ho => hs o (List.mem_append_left _ ho)) hof hr h
      · rename_i l hl
        cases hb : (noDef (.cond cnd x y) && maskOk n (asgMask (.cond cnd x y)) && stOk n l)
        · rw [hb] at h; exact h.elim
        · rw [hb] at h
          simp only [Bool.and_eq_true] at hb
          obtain ⟨J, hJ, hrest⟩ := h
          have back : ∀ e' a' w', Rel n e' a' → Off (codeOps (.cond cnd x y)) e e' → getSt l e' (fun s => J s w') → ∃ e', Rel n e' a' ∧ Off L e0 e' ∧ Q .normal e' w' := by
            intro e' a' w' hr' hof' h'
            obtain ⟨s, hh, h'⟩ := getSt_of h'
            have := hrest e'.t s w' h'
            simp only [forget_same hof' hb.1.1] at this
            exact ⟨e', hr', hof.trans hof' hs, setSt_of hh this⟩
          have fin : ∀ q a' w', (∃ e', Rel n e' a' ∧ Off (codeOps (.cond cnd x y)) e e' ∧ (match q, e', w' with
              | .normal, e', w => getSt l e' fun s => J s w
              | q, e', w => Q q e' w)) → ∃ e', Rel n e' a' ∧ Off L e0 e' ∧ Q q e' w' := by
            rintro q a' w' ⟨e', hr', hof', h'⟩
            cases q with
            | normal => exact back e' a' w' hr' hof' h'
            | _ => exact ⟨e', hr', hof.trans hof' hs, h'⟩
          refine wp_cond (t := b) ((hr.ev cnd).trans hc) ?_
          cases b
          · exact wp_mono (ihy _ e a w (codeOps (.cond cnd x y)) e (fun o ho => List.mem_append_right _ ho) (Off.refl _ _) hr hJ) fin
          · exact wp_mono (ihx _ e a w (codeOps (.cond cnd x y)) e (fun o ho => List.mem_append_left _ ho) (Off.refl _ _) hr hJ) fin
    · exact h.elim
  | block i c ih =>
    intro Q e a w L e0 hs hof hr h
    unfold den at h
    split at h
    · refine wp_block (wp_mono (ih _ e a w L e0 hs hof hr h) fun q a' w' ⟨e', hr', hof', h'⟩ => ?_)
      cases q with
      | exit i' =>
        simp only [Exit.inBlock]
        by_cases hi : i' = i
        · subst hi; rw [if_pos rfl]; simp only [Nat.beq_refl, cond_true] at h'; exact ⟨e', hr', hof', h'⟩
        · have hb : Nat.beq i' i = false := Bool.eq_false_iff.2 fun hb => hi (Nat.eq_of_beq_eq_true hb)
          rw [if_neg hi]; simp only [hb, cond_false] at h'; exact ⟨e', hr', hof', h'⟩
      | _ => exact ⟨e', hr', hof', h'⟩
    · rename_i l hl
      cases hb : (noDef c && maskOk n (asgMask c) && stOk n l)
      · rw [hb] at h; exact h.elim
      · rw [hb] at h
        simp only [Bool.and_eq_true] at hb
        obtain ⟨J, hJ, hrest⟩ := h
        have back : ∀ e' a' w', Rel n e' a' → Off (codeOps c) e e' → getSt l e' (fun s => J s w') → ∃ e', Rel n e' a' ∧ Off L e0 e' ∧ Q .normal e' w' := by
          intro e' a' w' hr' hof' h'
          obtain ⟨s, hh, h'⟩ := getSt_of h'
          have := hrest e'.t s w' h'
          simp only [forget_same hof' hb.1.1] at this
          exact ⟨e', hr', hof.trans hof' hs, setSt_of hh this⟩
        refine wp_block (wp_mono (ih _ e a w (codeOps c) e (fun _ h => h) (Off.refl _ _) hr hJ) fun q a' w' ⟨e', hr', hof', h'⟩ => ?_)
        cases q with
        | exit i' =>
          simp only [Exit.inBlock]
          by_cases hi : i' = i
          · subst hi; rw [if_pos rfl]; simp only [Nat.beq_refl, cond_true] at h'; exact back e' a' w' hr' hof' h'
          · have hb' : Nat.beq i' i = false := Bool.eq_false_iff.2 fun hb => hi (Nat.eq_of_beq_eq_true hb)
            rw [if_neg hi]; simp only [hb', cond_false] at h'; exact ⟨e', hr', hof.trans hof' hs, h'⟩
        | normal => exact back e' a' w' hr' hof' h'
        | _ => exact ⟨e', hr', hof.trans hof' hs, h'⟩
  | loop c ih =>
    intro Q e a w L e0 hs hof hr h
    unfold den at h
    split at h
    · exact h.elim
    · rename_i r hr0
      generalize A.loops r = l at h
      cases hb : (noDef c && maskOk n (asgMask c) && stOk n l)
      · rw [hb] at h; exact h.elim
      · rw [hb] at h
        simp only [Bool.and_eq_true] at hb
        simp only [cond_true] at h
        obtain ⟨s, hh, I, ⟨m, hI⟩, round⟩ := getSt_of h
        refine wp_loop_rel (fun m a' w' => ∃ e' s, Rel n e' a' ∧ Off (codeOps c) e e' ∧ Holds l s e' ∧ I m s w') ⟨m, e, s, hr, Off.refl _ _, hh, hI⟩ ?_
        rintro m a' w' ⟨e', s, hr', hof', hh', hI'⟩
        have hround := round e'.t m s w' hI'
        simp only [forget_same hof' hb.1.1] at hround
        have hround := setSt_of hh' hround
        refine wp_mono (ih _ e' a' w' (codeOps c) e (fun _ h => h) hof' hr' hround) fun q a'' w'' ⟨e'', hr'', hof'', h''⟩ => ?_
        cases q with
        | normal =>
          obtain ⟨s'', hh'', m', hlt, hI''⟩ := getSt_of h''
          exact ⟨m', hlt, e'', s'', hr'', hof'', hh'', hI''⟩
        | _ => exact ⟨e'', hr'', hof.trans hof'' hs, h''⟩
  | _ => intro Q e a w L e0 hs hof hr h; exact h.elim

/-! ### a call -/
def rets (P : Program) : List ResultVar → Env → World → (List Value → Prop) → Prop
  | [], _, _, K => K []
  | .tmp t :: r, e, w, K => rets P r e w fun vs => K ((e.t t).v :: vs)
  | .cell a t :: r, e, w, K => match (e.t a).v with
    | .pointer (some ⟨b, o, none⟩) => match kd1 P t with
      | .agg n => LdA n b o (At w) fun cs => rets P r e w fun vs => K (.agg cs :: vs)
      | .bad => False
      | _ => LdV b o (At w) fun v => rets P r e w fun vs => K (v :: vs)
    | _ => False
def one : List Value → Value
  | [v] => v
  | vs => .tuple vs.toArray
def Ret (d : List Deferred) (p : Prop) : Prop := d = [] ∧ p
def retQ (P : Program) (fn : Func) (R : Value → World → Prop) : Exit → Env → World → Prop
  | .normal, e, w => rets P fn.results.toList e w fun vs => Ret e.d (R (one vs) w)
  | .ret, e, w => rets P fn.results.toList e w fun vs => Ret e.d (R (one vs) w)
  | _, _, _ => False

def resOf (tmps : Array Value) : ResultVar → Sem Value
  | .tmp t => pure (tmps.getD t undef)
  | .cell x t => do loadVar t (← asAddr (tmps.getD x undef))
theorem asAddr_run (a : Addr) (w : World) : (asAddr (.pointer (some a))).run P w = .ok a w := rfl

theorem rets_of : ∀ (l : List ResultVar) {e : Env} {a : Act} {w : World} {K : List Value → Prop}, Rel n e a → rets P l e w K →
    ∃ vs, (l.mapM (m := Sem) (resOf a.tmps)).run P w = .ok vs w ∧ K vs
  | [], _, _, _, _, _, h => ⟨[], rfl, h⟩
  | .tmp t :: r, e, a, w, K, hr, h => by
    obtain ⟨vs, hvs, h⟩ := rets_of r hr h
    refine ⟨_, ?_, h⟩
    rw [List.mapM_cons]
    simp only [resOf, Sem.run_bind, Sem.run_pure, Result.andThen_ok, hvs, hr.t t]
  | .cell x t :: r, e, a, w, K, hr, h => by
    unfold rets at h
    split at h
    · rename_i b o hx
      have hx' : a.tmps.getD x undef = .pointer (some ⟨b, o, none⟩) := (hr.t x).trans hx
      split at h
      · rename_i m hk
        obtain ⟨cs, hs, hc, h⟩ := h
        obtain ⟨vs, hvs, h⟩ := rets_of r hr h
        refine ⟨_, ?_, h⟩
        rw [List.mapM_cons]
        simp only [resOf, Sem.run_bind, hx', asAddr_run, Sem.run_pure, Result.andThen_ok, run_load_agg hk hs (hc w ⟨w.drawn, rfl⟩), hvs]
      · exact h.elim
      · rename_i hk1 hk2
        obtain ⟨v, hv, h⟩ := h
        obtain ⟨vs, hvs, h⟩ := rets_of r hr h
        obtain ⟨d, hu⟩ := kd1_some (P := P) (t := t) hk2
        refine ⟨_, ?_, h⟩
        rw [List.mapM_cons]
        simp only [resOf, Sem.run_bind, hx', asAddr_run, Sem.run_pure, Result.andThen_ok, run_load_one hu (fun n hn => hk1 n hn) (hv w ⟨w.drawn, rfl⟩), hvs]
    · exact h.elim

theorem results_of {fn : Func} {e : Env} {a : Act} {w : World} {R : Value → World → Prop} (hr : Rel n e a) (h : rets P fn.results.toList e w fun vs => Ret e.d (R (one vs) w)) :
    ∃ v, (results fn a.tmps).run P w = .ok v w ∧ e.d = [] ∧ R v w := by
  obtain ⟨vs, hvs, h⟩ := rets_of _ hr h
  refine ⟨_, ?_, h⟩
  have e1 : results fn a.tmps = (do let vs ← fn.results.mapM (resOf a.tmps); pure (if h : vs.size = 1 then vs[0] else .tuple vs)) := rfl
  rw [e1, ← Array.toArray_toList (xs := fn.results), List.mapM_toArray]
  simp only [Sem.run_bind, map_eq_pure_bind, hvs, Result.andThen_ok, Sem.run_pure]
  congr 1
  match vs with
  | [] => rfl
  | [v] => rfl
  | _ :: _ :: _ => simp [one]

def bodyOf (fn : Func) : Code := match fn.body with
  | some c => c
  | none => .skip
def env0 (args : List Value) : Env := ⟨fun i => .val ((args[i]?).getD undef), []⟩

theorem calls_of_den {f : FuncId} {fn : Func} {c : Code} {args : List Value} {w : World} {R : Value → World → Prop} (A : Ann) (hm : P.follows .mixedOrders = true)
    (hf : P.funcs[f]? = some fn) (hb : fn.body = some c) (hargs : Nat.ble args.length fn.ntmps = true) (h : den P A fn.ntmps c (retQ P fn R) (env0 args) w) : CallV P f args.toArray w R := by
  have hle : args.length ≤ fn.ntmps := Nat.le_of_ble_eq_true hargs
  refine calls_of_wp hf hb ?_
  have hr : Rel fn.ntmps (env0 args) { tmps := args.toArray ++ Array.replicate (fn.ntmps - args.toArray.size) undef, defers := [] } := by
    refine ⟨by simp; omega, fun i => ?_, rfl⟩
    simp only [env0, SV.v, Array.getD_eq_getD_getElem?, Array.getElem?_append, List.size_toArray, List.getElem?_toArray, Array.getElem?_replicate]
    by_cases hi : i < args.length
    · simp [hi]
    · rw [if_neg hi, List.getElem?_eq_none (by omega)]
      split <;> rfl
  refine wp_mono (den_of hm c _ _ _ w (codeOps c) _ (fun _ h => h) (Off.refl _ _) hr h) fun q a' w' ⟨e', hr', _, h'⟩ => ?_
  cases q <;> first
    | exact h'.elim
    | (obtain ⟨v, hv, hd, hR⟩ := results_of hr' h'
       exact ⟨hr'.d.trans hd, v, hv, v, rfl, hR⟩)

theorem calls_of_F {f : FuncId} {fn : Func} {args : List Value} {w : World} {R : Value → World → Prop} {F : Prop} (A : Ann) (hm : P.follows .mixedOrders = true)
    (hf : P.funcs[f]? = some fn) (hb : fn.body.isSome = true) (hargs : Nat.ble args.length fn.ntmps = true) (hF : den P A fn.ntmps (bodyOf fn) (retQ P fn R) (env0 args) w = F) (h : F) :
    CallV P f args.toArray w R := by
  subst hF
  cases hc : fn.body with
  | none => rw [hc] at hb; cases hb
  | some c =>
    have he : bodyOf fn = c := by unfold bodyOf; rw [hc]
    rw [he] at h
    exact calls_of_den A hm hf hc hargs h
end sound4
end Go.Ev
